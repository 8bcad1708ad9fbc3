/- The abstract layer, part 31: calls that leave blocks as they are, freezing within a region, copy, arrays in slices. -/
import Derived.Test.YtpoehckffpbfiaaAb30
namespace Go.Ab
open Go.RowKit

section
variable {P : Program} {o : Oper} {s : St}

theorem as_same {v : AV} {wr : Mem} {acc nw : List Nat} (h : AStep P o s ⟨v, wr, acc, nw⟩) (hnw : nw = []) (hw : ∀ b x, lk b wr = some x → b ∈ acc ∧ lk b s.m = some x) : AStep P o s ⟨v, [], acc, []⟩ := by
  subst hnw
  intro s' hn hop hacc _
  have h1 := h s' hn hop hacc (by simp)
  intro c a w next Q hs hnext
  refine h1 c a w next Q hs fun a' w' hs' => hnext a' w' ?_
  obtain ⟨φ, R, q⟩ := hs'
  have hS : Same (s'.app o.dst ⟨v, wr, acc, []⟩) (s'.app o.dst ⟨v, [], acc, []⟩) := ⟨rfl, fun _ => rfl, fun b => ?_⟩
  · exact ⟨φ, R, hS.srelX q⟩
  show lk b (wr ++ s'.m) = lk b ([] ++ s'.m)
  rw [lk_append, List.nil_append]
  cases hq : lk b wr with
  | none => rfl
  | some x =>
    obtain ⟨g1, g2⟩ := hw b x hq
    rw [hacc b g1, g2]
    rfl

def sameM (m : Mem) : Mem → Prop
  | [] => True
  | (b, x) :: l => lk b m = some x ∧ sameM m l
theorem sameM_get {m : Mem} : ∀ {W : Mem}, sameM m W → ∀ b x, lk b W = some x → lk b m = some x
  | [], _, b, x, h => by simp [lk] at h
  | (b', x') :: l, hW, b, x, h => by
    rw [lk_cons] at h
    split at h
    · subst_vars
      cases h
      exact hW.1
    · exact sameM_get hW.2 b x h
theorem newNames_nil {ρ : Rho} : ∀ {W : Mem}, (W.all fun p => (srcs ρ).contains p.1) = true → newNames ρ W = []
  | [], _ => rfl
  | (t, x) :: l, h => by
    rw [List.all_cons, Bool.and_eq_true] at h
    simp only [newNames, h.1]
    exact newNames_nil h.2

variable {tt : TT} {ops : Array Oper} {draw : Bool} {Q : St → Prop} {acc : List (Option Eff)} {l : List Oper}

/-- A call with blocks that are handed over, and come back as they were. -/
theorem go_callR {o : Oper} {n f : Nat} {t t' : List (Nat × AV)} {m : Mem} {fo : Operand} {xs : Array Operand} {tys : Array TypeId} {fs cs axs avs args : List AV} {M M' : Mem} {r : AV} (v : AV) (L W : Mem) (ρ σ : Rho) (hf : FnOK P f) (H : Holds P f args M r M') (hg : gchk ops ⟨n, t, m⟩ o = some true) (ho : o.op = fcall fo xs tys)
    (hfo : (⟨n, t, m⟩ : St).ev fo = .clo f fs cs) (hax : forceL ⟨n, t, m⟩ xs.toList = some axs) (hav : fs ++ axs ++ cs = avs) (hL : lendsOK ρ m L) (hargs : wkL L ρ avs args) (hi : injB ρ = true) (hk : (ρ.all fun p => (lk p.1 M).isSome) = true) (hM : wkM ρ m M)
    (hσi : injB σ = true) (hσk : (σ.all fun p => (lk p.1 W).isSome) = true) (hW : wkM σ M' W) (hv : wkP [] σ r v) (hback : backOK ρ M σ W = true) (hns : L ≠ [] → noSl v = true ∧ noSlW W) (hsame : sameM m W) (hall : ((srcs ρ).all fun b => (lk b W).isSome) = true) (hin : (W.all fun p => (srcs ρ).contains p.1) = true)
    (hp : putF n t o.dst v = some t') (h : Go P ops draw Q l ⟨n, t', m⟩ (some ⟨v, [], srcs ρ ++ L.map (·.1), []⟩ :: acc)) : Go P ops draw Q (o :: l) ⟨n, t, m⟩ acc := by
  obtain ⟨fn, h1, h2, h3⟩ := hf
  have hA := as_call (M := M) (M' := M') (L := L) (W := W) (ρ := ρ) (σ := σ) (s := ⟨n, t, m⟩) ho h1 h2 h3 hfo (by rw [forceL_eq _ _ _ hax]; exact hav) H hL hargs hi hk hM hσi hσk hW hv hback hns
  refine go_step hg (as_same hA (newNames_nil hin) fun b x hb => ?_) rfl hp rfl h
  rw [lk_append] at hb
  cases hq : lk b W with
  | some y =>
    rw [hq] at hb
    cases hb
    have hmem := List.all_eq_true.1 hin _ (lk_mem hq)
    exact ⟨by simp at hmem; simp [hmem], sameM_get hsame b x hq⟩
  | none =>
    rw [hq] at hb
    have hb' : lk b (deadL (srcs ρ)) = some x := hb
    rw [lk_deadL] at hb'
    split at hb'
    · rename_i hin'
      have := List.all_eq_true.1 hall b hin'
      rw [hq] at this
      cases this
    · cases hb'

variable {lim : Nat}
/-- A region that freezes slices between two of its operations. -/
theorem awp_goS {id : Nat} {Q : Exit → St → Prop} {l1 l2 : List Oper} (k : Nat) (hl1 : ops.toList.take k = l1) (hl2 : ops.toList.drop k = l2)
    (h : Go P ops false (fun s1 => ∃ s2, WkF s1 s2 ∧ Go P ops false (Q .normal) l2 s2 []) l1 s []) : AWP P lim (.region id ops false) Q s := by
  intro c hc0 a w hs
  have hops : ops.toList = l1 ++ l2 := by rw [← hl1, ← hl2, List.take_append_drop]
  have hsz : ops.size = l1.length + l2.length := by rw [← Array.length_toList, hops]; simp
  have hget : ∀ i, ops[i]? = (l1 ++ l2)[i]? := fun i => by rw [← hops, Array.getElem?_toList]
  obtain ⟨rr, h1, _, h3⟩ := h
  obtain ⟨i1, i2⟩ := items_spec l1 rr 0 h1.symm
  refine wp_region ?_
  have := wpOps_run2 (P := P) (js := (List.range l2.length).map (l1.length + ·)) (Q := fun e a' w' => ∃ s', SRel c s' a' w' ∧ Q e s') (ops := ops) (c := c) (fun s1 a1 w1 hq hs1 => ?_) (items 0 l1 rr) s a w (fun x hx => by
    obtain ⟨g1, g2⟩ := i2 x hx
    rw [Nat.sub_zero] at g2
    rw [hget, List.getElem?_append_left (List.getElem?_eq_some_iff.1 g2).1]
    exact g2) (h3 0) hs
  · rw [i1] at this
    rw [hsz, List.range_add]
    simpa using this
  · obtain ⟨s2, hw, rr2, k1, _, k3⟩ := hq
    obtain ⟨j1, j2⟩ := items_spec l2 rr2 l1.length k1.symm
    have := wpOps_run2 (P := P) (js := []) (Q := fun e a' w' => ∃ s', SRel c s' a' w' ∧ Q e s') (K := Q .normal) (ops := ops) (c := c) (fun s a w hq hs => ⟨s, hs, hq⟩) (items l1.length l2 rr2) s2 a1 w1 (fun x hx => by
      obtain ⟨g1, g2⟩ := j2 x hx
      rw [hget, List.getElem?_append_right g1]
      exact g2) (k3 l1.length) (hs1.freeze hw)
    rw [j1, List.append_nil] at this
    exact this

theorem goS_freeze {G : St → Prop} {n : Nat} {t : List (Nat × AV)} {m : Mem} (K KB : List Nat) (L : Mem) (ρ : Rho) (mt : List (Nat × AV)) (mm : Mem) {kt : List (Nat × AV)} {km : Mem} (hk : keepF t K = some kt) (hkb : keepM m KB = some km) (hr : rhoOK ρ (mm ++ km) = true) (ht : idT ρ kt = true) (hm : idM ρ km = true)
    (hL : lendsOK ρ m L) (hmt : wkTL L ρ ⟨n, t, m⟩ mt) (hmm : wkML L ρ m mm) (h : G ⟨n, mt ++ kt, mm ++ km⟩) : ∃ s2, WkF ⟨n, t, m⟩ s2 ∧ G s2 :=
  ⟨⟨n, mt ++ kt, mm ++ km⟩, ⟨L, ρ, rfl, hr, hL, wkTL_append hmt (wkT_up (keepF_wk hk ht)), wkML_append hmm (wkM_up (keepM_wk hkb hm))⟩, h⟩

/-! copy -/
theorem as_sliceArr {t e b len : Nat} {x : Operand} {lo hi : Option Operand} {D E : TyD} {k : Blk} {l h : Int} (ho : o.op = .slice t x lo hi none) (hD : tyOf P t = some D) (hk : D.k = .slice e) (hE : tyOf P e = some E) (hx : s.ev x = .arr b 0 len) (hb : lk b s.m = some (some k)) (hez : k.esz = E.size) (hlo : bndOK s lo 0 l) (hhi : bndOK s hi len h) (h0 : 0 ≤ l) (h1 : l < len) (h2 : l ≤ h) (h3 : h ≤ len) :
    AStep P o s ⟨.arr b l.toNat (h.toNat - l.toNat), [], [b], []⟩ := by
  have hud := slice_und hD hk
  intro s' _ hop hacc _
  refine opok_val fun c φ R a w hs => ?_
  have e0 := hs.ev x
  rw [hop x (by simp [ho, Op.operands]), hx] at e0
  generalize hq : a.eval x = q at e0
  cases e0 with
  | arr0 => omega
  | @arr _ _ _ _ cap hm hbh hlc hcc =>
    obtain ⟨oh, ho', hr⟩ := hs.m.rel b k (by rw [hacc b (by simp)]; exact hb)
    rw [hbh] at ho'
    cases ho'
    have hE' : E.size = hm.esz := by rw [← hr.1, hez]
    have hbd := run_bounds (P := P) w true len cap (lo.map a.eval) (hi.map a.eval) l h (by
      cases lo with
      | none => exact hlo
      | some y =>
        obtain ⟨k, hk⟩ := hlo
        exact ⟨k, bnd_run hs hk (hop y (by simp [ho, Op.operands]))⟩) (by
      cases hi with
      | none => exact hhi
      | some y =>
        obtain ⟨k, hk⟩ := hhi
        exact ⟨k, bnd_run hs hk (hop y (by cases lo <;> simp [ho, Op.operands]))⟩) h0 h2 (by omega) hlc
    have hne : cap ≠ l.toNat := by omega
    refine ⟨.slice (some ⟨hm.blk, l.toNat * hm.esz, none⟩) (h.toNat - l.toNat) (cap - l.toNat), ?_, .arr hbh (by omega) (by omega)⟩
    simp only [execOp, ho, hq, Instr.sliceAt, Instr.slice]
    simp [run_underlying hud w, hbd, run_sizeOf hE w, addr_add, hne, hE']

theorem seg_list {α : Type} (xs ys : List α) (off K i : Nat) (h1 : off + K ≤ xs.length) (h2 : K ≤ ys.length) : (xs.take off ++ ys.take K ++ xs.drop (off + K))[i]? = if off ≤ i ∧ i < off + K then ys[i - off]? else xs[i]? := by
  have l1 : (xs.take off).length = off := by simp; omega
  have l2 : (ys.take K).length = K := by simp; omega
  by_cases hi : i < off
  · rw [List.append_assoc, List.getElem?_append_left (by omega), List.getElem?_take, if_pos hi, if_neg (by omega)]
  · by_cases hj : i < off + K
    · rw [List.getElem?_append_left (by simp; omega), List.getElem?_append_right (by omega), l1, List.getElem?_take, if_pos (by omega), if_pos (by omega)]
    · rw [List.getElem?_append_right (by simp; omega), if_neg (by omega), List.getElem?_drop]
      congr 1
      simp
      omega

theorem as_copy {t e b off len : Nat} {x y : Operand} {D E : TyD} {k : Blk} {ys : List AV} (ho : o.op = bcall .copy #[x, y] #[t, t]) (h : tyOf P t = some D) (hk : D.k = .slice e) (hE : tyOf P e = some E) (hz : E.size = 1) (hx : s.ev x = .arr b off len) (hb : lk b s.m = some (some k)) (hkz : k.esz = 1) (hl : off + len ≤ k.xs.length) (hlen0 : 0 < len) (hy0 : ys ≠ [])
    (hsrc : (s.ev y = .sl ys ∧ ∀ x ∈ ys, x.cells.length = 1) ∨ ∃ off2 len2, s.ev y = .arr b off2 len2 ∧ off2 + len2 ≤ k.xs.length ∧ ys = (k.xs.drop off2).take len2) (hc : ys.all (fun x => x.cells.all AV.cellish) = true) :
    AStep P o s ⟨.sc (.int .i64 ((min ys.length len : Nat) : Int)), [(b, some ⟨k.ty, k.esz, k.xs.take off ++ ys.take (min ys.length len) ++ k.xs.drop (off + min ys.length len)⟩)], [b], []⟩ := by
  intro s' hn' hop hacc hnw
  refine opok_run fun c φ R a w hs => ?_
  have hb' : lk b s'.m = some (some k) := by rw [hacc b (by simp)]; exact hb
  have h1 := hs.ev x
  rw [hop x (mem_bcall ho x (by simp)), hx] at h1
  have h2 := hs.ev y
  rw [hop y (mem_bcall ho y (by simp))] at h2
  have hS : SrcOK w R φ 1 ys (a.eval y) := by
    rcases hsrc with ⟨hy, hz⟩ | ⟨off2, len2, hy, hl2, rfl⟩
    · rw [hy] at h2; exact src_sl h2 hz
    · rw [hy] at h2
      exact src_arr hs h2 hb' hkz hl2
  generalize hq : a.eval x = q at h1
  cases h1 with
  | arr0 => omega
  | @arr _ _ _ _ cap hm hbh hlc hcc =>
    obtain ⟨oh, ho', hr⟩ := hs.m.rel b k hb'
    rw [hbh] at ho'
    cases ho'
    have hr0 := hr
    obtain ⟨r1, r2, r3, r4, C, r5, r6, r7⟩ := hr
    have hez : hm.esz = 1 := by rw [← r1, hkz]
    obtain ⟨ad, cap2, news, hv, hnl, hnews, hnew⟩ := hS.some hy0
    have hone := news_oneCell (by omega) hnl hc hnew
    have hfit : off + len ≤ C.size := by rw [r6, hez]; omega
    have hcs : (news.take (min ys.length len)).length = min ys.length len := by simp; omega
    have hrun := run_copy_row (P := P) w t t o.type e hm.blk off len cap ad ys.length cap2 C k.ty (news.take (min ys.length len)) (slice_und h hk) (by
      obtain ⟨i, z, u, hi, _, _, hsz, _⟩ := tyOf_facts hE
      rw [hi]
      simp [hsz, hz]) r5 hcs (fun j v hj => by
      rw [List.getElem?_take] at hj
      split at hj
      · exact hnews j v hj
      · cases hj) (by omega) (fun v hv => hone v (List.mem_of_mem_take hv))
    rw [hcs] at hrun
    have hfit' : off + (news.take (min ys.length len)).length ≤ C.toList.length := by simp; omega
    have hnR := hs.m.notR b k hm hb' hbh
    have hw0 : ∀ q, R q → (w.setRow hm.blk (C.toList.take off ++ news.take (min ys.length len) ++ C.toList.drop (off + min ys.length len)).toArray).heap[q]? = w.heap[q]? := fun q hq => setRow_other w hm.blk q _ (fun e => hnR (e ▸ hq))
    have hwr := hs.write (b := b) (k := k) (k' := ⟨k.ty, k.esz, k.xs.take off ++ ys.take (min ys.length len) ++ k.xs.drop (off + min ys.length len)⟩) (x := hm) hb' hbh (C.toList.take off ++ news.take (min ys.length len) ++ C.toList.drop (off + min ys.length len)).toArray
      ⟨r1, r2, by simp; omega, r4, _, setRow_heap w hm.blk C _ k.ty _ r5, by rw [← r6, List.size_toArray]; simp only [List.length_append, List.length_take, List.length_drop, Array.length_toList]; omega, fun i x hx => by
        dsimp only at hx
        rw [seg_list _ _ _ _ _ (by omega) (by omega)] at hx
        have hget : ∀ j, (C.toList.take off ++ news.take (min ys.length len) ++ C.toList.drop (off + min ys.length len)).toArray[j]? = if off ≤ j ∧ j < off + min ys.length len then news[j - off]? else C[j]? := fun j => by
          have := seg_list C.toList news off (min ys.length len) j (by simp; omega) (by omega)
          rw [List.getElem?_toArray, this]
          split
          · rfl
          · exact Array.getElem?_toList
        rw [hez]
        by_cases hi : off ≤ i ∧ i < off + min ys.length len
        · rw [if_pos hi] at hx
          obtain ⟨q1, q2⟩ := hnew (i - off) x hx
          refine ⟨q1, fun j c' hj => ?_⟩
          have hj0 : j = 0 := by have := (List.getElem?_eq_some_iff.1 hj).1; omega
          subst hj0
          obtain ⟨u, hu, hru⟩ := q2 0 c' hj
          refine ⟨u, ?_, hru.mono hw0 (fun _ h => h) (fun _ _ h => h)⟩
          rw [hget, if_pos (by omega), ← hu]
          congr 1
          omega
        · rw [if_neg hi] at hx
          obtain ⟨q1, q2⟩ := r7 i x hx
          rw [hez] at q1 q2
          refine ⟨q1, fun j c' hj => ?_⟩
          have hj0 : j = 0 := by have := (List.getElem?_eq_some_iff.1 hj).1; omega
          subst hj0
          obtain ⟨u, hu, hru⟩ := q2 0 c' hj
          refine ⟨u, ?_, hru.mono hw0 (fun _ h => h) (fun _ _ h => h)⟩
          rw [hget, if_neg (by omega)]
          exact hu⟩
    refine ⟨.int .i64 ((min ys.length len : Nat) : Int), _, φ, R, ?_, SRelX.app (s := s') (m := (b, some ⟨k.ty, k.esz, k.xs.take off ++ ys.take (min ys.length len) ++ k.xs.drop (off + min ys.length len)⟩) :: s'.m) hwr o.dst (.sc rfl)⟩
    simp only [hez, Nat.mul_one] at hq
    simp [run_bcall ho, builtin, hq, hv, hrun, goInt]


/-- A part of a list, written over another one. -/
def cpy {α : Type} (xs ys : List α) (off len : Nat) : List α := xs.take off ++ ys.take (min ys.length len) ++ xs.drop (off + min ys.length len)
theorem cpy_len {α : Type} {xs ys zs : List α} {off len : Nat} (h : cpy xs ys off len = zs) (hc : (Nat.ble (off + len) xs.length && (Nat.blt 0 len && !ys.isEmpty)) = true) : zs.length = xs.length := by
  subst h
  simp only [Bool.and_eq_true] at hc
  have := Nat.le_of_ble_eq_true hc.1
  unfold cpy
  simp
  omega
variable {n : Nat} {t : List (Nat × AV)} {m : Mem}
theorem go_sliceA {o : Oper} {ty e b len bt bz : Nat} {t' : List (Nat × AV)} {x : Operand} {lo hi : Option Operand} {D E : TyD} {xs : List AV} (a c : Int) (hc : (decide (0 ≤ a) && (decide (a < (len : Int)) && (decide (a ≤ c) && decide (c ≤ (len : Int))))) = true) (ht : TTok P tt) (hg : gchk ops ⟨n, t, m⟩ o = some true) (ho : o.op = .slice ty x lo hi none) (hD : lk ty tt = some D) (hk : D.k = .slice e) (hE : lk e tt = some E)
    (hx : (⟨n, t, m⟩ : St).ev x = .arr b 0 len) (hb : lk b m = some (some ⟨bt, bz, xs⟩)) (hz : Nat.beq bz E.size = true) (hlo : bndOK ⟨n, t, m⟩ lo 0 a) (hhi : bndOK ⟨n, t, m⟩ hi len c) (hp : putF n t o.dst (.arr b a.toNat (c.toNat - a.toNat)) = some t')
    (h : Go P ops draw Q l ⟨n, t', m⟩ (some ⟨.arr b a.toNat (c.toNat - a.toNat), [], [b], []⟩ :: acc)) : Go P ops draw Q (o :: l) ⟨n, t, m⟩ acc := by
  simp only [Bool.and_eq_true, decide_eq_true_eq] at hc
  exact go_step hg (as_sliceArr (P := P) (s := ⟨n, t, m⟩) ho (ht _ _ hD) hk (ht _ _ hE) hx hb (Nat.eq_of_beq_eq_true hz) hlo hhi hc.1 hc.2.1 hc.2.2.1 hc.2.2.2) rfl hp rfl h
theorem go_copyS {α : Type} {o : Oper} {ty e b len off bt bz : Nat} {t' : List (Nat × AV)} {m' : Mem} {x y : Operand} {D E : TyD} (enc : α → AV) (xs ys zs : List α) (hzs : cpy xs ys off len = zs) (hc : (Nat.ble (off + len) xs.length && (Nat.blt 0 len && !ys.isEmpty)) = true) (hcl : ∀ x, (enc x).cells.length = 1) (hce : ∀ x, (enc x).cells.all AV.cellish = true) (ht : TTok P tt) (hg : gchk ops ⟨n, t, m⟩ o = some true) (ho : o.op = bcall .copy #[x, y] #[ty, ty]) (hD : lk ty tt = some D) (hk : D.k = .slice e) (hE : lk e tt = some E) (hz : Nat.beq E.size 1 = true)
    (hx : (⟨n, t, m⟩ : St).ev x = .arr b off len) (hb : lk b m = some (some ⟨bt, bz, xs.map enc⟩)) (hbz : Nat.beq bz 1 = true) (hy : (⟨n, t, m⟩ : St).ev y = .sl (ys.map enc)) (hp : putF n t o.dst (.sc (.int .i64 ((min ys.length len : Nat) : Int))) = some t') (hm : appF [(b, some ⟨bt, bz, zs.map enc⟩)] m = some m')
    (h : Go P ops draw Q l ⟨n, t', m'⟩ (some ⟨.sc (.int .i64 ((min ys.length len : Nat) : Int)), [(b, some ⟨bt, bz, zs.map enc⟩)], [b], []⟩ :: acc)) : Go P ops draw Q (o :: l) ⟨n, t, m⟩ acc := by
  subst hzs
  simp only [Bool.and_eq_true, Bool.not_eq_true', List.isEmpty_eq_false_iff] at hc
  have h1 := Nat.le_of_ble_eq_true hc.1
  have h2 : 0 < len := by simpa using hc.2.1
  have hA : AStep P o ⟨n, t, m⟩ ⟨.sc (.int .i64 ((min ys.length len : Nat) : Int)), [(b, some ⟨bt, bz, (cpy xs ys off len).map enc⟩)], [b], []⟩ := by
    have := as_copy (P := P) (s := ⟨n, t, m⟩) (ys := ys.map enc) ho (ht _ _ hD) hk (ht _ _ hE) (Nat.eq_of_beq_eq_true hz) hx hb (Nat.eq_of_beq_eq_true hbz) (by simpa using h1) h2 (by simpa using hc.2.2) (.inl ⟨hy, by simpa using fun x _ => hcl x⟩) (by simpa using fun x _ => by simpa using hce x)
    simpa [cpy, List.map_take, List.map_drop] using this
  exact go_step hg hA rfl hp hm h
theorem go_copyA {α : Type} {o : Oper} {ty e b len off off2 len2 bt bz : Nat} {t' : List (Nat × AV)} {m' : Mem} {x y : Operand} {D E : TyD} (enc : α → AV) (xs zs : List α) (hzs : cpy xs ((xs.drop off2).take len2) off len = zs) (hc : (Nat.ble (off + len) xs.length && (Nat.blt 0 len && !((xs.drop off2).take len2).isEmpty)) = true) (hc2 : Nat.ble (off2 + len2) xs.length = true) (hce : ∀ x, (enc x).cells.all AV.cellish = true) (ht : TTok P tt) (hg : gchk ops ⟨n, t, m⟩ o = some true) (ho : o.op = bcall .copy #[x, y] #[ty, ty]) (hD : lk ty tt = some D) (hk : D.k = .slice e) (hE : lk e tt = some E) (hz : Nat.beq E.size 1 = true)
    (hx : (⟨n, t, m⟩ : St).ev x = .arr b off len) (hb : lk b m = some (some ⟨bt, bz, xs.map enc⟩)) (hbz : Nat.beq bz 1 = true) (hy : (⟨n, t, m⟩ : St).ev y = .arr b off2 len2) (hp : putF n t o.dst (.sc (.int .i64 ((min ((xs.drop off2).take len2).length len : Nat) : Int))) = some t') (hm : appF [(b, some ⟨bt, bz, zs.map enc⟩)] m = some m')
    (h : Go P ops draw Q l ⟨n, t', m'⟩ (some ⟨.sc (.int .i64 ((min ((xs.drop off2).take len2).length len : Nat) : Int)), [(b, some ⟨bt, bz, zs.map enc⟩)], [b], []⟩ :: acc)) : Go P ops draw Q (o :: l) ⟨n, t, m⟩ acc := by
  subst hzs
  simp only [Bool.and_eq_true, Bool.not_eq_true', List.isEmpty_eq_false_iff] at hc
  have h1 := Nat.le_of_ble_eq_true hc.1
  have h2 : 0 < len := by simpa using hc.2.1
  have h3 := Nat.le_of_ble_eq_true hc2
  have hA : AStep P o ⟨n, t, m⟩ ⟨.sc (.int .i64 ((min ((xs.drop off2).take len2).length len : Nat) : Int)), [(b, some ⟨bt, bz, (cpy xs ((xs.drop off2).take len2) off len).map enc⟩)], [b], []⟩ := by
    have := as_copy (P := P) (s := ⟨n, t, m⟩) (ys := ((xs.drop off2).take len2).map enc) ho (ht _ _ hD) hk (ht _ _ hE) (Nat.eq_of_beq_eq_true hz) hx hb (Nat.eq_of_beq_eq_true hbz) (by simpa using h1) h2 (fun hq => hc.2.2 (List.map_eq_nil_iff.1 hq)) (.inr ⟨off2, len2, hy, by simpa using h3, by simp [List.map_take, List.map_drop]⟩) (by
      rw [List.all_eq_true]
      intro z hz
      obtain ⟨q, _, rfl⟩ := List.mem_map.1 hz
      exact hce q)
    rw [List.length_map] at this
    simpa only [cpy, List.map_append, List.map_take, List.map_drop] using this
  exact go_step hg hA rfl hp hm h

/-! arrays in slices -/
def Ar (n : Nat) (α : Type) : Type := { l : List α // l.length = n }
def encAr {n : Nat} {α : Type} (enc : α → AV) (a : Ar n α) : AV := .agg (a.1.map enc)
def arZ (n : Nat) {α : Type} (z : α) : Ar n α := ⟨List.replicate n z, by simp⟩
def arS {n : Nat} {α : Type} (a : Ar n α) (i : Int) (v : α) : Ar n α := ⟨a.1.set i.toNat v, by rw [List.length_set]; exact a.2⟩
theorem getI_some {α : Type} {l : List α} {i : Int} {w : α} (h : getI l i = some w) : 0 ≤ i ∧ i.toNat < l.length ∧ l[i.toNat]? = some w := by
  cases i with
  | ofNat k =>
    have h' : l[k]? = some w := h
    exact ⟨Int.natCast_nonneg k, (List.getElem?_eq_some_iff.1 h').1, h'⟩
  | negSucc k => cases h
theorem sub_one : ∀ (cs : List AV) (off : Nat) (c : AV), cs[off]? = some c → sub cs off 1 = some [c]
  | [], off, c, h => by simp at h
  | d :: cs, 0, c, h => by simp at h; subst h; simp [sub]
  | d :: cs, off + 1, c, h => by
    simp only [sub]
    exact sub_one cs off c (by simpa using h)
theorem splice_one : ∀ (cs : List AV) (off : Nat) (v : AV), off < cs.length → splice cs off [v] = some (cs.set off v)
  | [], off, v, h => by simp at h
  | d :: cs, 0, v, h => by simp [splice]
  | d :: cs, off + 1, v, h => by
    simp only [splice, splice_one cs off v (by simpa using h)]
    rfl
theorem dropC_of : ∀ (n : Nat) (cs : List AV), n ≤ cs.length → dropC cs n = some (cs.drop n)
  | 0, cs, h => by simp [dropC]
  | n + 1, [], h => by simp at h
  | n + 1, c :: cs, h => by
    simp only [dropC, List.drop_succ_cons]
    exact dropC_of n cs (by simpa using h)
theorem go_indexAr {α : Type} {o : Oper} {nn ty e b i : Nat} {t' : List (Nat × AV)} {x y : Operand} {D E : TyD} {k : IntKind} (a : Ar nn α) (jx : Int) (w : α) (hw : getI a.1 jx = some w) (ht : TTok P tt) (hg : gchk ops ⟨n, t, m⟩ o = some true) (ho : o.op = .indexAddr ty x y) (hD : lk ty tt = some D) (hk : D.k = .array nn e) (hE : lk e tt = some E) (hz : Nat.beq E.size 1 = true)
    (hx : (⟨n, t, m⟩ : St).ev x = .ref b i 0) (hy : (⟨n, t, m⟩ : St).ev y = .sc (.int k jx)) (hp : putF n t o.dst (.ref b i jx.toNat) = some t') (h : Go P ops draw Q l ⟨n, t', m⟩ (some ⟨.ref b i jx.toNat, [], [], []⟩ :: acc)) : Go P ops draw Q (o :: l) ⟨n, t, m⟩ acc := by
  obtain ⟨h1, h2, _⟩ := getI_some hw
  rw [a.2] at h2
  have hA : AStep P o ⟨n, t, m⟩ ⟨.ref b i jx.toNat, [], [], []⟩ := by
    have := as_index_aref (P := P) (s := ⟨n, t, m⟩) ho (ht _ _ hD) hk (ht _ _ hE) hx hy h1 (by omega)
    rw [Nat.eq_of_beq_eq_true hz, Nat.mul_one, Nat.zero_add] at this
    exact this
  exact go_step hg hA rfl hp rfl h
theorem go_indexArV {α : Type} {o : Oper} {nn ty e : Nat} {t' : List (Nat × AV)} {x y : Operand} {D E : TyD} {k : IntKind} (enc : α → AV) (a : Ar nn α) (jx : Int) (w : α) (hw : getI a.1 jx = some w) (ht : TTok P tt) (hg : gchk ops ⟨n, t, m⟩ o = some true) (ho : o.op = .indexAddr ty x y) (hD : lk ty tt = some D) (hk : D.k = .array nn e) (hE : lk e tt = some E) (hz : Nat.beq E.size 1 = true)
    (hx : (⟨n, t, m⟩ : St).ev x = .vp (a.1.map enc)) (hy : (⟨n, t, m⟩ : St).ev y = .sc (.int k jx)) (hp : putF n t o.dst (.vp (enc w :: (a.1.map enc).drop (jx.toNat + 1))) = some t') (h : Go P ops draw Q l ⟨n, t', m⟩ (some ⟨.vp (enc w :: (a.1.map enc).drop (jx.toNat + 1)), [], [], []⟩ :: acc)) : Go P ops draw Q (o :: l) ⟨n, t, m⟩ acc := by
  obtain ⟨h1, h2, h3⟩ := getI_some hw
  have h2' := h2
  rw [a.2] at h2'
  have hd : dropC (a.1.map enc) (jx.toNat * E.size) = some (enc w :: (a.1.map enc).drop (jx.toNat + 1)) := by
    rw [Nat.eq_of_beq_eq_true hz, Nat.mul_one, dropC_of _ _ (by simp; omega)]
    congr 1
    rw [List.drop_eq_getElem_cons (by simpa using h2)]
    congr 1
    rw [List.getElem_map]
    congr 1
    exact (List.getElem?_eq_some_iff.1 h3).2
  exact go_step hg (as_index_avp (P := P) (s := ⟨n, t, m⟩) ho (ht _ _ hD) hk (ht _ _ hE) hx hy h1 (by omega) hd) rfl hp rfl h
theorem go_loadAr {α : Type} {o : Oper} {nn T b bt bz : Nat} {t' : List (Nat × AV)} {x : Operand} {D : TyD} {ys : List AV} (enc : α → AV) (xs : List (Ar nn α)) (ix jx : Int) (a : Ar nn α) (w : α) (ha : getI xs ix = some a) (hw : getI a.1 jx = some w) (hys : enc w = .sl ys) (ht : TTok P tt) (hg : gchk ops ⟨n, t, m⟩ o = some true) (ho : o.op = .load T x) (hD : lk T tt = some D) (hag : D.k.isAgg = false)
    (hx : (⟨n, t, m⟩ : St).ev x = .ref b ix.toNat jx.toNat) (hb : lk b m = some (some ⟨bt, bz, xs.map (encAr enc)⟩)) (hp : putF n t o.dst (.sl ys) = some t') (h : Go P ops draw Q l ⟨n, t', m⟩ (some ⟨.sl ys, [], [b], []⟩ :: acc)) : Go P ops draw Q (o :: l) ⟨n, t, m⟩ acc := by
  obtain ⟨_, _, h3⟩ := getI_some ha
  obtain ⟨_, _, h6⟩ := getI_some hw
  refine go_step hg (as_load_ref (P := P) (s := ⟨n, t, m⟩) (e := encAr enc a) ho (ht _ _ hD) hx hb (by simp [h3]) ?_) rfl hp rfl h
  show rd D (a.1.map enc) jx.toNat = some (.sl ys)
  unfold rd
  rw [hag, sub_one _ _ (enc w) (by simp [h6]), hys]
theorem go_storeAr {α : Type} {o : Oper} {nn T b bt bz : Nat} {t' : List (Nat × AV)} {m' : Mem} {x y : Operand} {D : TyD} {ys : List AV} (enc : α → AV) (xs : List (Ar nn α)) (ix jx : Int) (a : Ar nn α) (w v : α) (ha : getI xs ix = some a) (hw : getI a.1 jx = some w) (hys : enc v = .sl ys) (ht : TTok P tt) (hg : gchk ops ⟨n, t, m⟩ o = some true) (ho : o.op = .store T x y) (hD : lk T tt = some D) (hz : Nat.beq D.size 1 = true)
    (hx : (⟨n, t, m⟩ : St).ev x = .ref b ix.toNat jx.toNat) (hb : lk b m = some (some ⟨bt, bz, xs.map (encAr enc)⟩)) (hy : (⟨n, t, m⟩ : St).ev y = .sl ys) (hp : putF n t o.dst (.tup []) = some t') (hm : appF [(b, some ⟨bt, bz, (setI xs ix (arS a jx v)).map (encAr enc)⟩)] m = some m')
    (h : Go P ops draw Q l ⟨n, t', m'⟩ (some ⟨.tup [], [(b, some ⟨bt, bz, (setI xs ix (arS a jx v)).map (encAr enc)⟩)], [b], []⟩ :: acc)) : Go P ops draw Q (o :: l) ⟨n, t, m⟩ acc := by
  obtain ⟨_, _, h3⟩ := getI_some ha
  obtain ⟨_, h5, h6⟩ := getI_some hw
  have hA : AStep P o ⟨n, t, m⟩ ⟨.tup [], [(b, some ⟨bt, bz, (setI xs ix (arS a jx v)).map (encAr enc)⟩)], [b], []⟩ := by
    have := as_store (P := P) (s := ⟨n, t, m⟩) (e := encAr enc a) (e' := encAr enc (arS a jx v)) ho (ht _ _ hD) hx hb hy (by simp) (by rw [Nat.eq_of_beq_eq_true hz]; rfl) (by simp [AV.cells, AV.cellish]) (by simp [h3]) (by
      show (match splice (a.1.map enc) jx.toNat [.sl ys] with | some l => some (AV.agg l) | none => none) = _
      rw [splice_one _ _ _ (by simpa using h5), ← hys]
      show some (AV.agg ((a.1.map enc).set jx.toNat (enc v))) = some (AV.agg ((a.1.set jx.toNat v).map enc))
      rw [List.map_set])
    simpa [setI, List.map_set] using this
  exact go_step hg hA rfl hp hm h

/-- Another description of a block's content. -/
theorem SRelX.reblk {c : Ctx} {φ : Ph} {R : Nat → Prop} {n d : Nat} {t : List (Nat × AV)} {m : Mem} {k k' : Blk} {a : Act} {w : World} (h : SRelX c φ R ⟨n, t, (d, some k) :: m⟩ a w) (hk : ∀ oh, BlkRel w R φ oh k → BlkRel w R φ oh k') : SRelX c φ R ⟨n, t, (d, some k') :: m⟩ a w := by
  have f : ∀ b x, lk b ((d, some k') :: m) = some x → (b = d ∧ x = some k' ∧ lk b ((d, some k) :: m) = some (some k)) ∨ lk b ((d, some k) :: m) = some x := by
    intro b x hb
    rw [lk_cons] at hb ⊢
    by_cases e : b = d
    · rw [if_pos e] at hb ⊢
      cases hb
      exact .inl ⟨e, rfl, rfl⟩
    · rw [if_neg e] at hb ⊢
      exact .inr hb
  have g : ∀ b k1, lk b ((d, some k') :: m) = some (some k1) → ∃ k0, lk b ((d, some k) :: m) = some (some k0) := by
    intro b k1 hb
    rcases f b _ hb with ⟨_, _, h3⟩ | h3
    · exact ⟨_, h3⟩
    · exact ⟨_, h3⟩
  refine ⟨h.n, h.t, ⟨fun b k1 hb => ?_, fun b b' k1 k2 y y' hb hb' => ?_, fun b k1 y hb => ?_⟩, fun b x hx => ?_, fun b k1 y hb => ?_, h.R0, h.Rn, h.Rb, h.ext, h.d, h.keep⟩
  · rcases f b _ hb with ⟨_, h2, h3⟩ | h3
    · cases h2
      obtain ⟨oh, ho, hr⟩ := h.m.rel b k h3
      exact ⟨oh, ho, hk oh hr⟩
    · exact h.m.rel b k1 h3
  · obtain ⟨k0, h0⟩ := g b k1 hb
    obtain ⟨k0', h0'⟩ := g b' k2 hb'
    exact h.m.inj b b' k0 k0' y y' h0 h0'
  · obtain ⟨k0, h0⟩ := g b k1 hb
    exact h.m.notR b k0 y h0
  · obtain ⟨y, hy⟩ := h.dom b x hx
    have hy' : lk b ((d, some k) :: m) = some y := hy
    show ∃ y, lk b ((d, some k') :: m) = some y
    rw [lk_cons] at hy' ⊢
    by_cases e : b = d
    · rw [if_pos e]
      exact ⟨_, rfl⟩
    · rw [if_neg e] at hy' ⊢
      exact ⟨y, hy'⟩
  · obtain ⟨k0, h0⟩ := g b k1 hb
    exact h.fresh b k0 y h0
theorem as_reblk {v : AV} {d : Nat} {k k' : Blk} {ac nw : List Nat} (h : AStep P o s ⟨v, [(d, some k)], ac, nw⟩) (hk : ∀ (w : World) (R : Nat → Prop) (φ : Ph) oh, BlkRel w R φ oh k → BlkRel w R φ oh k') : AStep P o s ⟨v, [(d, some k')], ac, nw⟩ := by
  intro s' hn hop hacc hnw c a w next Q hs hnext
  refine h s' hn hop hacc hnw c a w next Q hs fun a' w' hs' => hnext a' w' ?_
  obtain ⟨φ, R, q⟩ := hs'
  exact ⟨φ, R, SRelX.reblk q (hk w' R φ)⟩
theorem blk_nils {w : World} {R : Nat → Prop} {φ : Ph} {oh : Option Home} {ty esz N nn : Nat} (h : BlkRel w R φ oh ⟨ty, esz, List.replicate N (.agg (List.replicate nn .nilS))⟩) : BlkRel w R φ oh ⟨ty, esz, List.replicate N (.agg (List.replicate nn (.sl [])))⟩ := by
  cases oh with
  | none =>
    simp only [BlkRel] at h ⊢
    simpa using h
  | some x =>
    obtain ⟨h1, h2, h3, h4, C, hC, hs, hel⟩ := h
    refine ⟨h1, h2, by simpa using h3, h4, C, hC, hs, fun i y hy => ?_⟩
    dsimp only at hy
    rw [List.getElem?_replicate] at hy
    split at hy
    · rename_i hi
      cases hy
      obtain ⟨q1, q2⟩ := hel i (.agg (List.replicate nn .nilS)) (by simp [hi])
      refine ⟨by simpa [AV.cells] using q1, fun j c hj => ?_⟩
      simp only [AV.cells, List.getElem?_replicate] at hj
      split at hj
      · rename_i hj'
        cases hj
        obtain ⟨u, hu, hr⟩ := q2 j .nilS (by simp [AV.cells, hj'])
        refine ⟨u, hu, ?_⟩
        cases hr
        exact .sl0
      · cases hj
    · cases hy
theorem go_makeAr {α : Type} {o : Oper} {nn ty e d : Nat} {t' : List (Nat × AV)} {m' : Mem} {x y : Operand} {D E : TyD} {k : IntKind} (enc : α → AV) (i : Int) (zs : List (Ar nn (List α))) (hz0 : mkO E.bytes (arZ nn []) i = some zs) (ht : TTok P tt) (hg : gchk ops ⟨n, t, m⟩ o = some true) (ho : o.op = .makeSlice ty x y) (hD : lk ty tt = some D) (hk : D.k = .slice e) (hE : lk e tt = some E)
    (hx : (⟨n, t, m⟩ : St).ev x = .sc (.int k i)) (hy : (⟨n, t, m⟩ : St).ev y = .sc (.int k i)) (hz : Nat.blt 0 E.size = true) (hzz : E.zero = .agg (List.replicate nn .nilS)) (hd : o.dst = some d) (hn : nwOK ⟨n, t, m⟩ [d] = true)
    (hp : putF n t (some d) (.arr d 0 zs.length) = some t') (hm : appF [(d, some ⟨e, E.size, zs.map (encAr fun l => .sl (l.map enc))⟩)] m = some m')
    (h : Go P ops draw Q l ⟨n, t', m'⟩ (some ⟨.arr d 0 zs.length, [(d, some ⟨e, E.size, zs.map (encAr fun l => .sl (l.map enc))⟩)], [], [d]⟩ :: acc)) : Go P ops draw Q (o :: l) ⟨n, t, m⟩ acc := by
  obtain ⟨rfl, h0, h1, h2⟩ := mkO_spec hz0
  have hA : AStep P o ⟨n, t, m⟩ ⟨.arr d 0 (List.replicate i.toNat (arZ nn ([] : List α))).length, [(d, some ⟨e, E.size, (List.replicate i.toNat (arZ nn ([] : List α))).map (encAr fun l => .sl (l.map enc))⟩)], [], [d]⟩ := by
    have := as_makeSlice (P := P) (o := o) (s := ⟨n, t, m⟩) (d := d) ho (ht _ _ hD) hk (ht _ _ hE) hx hy hz h0 h1 h2
    rw [hzz] at this
    have h5 := as_reblk this fun w R φ oh => blk_nils
    have e1 : (encAr fun l => AV.sl (l.map enc)) (arZ nn ([] : List α)) = .agg (List.replicate nn (.sl [])) := by
      unfold encAr arZ
      simp
    rw [List.map_replicate, e1, List.length_replicate]
    exact h5
  exact go_step hg hA hn (by rw [hd]; exact hp) hm h
theorem norefL_map {α : Type} {enc : α → AV} (h : ∀ x, noref (enc x) = true) : ∀ l : List α, norefL (l.map enc) = true
  | [] => rfl
  | x :: l => by
    simp only [List.map_cons, norefL, h x, norefL_map h l]
    rfl
theorem nr_ar {nn : Nat} {α : Type} {enc : α → AV} (h : ∀ x, noref (enc x) = true) (a : Ar nn α) : noref (encAr enc a) = true := norefL_map h a.1
theorem ar_len {nn k : Nat} {α : Type} {enc : α → AV} (a : Ar nn α) (h : Nat.beq nn k = true) : Nat.beq (encAr enc a).cells.length k = true := by
  show Nat.beq (a.1.map enc).length k = true
  rw [List.length_map, a.2]
  exact h
theorem go_loadV1 {o : Oper} {T : Nat} {t' : List (Nat × AV)} {x : Operand} {D : TyD} {c : AV} {rest ys : List AV} (ht : TTok P tt) (hg : gchk ops ⟨n, t, m⟩ o = some true) (ho : o.op = .load T x) (hD : lk T tt = some D) (hag : D.k.isAgg = false) (hx : (⟨n, t, m⟩ : St).ev x = .vp (c :: rest)) (hc : c = .sl ys) (hp : putF n t o.dst (.sl ys) = some t')
    (h : Go P ops draw Q l ⟨n, t', m⟩ (some ⟨.sl ys, [], [], []⟩ :: acc)) : Go P ops draw Q (o :: l) ⟨n, t, m⟩ acc := by
  refine go_step hg (as_load_vp (P := P) (s := ⟨n, t, m⟩) ho (ht _ _ hD) hx ?_) rfl hp rfl h
  unfold rd
  rw [hag, sub_one _ _ c (by simp), hc]
end
end Go.Ab
