/- The abstract layer, part 30: slices without room behind them, and append to them. -/
import Derived.Test.YtpoehckffpbfiaaAb29
namespace Go.Ab
open Go.RowKit

section
variable {P : Program} {o : Oper} {s : St}

theorem as_slice3 {t e n : Nat} {x hi mx : Operand} {D E : TyD} {xs : List AV} {k1 k2 : IntKind} (ho : o.op = .slice t x none (some hi) (some mx)) (hD : tyOf P t = some D) (hk : D.k = .slice e) (hE : tyOf P e = some E) (hx : s.ev x = .sl xs) (hhi : s.ev hi = .sc (.int k1 (n : Int))) (hmx : s.ev mx = .sc (.int k2 (n : Int))) (hn : n ≤ xs.length) :
    AStep P o s ⟨.slx (xs.take n), [], [], []⟩ := by
  have hud := slice_und hD hk
  intro s' _ hop _ _
  refine opok_val fun c φ R a w hs => ?_
  have e0 := hs.ev x
  rw [hop x (by simp [ho, Op.operands]), hx] at e0
  have e1 := hs.ev hi
  rw [hop hi (by simp [ho, Op.operands]), hhi] at e1
  have e1 := e1.sc_inv
  have e2 := hs.ev mx
  rw [hop mx (by simp [ho, Op.operands]), hmx] at e2
  have e2 := e2.sc_inv
  generalize hq : a.eval x = q at e0
  have hb : ∀ len cap : Nat, n ≤ cap → (Instr.sliceBounds true len cap none (some (a.eval hi)) (some (a.eval mx))).run P w = .ok (0, n, n) w := fun len cap hc => by
    rw [e1, e2]
    simp [Instr.sliceBounds, run_bound (P := P) w k2 n cap _ (by omega) (by omega), run_bound (P := P) w k1 n n _ (by omega) (by omega)]
  cases e0 with
  | @sl0 _ ad cap =>
    have z1 : n = 0 := by simpa using hn
    subst z1
    refine ⟨.slice ad 0 0, ?_, by simpa using .slx .sl0⟩
    simp [execOp, ho, hq, Instr.sliceAt, Instr.slice, run_underlying hud w, hb 0 cap (Nat.zero_le _), run_sizeOf hE w]
  | @sl _ _ b off cap ez f he hR hcap hl hc hr =>
    refine ⟨.slice (if n = 0 then some ⟨b, off, none⟩ else some ⟨b, off, none⟩) n n, ?_, ?_⟩
    · simp only [execOp, ho, hq, Instr.sliceAt, Instr.slice]
      simp [run_underlying hud w, hb _ cap (by omega), run_sizeOf hE w, addr_add]
    · have hlen : (xs.take n).length = n := by simp; omega
      have := Rel.sl (w := w) (R := R) (φ := φ) (xs := xs.take n) (b := b) (o := off) (cap := n) (e := ez) f he hR (by omega) (by
        intro i y hy
        rw [List.getElem?_take] at hy
        split at hy
        · exact hl _ y hy
        · cases hy) (by
        intro k hk
        rw [hlen] at hk
        exact hc k (Nat.lt_of_lt_of_le hk (Nat.mul_le_mul_right _ hn))) (by
        intro i y j cc hy hj
        rw [List.getElem?_take] at hy
        split at hy
        · exact hr _ y j cc hy hj
        · cases hy)
      rw [hlen] at this
      simpa using .slx this

/-- append to a slice without room. -/
theorem as_appendX {t e d b' : Nat} {x y : Operand} {D E : TyD} {xs ys : List AV} {k' : Blk} (ho : o.op = bcall .append #[x, y] #[t, t]) (h : tyOf P t = some D) (hk : D.k = .slice e) (hE : tyOf P e = some E) (hz : Nat.blt 0 E.size = true)
    (hx : s.ev x = .slx xs) (hxs : ∀ x ∈ xs, x.cells.length = E.size) (hx0 : xs ≠ []) (hy0 : ys ≠ [])
    (hy : s.ev y = .arr b' 0 ys.length) (hbb : lk b' s.m = some (some k')) (hkz : k'.esz = E.size) (hky : k'.xs = ys)
    (hbig : (xs.length + ys.length) * E.bytes ≤ 140737488355328) (hlen : xs.length + ys.length ≤ 9223372036854775807) :
    AStep P o s ⟨.arr d 0 (xs.length + ys.length), [(d, some ⟨e, E.size, xs ++ ys⟩)], [b'], [d]⟩ := by
  intro s' _ hop hacc hnw
  refine opok_run fun c φ R a w hs => ?_
  have h1 := hs.ev x
  rw [hop x (mem_bcall ho x (by simp)), hx] at h1
  have h2 := hs.ev y
  rw [hop y (mem_bcall ho y (by simp)), hy] at h2
  have hS : SrcOK w R φ E.size ys (a.eval y) := by
    have := src_arr hs h2 (by rw [hacc b' (by simp)]; exact hbb) hkz (by rw [hky]; omega)
    rwa [hky, List.drop_zero, List.take_length] at this
  obtain ⟨i, z, u, hi, hzz, _, hsz, hby, hzero, hzs, _⟩ := tyOf_facts hE
  have hpos : 0 < E.size := by simpa using hz
  generalize hq : a.eval x = q at h1
  cases h1 with
  | @slx _ _ ad0 n0 hsl =>
    have hO := src_sl hsl hxs
    obtain ⟨ado, capo, olds, hvo, hol, holds, hold⟩ := hO.some hx0
    cases hvo
    obtain ⟨ad, cap2, news, hv, hnl, hnews, hnew⟩ := hS.some hy0
    have hm0 : 0 < ys.length := List.length_pos_iff.2 hy0
    have hfits : (xs.length + ys.length) * i.bytes ≤ 140737488355328 := by rw [hby]; exact hbig
    have hrun := run_append_grow (P := P) w t o.type e i z (slice_und h hk) hi hzz ado xs.length xs.length olds (by rw [hsz]; exact hol) holds ad ys.length cap2 news (by rw [hsz]; exact hnl) hnews (by omega) (by omega) (growslice_fits (by omega) hfits)
    have hge := grownCap_ge w (xs.length + ys.length) xs.length e
    have hle := grownCap_le_maxLen w (xs.length + ys.length) xs.length e (by simp only [maxLen]; omega)
    obtain ⟨g1, g2⟩ := grow_row olds news (Builtin.zeroCells z.cells (grownCap w (xs.length + ys.length) xs.length e - (xs.length + ys.length)))
    rw [hol] at g1 g2
    have hcont := app_content (C := olds.toArray) (Nat.le_refl xs.length) (fun i x hx => by
      obtain ⟨q1, q2⟩ := hold i x hx
      exact ⟨q1, fun j c hj => by
        obtain ⟨u, hu, hr⟩ := q2 j c hj
        exact ⟨u, by simpa using hu, hr⟩⟩) hnew (fun q hq => by rw [g1 q hq]; simp) g2
    rw [List.take_length] at hcont
    obtain ⟨n1, n2⟩ := hs.newArr d (hnw d (by simp)) (w' := w.drew.alloc (.cells (olds.toArray ++ news.toArray ++ Builtin.zeroCells z.cells (grownCap w (xs.length + ys.length) xs.length e - (xs.length + ys.length))) e)) (T := e) (n := E.size) (cap := grownCap w (xs.length + ys.length) xs.length e) (C := olds.toArray ++ news.toArray ++ Builtin.zeroCells z.cells (grownCap w (xs.length + ys.length) xs.length e - (xs.length + ys.length))) (xs := xs ++ ys) ⟨w.drawn + 1, rfl⟩ hpos (by
        rw [Array.size_append, Array.size_append, size_zeroCells', hzs, List.size_toArray, List.size_toArray, hol, hnl, ← Nat.add_mul, ← Nat.add_mul]
        congr 1
        omega) (by simp; omega) hle hcont
    exact ⟨_, _, _, R, by simp [run_bcall ho, builtin, hq, hv, hrun], SRelX.app n1 o.dst (n2 _ hge)⟩

variable {tt : TT} {ops : Array Oper} {draw : Bool} {Q : St → Prop} {acc : List (Option Eff)} {l : List Oper} {n : Nat} {t : List (Nat × AV)} {m : Mem}
/-- The first n elements, if there are so many. -/
def fstO {α : Type} (xs : List α) : Int → Option (List α)
  | .ofNat n => bif Nat.ble n xs.length then some (xs.take n) else none
  | .negSucc _ => none
theorem fstO_spec {α : Type} {xs ys : List α} {i : Int} (h : fstO xs i = some ys) : ∃ n : Nat, i = n ∧ n ≤ xs.length ∧ ys = xs.take n := by
  cases i with
  | ofNat n =>
    obtain ⟨h1, h2⟩ := of_grd (show (bif Nat.ble n xs.length then some (xs.take n) else none) = some ys from h)
    exact ⟨n, rfl, Nat.le_of_ble_eq_true h1, (of_some h2).symm⟩
  | negSucc n => cases h
theorem go_slice3 {α : Type} {o : Oper} {ty e : Nat} {t' : List (Nat × AV)} {x hi mx : Operand} {D E : TyD} {k1 k2 : IntKind} (enc : α → AV) (xs ys : List α) (i : Int) (hu : fstO xs i = some ys) (ht : TTok P tt) (hg : gchk ops ⟨n, t, m⟩ o = some true) (ho : o.op = .slice ty x none (some hi) (some mx)) (hD : lk ty tt = some D) (hk : D.k = .slice e) (hE : lk e tt = some E)
    (hx : (⟨n, t, m⟩ : St).ev x = .sl (xs.map enc)) (hhi : (⟨n, t, m⟩ : St).ev hi = .sc (.int k1 i)) (hmx : (⟨n, t, m⟩ : St).ev mx = .sc (.int k2 i)) (hp : putF n t o.dst (.slx (ys.map enc)) = some t')
    (h : Go P ops draw Q l ⟨n, t', m⟩ (some ⟨.slx (ys.map enc), [], [], []⟩ :: acc)) : Go P ops draw Q (o :: l) ⟨n, t, m⟩ acc := by
  obtain ⟨j, rfl, hj, rfl⟩ := fstO_spec hu
  rw [List.map_take] at hp h
  exact go_step hg (as_slice3 (P := P) (s := ⟨n, t, m⟩) (n := j) ho (ht _ _ hD) hk (ht _ _ hE) hx hhi hmx (by simpa using hj)) rfl hp rfl h
/-- xs with ys behind, both not empty. -/
def appX {α : Type} (bytes : Nat) (xs ys : List α) : Option (List α) := bif !xs.isEmpty && !ys.isEmpty then appO bytes xs ys else none
theorem go_appX {α : Type} {o : Oper} {ty e d b2 c2 bt bz : Nat} {t' : List (Nat × AV)} {m' : Mem} {x y : Operand} {D E : TyD} (enc : α → AV) (xs ys zs : List α) (hu : appX E.bytes xs ys = some zs) (hcl : ∀ x, (enc x).cells.length = E.size) (hc2 : c2 = ys.length) (ht : TTok P tt) (hg : gchk ops ⟨n, t, m⟩ o = some true) (ho : o.op = bcall .append #[x, y] #[ty, ty]) (hD : lk ty tt = some D) (hk : D.k = .slice e) (hE : lk e tt = some E) (hz : Nat.blt 0 E.size = true)
    (hx : (⟨n, t, m⟩ : St).ev x = .slx (xs.map enc)) (hy : (⟨n, t, m⟩ : St).ev y = .arr b2 0 c2) (hb2 : lk b2 m = some (some ⟨bt, bz, ys.map enc⟩)) (hz2 : Nat.beq bz E.size = true)
    (hd : o.dst = some d) (hn : nwOK ⟨n, t, m⟩ [d] = true) (hp : putF n t (some d) (.arr d 0 zs.length) = some t') (hm : appF [(d, some ⟨e, E.size, zs.map enc⟩)] m = some m')
    (h : Go P ops draw Q l ⟨n, t', m'⟩ (some ⟨.arr d 0 zs.length, [(d, some ⟨e, E.size, zs.map enc⟩)], [b2], [d]⟩ :: acc)) : Go P ops draw Q (o :: l) ⟨n, t, m⟩ acc := by
  obtain ⟨h1, h2⟩ := of_grd hu
  obtain ⟨rfl, g1, g2⟩ := appO_spec h2
  simp only [Bool.and_eq_true, Bool.not_eq_true', List.isEmpty_eq_false_iff] at h1
  have hA : AStep P o ⟨n, t, m⟩ ⟨.arr d 0 (xs ++ ys).length, [(d, some ⟨e, E.size, (xs ++ ys).map enc⟩)], [b2], [d]⟩ := by
    have := as_appendX (P := P) (o := o) (s := ⟨n, t, m⟩) (d := d) (xs := xs.map enc) (ys := ys.map enc) ho (ht _ _ hD) hk (ht _ _ hE) hz hx (by simpa using fun x _ => hcl x) (by simpa using h1.1) (by simpa using h1.2) (by rw [hy, hc2]; simp) hb2 (Nat.eq_of_beq_eq_true hz2) rfl (by simpa using g1) (by simpa using g2)
    simpa using this
  exact go_step hg hA hn (by rw [hd]; exact hp) hm h
end
end Go.Ab
