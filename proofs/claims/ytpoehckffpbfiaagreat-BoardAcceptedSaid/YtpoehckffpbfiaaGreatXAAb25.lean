/- The abstract layer, part 25: parts of slices and strings, bytes that become strings, pointers that are not nil. -/
import Derived.Test.YtpoehckffpbfiaaGreatXAAb24
import Derived.Laws.BytesString
namespace Go.Ab
open Go.RowKit
def subO {α : Type} (xs : List α) (lo hi : Int) : Option (List α) := bif decide (0 ≤ lo) && (decide (lo ≤ hi) && decide (hi ≤ (xs.length : Int))) then some ((xs.drop lo.toNat).take (hi.toNat - lo.toNat)) else none
theorem subO_spec {α : Type} {xs ys : List α} {lo hi : Int} (h : subO xs lo hi = some ys) : 0 ≤ lo ∧ lo ≤ hi ∧ hi ≤ xs.length ∧ ys = (xs.drop lo.toNat).take (hi.toNat - lo.toNat) := by
 unfold subO at h
 obtain ⟨h1, h2⟩ := of_grd h
 simp only [Bool.and_eq_true, decide_eq_true_eq] at h1
 exact ⟨h1.1, h1.2.1, h1.2.2, (of_some h2).symm⟩
theorem subO_eq {α : Type} {xs : List α} {lo hi : Int} (h0 : 0 ≤ lo) (h1 : lo ≤ hi) (h2 : hi ≤ xs.length) : subO xs lo hi = some ((xs.drop lo.toNat).take (hi.toNat - lo.toNat)) := by
 unfold subO
 rw [decide_eq_true h0, decide_eq_true h1, decide_eq_true h2]
 rfl
def ssubO (s : ByteArray) (lo hi : Int) : Option ByteArray := bif decide (0 ≤ lo) && (decide (lo ≤ hi) && decide (hi ≤ (s.size : Int))) then some (s.extract lo.toNat hi.toNat) else none
theorem ssubO_spec {s t : ByteArray} {lo hi : Int} (h : ssubO s lo hi = some t) : 0 ≤ lo ∧ lo ≤ hi ∧ hi ≤ s.size ∧ t = s.extract lo.toNat hi.toNat := by
 unfold ssubO at h
 obtain ⟨h1, h2⟩ := of_grd h
 simp only [Bool.and_eq_true, decide_eq_true_eq] at h1
 exact ⟨h1.1, h1.2.1, h1.2.2, (of_some h2).symm⟩
theorem ssubO_eq {s : ByteArray} {lo hi : Int} (h0 : 0 ≤ lo) (h1 : lo ≤ hi) (h2 : hi ≤ s.size) : ssubO s lo hi = some (s.extract lo.toNat hi.toNat) := by
 unfold ssubO
 rw [decide_eq_true h0, decide_eq_true h1, decide_eq_true h2]
 rfl
def b2s (xs : List Int) : ByteArray := xs.foldl (fun r n => r.push (UInt8.ofNat n.toNat)) ByteArray.empty
section
variable {P : Program} {tt : TT} {o : Oper} {s : St}
theorem as_nilCheck {x : Operand} {b i off : Nat} (ho : o.op = .nilCheck x) (hx : s.ev x = .ref b i off) : AStep P o s ⟨.ref b i off, [], [], []⟩ := by
 intro s' _ hop _ _
 refine opok_val fun c φ R a w hs => ?_
 have h1 := hs.ev x
 rw [hop x (by simp [ho, Op.operands]), hx] at h1
 refine ⟨a.eval x, ?_, h1⟩
 generalize hq : a.eval x = q at h1
 cases h1 with
 | ref hb => simp [execOp, ho, hq]
def bndOK (s : St) (x : Option Operand) (d v : Int) : Prop := match x with
 | none => v = d
 | some x => ∃ k, s.ev x = .sc (.int k v)
theorem bnd_run {c : Ctx} {φ : Ph} {R : Nat → Prop} {s s' : St} {a : Act} {w : World} (hs : SRelX c φ R s' a w) {x : Operand} {k : IntKind} {v : Int} (hx : s.ev x = .sc (.int k v)) (hop : s'.ev x = s.ev x) : a.eval x = .int k v := by
 have h1 := hs.ev x
 rw [hop, hx] at h1
 exact h1.sc_inv
theorem run_bound (w : World) (k : IntKind) (i : Int) (y : Nat) (cd : BoundsCode) (h0 : 0 ≤ i) (h1 : i ≤ y) : (Instr.sliceBound (.int k i) y cd).run P w = .ok i.toNat w := by
 simp [Instr.sliceBound, asIntOf, h0, h1]
theorem run_bounds (w : World) (b : Bool) (len cap : Nat) (lo hi : Option Value) (l h : Int) (hlo : match lo with | none => l = 0 | some v => ∃ k, v = .int k l) (hhi : match hi with | none => h = len | some v => ∃ k, v = .int k h)
  (h0 : 0 ≤ l) (h1 : l ≤ h) (h2 : h ≤ len) (h3 : len ≤ cap) : (Instr.sliceBounds b len cap lo hi none).run P w = .ok (l.toNat, h.toNat, cap) w := by
 have e1 : ∀ cd, (match hi with | some v => Instr.sliceBound v cap cd | none => pure len : Sem Nat).run P w = .ok h.toNat w := by
  intro cd
  cases hi with
  | none => simp at hhi; subst hhi; simp
  | some v => obtain ⟨k, rfl⟩ := hhi; exact run_bound w k h cap cd (by omega) (by omega)
 have e2 : ∀ cd, (match lo with | some v => Instr.sliceBound v h.toNat cd | none => pure 0 : Sem Nat).run P w = .ok l.toNat w := by
  intro cd
  cases lo with
  | none => simp at hlo; subst hlo; simp
  | some v => obtain ⟨k, rfl⟩ := hlo; exact run_bound w k l h.toNat cd h0 (by omega)
 unfold Instr.sliceBounds
 cases hi with
 | none =>
  cases lo with
  | none => simp at hlo hhi; subst hlo; subst hhi; simp
  | some v =>
   have := e2 .sliceB
   simp at hhi
   subst hhi
   simp only [Int.toNat_natCast] at this
   simp [this]
 | some u =>
  have k1 := e1 (if b then .sliceAcap else .sliceAlen)
  cases lo with
  | none => simp at hlo; subst hlo; simp [k1]
  | some v =>
   have := e2 .sliceB
   simp [k1, this]
theorem as_sliceStr {t : Nat} {x : Operand} {lo hi : Option Operand} {D : TyD} {st u : ByteArray} {l h : Int} (ho : o.op = .slice t x lo hi none) (hD : tyOf P t = some D) (hk : D.k = .str) (hx : s.ev x = .sc (.string st)) (hlo : bndOK s lo 0 l) (hhi : bndOK s hi st.size h) (hu : ssubO st l h = some u) :
  AStep P o s ⟨.sc (.string u), [], [], []⟩ := by
 obtain ⟨_, _, ud, _, _, hud, _, _, _, _, hk'⟩ := tyOf_facts hD
 rw [hk] at hk'
 have : ud = .string := by cases ud <;> simp [kindOf] at hk' <;> rfl
 subst this
 obtain ⟨h0, h1, h2, rfl⟩ := ssubO_spec hu
 intro s' _ hop _ _
 refine opok_val fun c φ R a w hs => ⟨.string (st.extract l.toNat h.toNat), ?_, .sc rfl⟩
 have e := hs.ev x
 rw [hop x (by simp [ho, Op.operands]), hx] at e
 have e := e.sc_inv
 have hb := run_bounds (P := P) w false st.size st.size (lo.map a.eval) (hi.map a.eval) l h (by
  cases lo with
  | none => exact hlo
  | some y =>
   obtain ⟨k, hk⟩ := hlo
   exact ⟨k, bnd_run hs hk (hop y (by simp [ho, Op.operands]))⟩) (by
  cases hi with
  | none => exact hhi
  | some y =>
   obtain ⟨k, hk⟩ := hhi
   exact ⟨k, bnd_run hs hk (hop y (by cases lo <;> simp [ho, Op.operands]))⟩) h0 h1 h2 (Nat.le_refl _)
 simp [execOp, ho, e, Instr.sliceAt, Instr.slice, run_underlying hud w, hb]
theorem as_sliceSl {t e : Nat} {x : Operand} {lo hi : Option Operand} {D E : TyD} {xs ys : List AV} {l h : Int} (ho : o.op = .slice t x lo hi none) (hD : tyOf P t = some D) (hk : D.k = .slice e) (hE : tyOf P e = some E) (hcl : ∀ x ∈ xs, x.cells.length = E.size) (hx : s.ev x = .sl xs) (hlo : bndOK s lo 0 l) (hhi : bndOK s hi xs.length h) (hu : subO xs l h = some ys) :
  AStep P o s ⟨.sl ys, [], [], []⟩ := by
 have hud := slice_und hD hk
 obtain ⟨h0, h1, h2, rfl⟩ := subO_spec hu
 intro s' _ hop _ _
 refine opok_val fun c φ R a w hs => ?_
 have e0 := hs.ev x
 rw [hop x (by simp [ho, Op.operands]), hx] at e0
 generalize hq : a.eval x = q at e0
 have hb : ∀ len cap : Nat, len = xs.length → len ≤ cap → (Instr.sliceBounds true len cap (lo.map a.eval) (hi.map a.eval) none).run P w = .ok (l.toNat, h.toNat, cap) w := fun len cap hl hc => run_bounds (P := P) w true len cap (lo.map a.eval) (hi.map a.eval) l h (by
  cases lo with
  | none => exact hlo
  | some y =>
   obtain ⟨k, hk⟩ := hlo
   exact ⟨k, bnd_run hs hk (hop y (by simp [ho, Op.operands]))⟩) (by
  subst hl
  cases hi with
  | none => exact hhi
  | some y =>
   obtain ⟨k, hk⟩ := hhi
   exact ⟨k, bnd_run hs hk (hop y (by cases lo <;> simp [ho, Op.operands]))⟩) h0 h1 (by rw [hl]; exact h2) hc
 cases e0 with
 | @sl0 _ ad cap =>
  have z1 : l = 0 := by simp at h2; omega
  have z2 : h = 0 := by simp at h2; omega
  subst z1 z2
  refine ⟨.slice (if cap = 0 then ad else ad.map (·.add (0 * E.size))) 0 cap, ?_, by simp; exact .sl0⟩
  simp [execOp, ho, hq, Instr.sliceAt, Instr.slice, run_underlying hud w, hb 0 cap rfl (Nat.zero_le _), run_sizeOf hE w]
 | @sl _ _ b off cap ez f he hR hcap hl hc hr =>
  refine ⟨.slice (if cap = l.toNat then some ⟨b, off, none⟩ else some (⟨b, off + l.toNat * E.size, none⟩)) (h.toNat - l.toNat) (cap - l.toNat), ?_, ?_⟩
  ·simp only [execOp, ho, hq, Instr.sliceAt, Instr.slice]
   simp [run_underlying hud w, hb _ cap rfl hcap, run_sizeOf hE w, addr_add]
  ·by_cases hz : h.toNat = l.toNat
   ·rw [hz]
    simp
    exact .sl0
   ·have hlt : l.toNat < h.toNat := by omega
    have hne : cap ≠ l.toNat := by omega
    rw [if_neg hne]
    have hxs : xs ≠ [] := by intro hh; subst hh; simp at h2; omega
    have hez : ez = E.size := by
     cases xs with
     | nil => exact absurd rfl hxs
     | cons y ys => rw [← hl 0 y rfl, hcl y (by simp)]
    subst hez
    have hlen : ((xs.drop l.toNat).take (h.toNat - l.toNat)).length = h.toNat - l.toNat := by simp; omega
    have := Rel.sl (w := w) (R := R) (φ := φ) (xs := (xs.drop l.toNat).take (h.toNat - l.toNat)) (b := b) (o := off + l.toNat * E.size) (cap := cap - l.toNat) (e := E.size) (fun k => f (l.toNat * E.size + k)) he hR (by rw [hlen]; omega) (by
     intro i y hy
     rw [List.getElem?_take] at hy
     split at hy
     ·rw [List.getElem?_drop] at hy
      exact hl _ y hy
     ·cases hy) (by
     intro k hk
     rw [hlen] at hk
     have : l.toNat * E.size + k < xs.length * E.size := by
      have h3 : h.toNat ≤ xs.length := by omega
      calc l.toNat * E.size + k < l.toNat * E.size + (h.toNat - l.toNat) * E.size := by omega
       _ = h.toNat * E.size := by rw [← Nat.add_mul]; congr 1; omega
       _ ≤ xs.length * E.size := Nat.mul_le_mul_right _ h3
     rw [Nat.add_assoc]
     exact hc _ this) (by
     intro i y j cc hy hj
     rw [List.getElem?_take] at hy
     split at hy
     ·rw [List.getElem?_drop] at hy
      have := hr _ y j cc hy hj
      rw [Nat.add_mul, Nat.add_assoc] at this
      exact this
     ·cases hy)
    rw [hlen] at this
    exact this
theorem as_b2s {t t2 e b n : Nat} {x : Operand} {D D2 E : TyD} {ns : List Int} {k : Blk} (ho : o.op = .convert t t2 x) (hD : tyOf P t = some D) (hk : D.k = .slice e) (hE : tyOf P e = some E) (hEk : E.k = .int .u8) (hD2 : tyOf P t2 = some D2) (hk2 : D2.k = .str)
  (hx : s.ev x = .arr b 0 n) (hb : lk b s.m = some (some k)) (hxs : k.xs = ns.map (fun n => .sc (.int .u8 n))) (hz : k.esz = 1) (hn : n = ns.length) : AStep P o s ⟨.sc (.string (b2s ns)), [], [b], []⟩ := by
 have hud := slice_und hD hk
 have hu8 := int_und hE hEk
 obtain ⟨_, _, ud2, _, _, hud2, _, _, _, _, hk'⟩ := tyOf_facts hD2
 rw [hk2] at hk'
 have : ud2 = .string := by cases ud2 <;> simp [kindOf] at hk' <;> rfl
 subst this
 intro s' _ hop hacc _
 refine opok_val fun c φ R a w hs => ⟨.string (b2s ns), ?_, .sc rfl⟩
 have e0 := hs.ev x
 rw [hop x (by simp [ho, Op.operands]), hx] at e0
 have hb' : lk b s'.m = some (some k) := by rw [hacc b (by simp)]; exact hb
 generalize hq : a.eval x = q at e0
 cases e0 with
 | arr0 hbn =>
  have : ns = [] := List.eq_nil_of_length_eq_zero hn.symm
  subst this
  simp [execOp, ho, hq, convert, run_underlying hud w, run_underlying hud2 w, run_underlying hu8 w, Conv.bytesToString, b2s]
 | @arr _ _ _ _ cap hm hbh hl hc =>
  obtain ⟨oh, ho', hrel⟩ := hs.m.rel b k hb'
  rw [hbh] at ho'
  cases ho'
  obtain ⟨hez, _, hlen, _, C, hC, hCs, hel⟩ := hrel
  have hez1 : hm.esz = 1 := by rw [← hez]; exact hz
  have hld : (loadCells ⟨hm.blk, 0 * hm.esz, none⟩ n).run P w = .ok (ns.map (Value.int .u8)).toArray w := by
   have := run_loadCells (P := P) w ⟨hm.blk, 0 * hm.esz, none⟩ n (fun j => .int .u8 (ns[j]?.getD 0)) (by
    intro j hj
    rw [addr_add, Nat.zero_mul, Nat.zero_add]
    have hj' : j < ns.length := by omega
    have hx' : k.xs[j]? = some (.sc (.int .u8 ns[j])) := by rw [hxs, List.getElem?_map]; simp [hj']
    obtain ⟨_, hcell⟩ := hel j _ hx'
    obtain ⟨u, hu, hru⟩ := hcell 0 (.sc (.int .u8 ns[j])) rfl
    rw [hez1] at hu
    simp only [Nat.mul_one, Nat.add_zero] at hu
    have := hru.sc_inv
    subst this
    rw [show (⟨hm.blk, j, none⟩ : Addr) = ⟨hm.blk, 0 + j, none⟩ by simp, cell_of_row w _ _ C _ _ hC]
    simp [hu, hj'])
   rw [this]
   congr 2
   apply List.ext_getElem
   ·simp [hn]
   ·intro i h1 h2
    simp at h1 h2
    simp [h2]
  have hbs := run_bytesToString (P := P) w ⟨hm.blk, 0 * hm.esz, none⟩ n cap ns hld
  simp only [Nat.zero_mul] at hq hbs
  simp [execOp, ho, hq, convert, run_underlying hud w, run_underlying hud2 w, run_underlying hu8 w, hbs, b2s]
end
section
variable {P : Program} {tt : TT} {n : Nat} {t : List (Nat × AV)} {m : Mem} {ops : Array Oper} {draw : Bool} {Q : St → Prop} {acc : List (Option Eff)} {l : List Oper}
theorem go_sliceS {o : Oper} {ty : Nat} {t' : List (Nat × AV)} {x : Operand} {lo hi : Option Operand} {D : TyD} (s u : ByteArray) (a b : Int) (hu : ssubO s a b = some u) (ht : TTok P tt) (hg : gchk ops ⟨n, t, m⟩ o = some true) (ho : o.op = .slice ty x lo hi none) (hD : lk ty tt = some D) (hk : D.k = .str)
  (hx : (⟨n, t, m⟩ : St).ev x = .sc (.string s)) (hlo : bndOK ⟨n, t, m⟩ lo 0 a) (hhi : bndOK ⟨n, t, m⟩ hi s.size b) (hp : putF n t o.dst (.sc (.string u)) = some t')
  (h : Go P ops draw Q l ⟨n, t', m⟩ (some ⟨.sc (.string u), [], [], []⟩ :: acc)) : Go P ops draw Q (o :: l) ⟨n, t, m⟩ acc :=
 go_step hg (as_sliceStr ho (ht _ _ hD) hk hx hlo hhi hu) rfl hp rfl h
theorem go_sliceT {α : Type} {o : Oper} {ty e : Nat} {t' : List (Nat × AV)} {x : Operand} {lo hi : Option Operand} {D E : TyD} (enc : α → AV) (xs ys : List α) (a b : Int) (hu : subO xs a b = some ys) (hcl : ∀ x, (enc x).cells.length = E.size) (ht : TTok P tt) (hg : gchk ops ⟨n, t, m⟩ o = some true) (ho : o.op = .slice ty x lo hi none) (hD : lk ty tt = some D) (hk : D.k = .slice e) (hE : lk e tt = some E)
  (hx : (⟨n, t, m⟩ : St).ev x = .sl (xs.map enc)) (hlo : bndOK ⟨n, t, m⟩ lo 0 a) (hhi : bndOK ⟨n, t, m⟩ hi xs.length b) (hp : putF n t o.dst (.sl (ys.map enc)) = some t')
  (h : Go P ops draw Q l ⟨n, t', m⟩ (some ⟨.sl (ys.map enc), [], [], []⟩ :: acc)) : Go P ops draw Q (o :: l) ⟨n, t, m⟩ acc := by
 obtain ⟨h0, h1, h2, rfl⟩ := subO_spec hu
 refine go_step hg (as_sliceSl (P := P) (s := ⟨n, t, m⟩) (l := a) (h := b) ho (ht _ _ hD) hk (ht _ _ hE) (by simpa using fun x _ => hcl x) hx hlo (by rw [List.length_map]; exact hhi) ?_) rfl hp rfl h
 rw [subO_eq h0 h1 (by simpa using h2)]
 simp [List.map_take, List.map_drop]
theorem go_b2s {o : Oper} {ty ty2 e b len bt bz : Nat} {t' : List (Nat × AV)} {x : Operand} {D D2 E : TyD} (ns : List Int) (hlen : len = ns.length) (ht : TTok P tt) (hg : gchk ops ⟨n, t, m⟩ o = some true) (ho : o.op = .convert ty ty2 x) (hD : lk ty tt = some D) (hk : D.k = .slice e) (hE : lk e tt = some E) (hEk : E.k = .int .u8) (hD2 : lk ty2 tt = some D2) (hk2 : D2.k = .str)
  (hx : (⟨n, t, m⟩ : St).ev x = .arr b 0 len) (hb : lk b m = some (some ⟨bt, bz, ns.map (fun n => .sc (.int .u8 n))⟩)) (hz : Nat.beq bz 1 = true) (hp : putF n t o.dst (.sc (.string (b2s ns))) = some t')
  (h : Go P ops draw Q l ⟨n, t', m⟩ (some ⟨.sc (.string (b2s ns)), [], [b], []⟩ :: acc)) : Go P ops draw Q (o :: l) ⟨n, t, m⟩ acc :=
 go_step hg (as_b2s (P := P) (s := ⟨n, t, m⟩) ho (ht _ _ hD) hk (ht _ _ hE) hEk (ht _ _ hD2) hk2 hx hb rfl (Nat.eq_of_beq_eq_true hz) hlen) rfl hp rfl h
end
end Go.Ab
