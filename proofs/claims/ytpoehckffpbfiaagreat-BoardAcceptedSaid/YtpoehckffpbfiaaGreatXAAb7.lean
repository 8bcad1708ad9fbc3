/- The abstract layer, part 7: slice literals, append, slice expressions. -/
import Derived.Test.YtpoehckffpbfiaaGreatXAAb6
namespace Go.Ab
open Go.RowKit
section
variable {P : Program} {o : Oper} {s : St}
def group (agg : Bool) (sz : Nat) : Nat → List AV → Option (List AV)
 | 0, [] => some []
 | 0, _ :: _ => none
 | n + 1, l => match sub l 0 sz with
  | none => none
  | some cs => match dropC l sz with
   | none => none
   | some rest => match group agg sz n rest with
    | none => none
    | some xs => match agg with
     | true => some (.agg cs :: xs)
     | false => match cs with
      | [.agg _] => none
      | [c] => some (c :: xs)
      | _ => none
theorem group_spec {agg : Bool} {sz : Nat} : ∀ (n : Nat) (l xs : List AV), group agg sz n l = some xs → xs.length = n ∧ l.length = n * sz ∧ ∀ (i : Nat) (x : AV), xs[i]? = some x → x.cells.length = sz ∧ ∀ (j : Nat) (c : AV), x.cells[j]? = some c → l[i * sz + j]? = some c
 | 0, [], xs, h => by simp [group] at h; subst h; simp
 | 0, _ :: _, xs, h => by simp [group] at h
 | n + 1, l, xs, h => by
  simp only [group] at h
  cases h1 : sub l 0 sz with
  | none => simp [h1] at h
  | some cs =>
   cases h2 : dropC l sz with
   | none => simp [h1, h2] at h
   | some rest =>
    cases h3 : group agg sz n rest with
    | none => simp [h1, h2, h3] at h
    | some ys =>
     simp only [h1, h2, h3] at h
     obtain ⟨s1, s2, s3⟩ := sub_spec l 0 sz cs h1
     obtain ⟨rfl, d2⟩ := dropC_spec sz l rest h2
     obtain ⟨g1, g2, g3⟩ := group_spec n _ ys h3
     have key : ∃ x, xs = x :: ys ∧ x.cells = cs := by
      cases agg with
      | true => simp at h; exact ⟨.agg cs, h.symm, rfl⟩
      | false =>
       dsimp only at h
       match cs, h with
       | [.bot], h => cases h; exact ⟨_, rfl, rfl⟩
       | [.sc _], h => cases h; exact ⟨_, rfl, rfl⟩
       | [.nilS], h => cases h; exact ⟨_, rfl, rfl⟩
       | [.tup _], h => cases h; exact ⟨_, rfl, rfl⟩
       | [.sl _], h => cases h; exact ⟨_, rfl, rfl⟩
       | [.vp _], h => cases h; exact ⟨_, rfl, rfl⟩
       | [.ref _ _ _], h => cases h; exact ⟨_, rfl, rfl⟩
       | [.arr _ _ _], h => cases h; exact ⟨_, rfl, rfl⟩
       | [.clo _ _ _], h => cases h; exact ⟨_, rfl, rfl⟩
       | [.mpv _ _ _], h => cases h; exact ⟨_, rfl, rfl⟩
       | [.slx _], h => cases h; exact ⟨_, rfl, rfl⟩
       | [.agg _], h => cases h
       | [], h => cases h
       | _ :: _ :: _, h => simp at h
     obtain ⟨x, rfl, hx⟩ := key
     simp only [List.length_drop] at g2
     refine ⟨by simp [g1], by rw [Nat.add_mul, Nat.one_mul]; omega, fun i y hy => ?_⟩
     cases i with
     | zero =>
      simp at hy
      subst hy
      rw [hx]
      refine ⟨s1, fun j c hj => ?_⟩
      have hjl : j < sz := by rw [← s1]; exact (List.getElem?_eq_some_iff.1 hj).1
      rw [s3 j hjl] at hj
      simpa using hj
     | succ i =>
      simp at hy
      obtain ⟨q1, q2⟩ := g3 i y hy
      refine ⟨q1, fun j c hj => ?_⟩
      have := q2 j c hj
      rw [List.getElem?_drop] at this
      rw [← this]
      congr 1
      rw [Nat.add_mul, Nat.one_mul]
      omega
def zerosL (z : List AV) : Nat → List AV
 | 0 => []
 | n + 1 => z ++ zerosL z n
theorem zerosL_spec (z : List AV) : ∀ n, (zerosL z n).length = n * z.length ∧ ∀ i j, i < n → j < z.length → (zerosL z n)[i * z.length + j]? = z[j]?
 | 0 => ⟨by simp [zerosL], fun i j hi => by omega⟩
 | n + 1 => by
  obtain ⟨h1, h2⟩ := zerosL_spec z n
  refine ⟨by simp only [zerosL, List.length_append, h1, Nat.add_mul, Nat.one_mul]; omega, fun i j hi hj => ?_⟩
  cases i with
  | zero => simp only [zerosL, Nat.zero_mul, Nat.zero_add]; rw [List.getElem?_append_left hj]
  | succ i =>
   simp only [zerosL]
   have : (i + 1) * z.length + j = z.length + (i * z.length + j) := by rw [Nat.add_mul, Nat.one_mul]; omega
   rw [this, List.getElem?_append_right (by omega), show z.length + (i * z.length + j) - z.length = i * z.length + j by omega]
   exact h2 i j (by omega) hj
theorem as_buildSlice {t e d len : Nat} {parts : Array (Nat × Operand)} {D E : TyD} {l xs : List AV} (ho : o.op = .buildSlice t len parts) (h : tyOf P t = some D) (hk : D.k = .slice e) (hE : tyOf P e = some E) (hz : Nat.blt 0 E.size = true) (hbig : Nat.ble (len * E.size) 16777216 = true)
  (hl : afill (fun j => some (j * E.size, E.size)) (zerosL E.zero.cells len) (evParts s parts.toList) = some l) (hg : group E.k.isAgg E.size len l = some xs) :
  AStep P o s ⟨.arr d 0 len, [(d, some ⟨e, E.size, xs⟩)], [], [d]⟩ := by
 intro s' _ hop _ hnw
 refine opok_run fun c φ R a w hs => ?_
 have hpos : 0 < E.size := by simpa using hz
 have hble : len * E.size ≤ 16777216 := Nat.le_of_ble_eq_true hbig
 obtain ⟨i, z, u, hi, hzz, _, hsz, hby, hzero, hzs, _⟩ := tyOf_facts hE
 have hmem : ∀ p ∈ parts.toList, p.2 ∈ o.op.operands.toList := by
  intro p hp
  simp only [ho, Op.operands]
  simp
  exact ⟨p.1, by simpa using hp⟩
 obtain ⟨p1, p2⟩ := parts_rel hs parts (s := s) (fun p hp => hop _ (hmem p hp))
 have hc := ofZero_cells w R φ z
 rw [hzero] at hl
 obtain ⟨q1, q2⟩ := zerosL_spec (ofZero z).cells len
 have hzl : (ofZero z).cells.length = E.size := by rw [hc.1, hzs]
 obtain ⟨out, g1, g2, g3⟩ := afill_spec (w := w) (R := R) (φ := φ) (evParts s parts.toList) _ l (parts.map fun (i, x) => (i, a.eval x)).toList ((Array.range (len * E.size)).map (z.cells[· % z.cells.size]!)) hl p1 p2 (by simp [q1, hzl]) (fun j c' u' h1 h2 => by
  have hjl : j < len * E.size := by rw [← hzl, ← q1]; exact (List.getElem?_eq_some_iff.1 h1).1
  have e1 : j = (j / E.size) * E.size + j % E.size := by rw [Nat.mul_comm]; exact (Nat.div_add_mod j E.size).symm
  have e2 : j / E.size < len := Nat.div_lt_of_lt_mul (by rwa [Nat.mul_comm] at hjl)
  have e3 : j % E.size < E.size := Nat.mod_lt _ hpos
  rw [e1] at h1 h2
  rw [zeros_get z.cells len E.size hzs _ _ e2 e3] at h2
  have := q2 (j / E.size) (j % E.size) e2 (by rw [hzl]; exact e3)
  rw [hzl] at this
  rw [this] at h1
  exact hc.2 _ _ _ h1 h2)
 obtain ⟨r1, r2, r3⟩ := group_spec len l xs hg
 have hrun : (Instr.buildSlice t len (parts.map fun (i, x) => (i, a.eval x))).run P w = .ok (.slice (some ⟨w.heap.size, 0, none⟩) len len) (w.alloc (.cells out e)) := by
  have hnb : ¬ (len * E.size > 16777216) := by omega
  simp only [Instr.buildSlice, Sem.run_bind, run_underlying (slice_und h hk), Result.andThen_ok, run_sizeOf hE]
  by_cases hl0 : len * E.size = 0
  ·have hlen : len = 0 := by
    rcases Nat.mul_eq_zero.1 hl0 with h | h
    ·exact h
    ·omega
   subst hlen
   have e0 : Array.range 0 = #[] := rfl
   have g1' : Instr.fill (fun j => some (j * E.size, E.size)) #[] (parts.map fun (i, x) => (i, a.eval x)).toList = some out := by simpa [e0] using g1
   simp [e0, newRow]
   rw [show (parts.map fun (x : Nat × Operand) => (x.1, a.eval x.2)).toList = (parts.map fun (i, x) => (i, a.eval x)).toList from rfl] at *
   simp at g1'
   rw [g1']
   simp
  ·simp [hl0, hnb, zeroValue, typeInfo, hi, hzz, newRow]
   simp at g1
   rw [g1]
   simp
 obtain ⟨n1, n2⟩ := hs.newArr d (hnw d (by simp)) (T := e) (n := E.size) (cap := len) (C := out) (xs := xs) ⟨w.drawn, rfl⟩ hpos (by rw [← g2, r2]) (by omega) (by
   simp only [maxLen]
   have := Nat.le_mul_of_pos_right len hpos
   omega) (fun i x hx => by
  obtain ⟨t1, t2⟩ := r3 i x hx
  refine ⟨t1, fun j c' hj => ?_⟩
  have h3 := t2 j c' hj
  have hlt : i * E.size + j < out.size := by rw [← g2]; exact (List.getElem?_eq_some_iff.1 h3).1
  exact ⟨out[i * E.size + j], by simp [hlt], g3 _ _ _ h3 (by simp [hlt])⟩)
 refine ⟨.slice (some ⟨w.heap.size, 0, none⟩) len len, w.alloc (.cells out e), φ.up d (some ⟨w.heap.size, E.size, len⟩), R, by simp [execOp, ho]; simp at hrun; rw [hrun]; simp, ?_⟩
 exact SRelX.app n1 o.dst (n2 len (Nat.le_refl _))
end
end Go.Ab
