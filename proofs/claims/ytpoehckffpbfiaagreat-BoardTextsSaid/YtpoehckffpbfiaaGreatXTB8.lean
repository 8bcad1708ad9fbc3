/- B8: what functions of the program compute (written by mod.py). -/
import Derived.Test.YtpoehckffpbfiaaGreatXTB5
import Derived.KernelRfl
namespace Go.Proofs.YtpoehckffpbfiaaGreat
open Go Go.Ab
set_option linter.unusedSimpArgs false
set_option linter.unusedVariables false
set_option linter.unusedSectionVars false
set_option maxRecDepth 20000
set_option maxHeartbeats 1000000
theorem rnums_eq (b : TBoard) : r30_numbers_g b = numsB b := by
 unfold r30_numbers_g numsB dnum
 rfl
theorem rmarks_eq {l : List Df} (hl : l.length ≤ 1000) : r30_marks_g l = some (numsD l) := by
 unfold r30_marks_g
 have := loopO_foldI (step := fun q : List Int × Int => r30_marks_s1 l q.1 q.2) l (fun w e => w ++ num7 e) [] (fun w j => (w, (j : Int))) (fun w => w) (fun j w => w.length = 7 * j) rfl (fun j w hj h => by
  rw [List.length_append, h]
  show _ + 7 = _
  omega) (fun w j hj hw => by
  unfold r30_marks_s1
  dsimp only
  rw [lt_nat hj, cond_true, getI_at hj, bind_some', bind_some', appO_eq (by simp only [List.length_cons, List.length_nil]; omega) (by simp only [List.length_cons, List.length_nil]; omega), bind_some', W64_succ (by omega)]
  rfl) (fun w _ => by
  unfold r30_marks_s1
  dsimp only
  rw [nlt_nat]
  rfl)
 rw [numsD_fold, List.nil_append] at this
 rw [show (([] : List Int), ((0 : Nat) : Int)) = ([], 0) from rfl] at this
 rw [this, bind_some']
theorem rranged_eq {l : List Int} (hl : l.length ≤ 1000000) : r30_ranged_g l = some (!l.any wideN) := by
 unfold r30_ranged_g
 have := loopO_foldX (step := fun q : Int => r30_ranged_s1 l q) l wideN (fun (u : Unit) _ => u) () (fun _ j => (j : Int)) (.inl false) (fun _ => .inr ()) (fun _ _ => True) trivial (fun _ _ _ _ _ => trivial) (fun s j hj _ hb => by
  unfold wideN at hb
  rw [Bool.or_eq_false_iff] at hb
  unfold r30_ranged_s1
  rw [lt_nat hj, cond_true, getI_at hj, bind_some', hb.1, cond_false, bind_some', hb.2, W64_succ (by omega)]
  rfl) (fun s j hj _ hb => by
  unfold wideN at hb
  unfold r30_ranged_s1
  rw [lt_nat hj, cond_true, getI_at hj, bind_some', bind_some']
  cases h1 : decide (l[j] < -1099511627776) with
  | true => rfl
  | false =>
   rw [h1, Bool.false_or] at hb
   rw [hb]
   rfl) (fun _ _ => by
  unfold r30_ranged_s1
  rw [nlt_nat]
  rfl)
 rw [show ((0 : Nat) : Int) = 0 from rfl] at this
 rw [this, bind_some']
 cases l.any wideN <;> rfl
theorem rencode_eq (b : TBoard) : r30_Encode_g b = some (enc30 b) := by
 unfold r30_Encode_g enc30
 by_cases h1 : 16 < b.Id.size
 ·rw [decide_eq_true (by omega), if_pos (.inl h1)]
  rfl
 rw [decide_eq_false (by omega), cond_false]
 by_cases h2 : 16 < b.Log.size
 ·rw [decide_eq_true (by omega), if_pos (.inr (.inl h2))]
  rfl
 rw [decide_eq_false (by omega), cond_false]
 by_cases h3 : 16 < b.Species.size
 ·rw [decide_eq_true (by omega), if_pos (.inr (.inr h3))]
  rfl
 rw [decide_eq_false (by omega), cond_false, if_neg (by omega)]
 by_cases h4 : 64 < b.Defects.length
 ·rw [decide_eq_true (by omega), if_pos h4]
  rfl
 have hD := numsD_len b.Defects
 rw [decide_eq_false (by omega), cond_false, if_neg h4, letB_eq, rnums_eq, rmarks_eq (by omega), bind_some', rranged_eq (by show 14 ≤ _; omega), bind_some', rranged_eq (by omega)]
 cases h5 : (numsB b).any wideN with
 | true => rfl
 | false =>
  cases h6 : (numsD b.Defects).any wideN with
  | true => rfl
  | false =>
   have hn := narrow h5
   have hm := narrow h6
   have k1 := tb_len (s := b.Id) (by omega)
   have k2 := tb_len (s := b.Log) (by omega)
   have k3 := tb_len (s := b.Species) (by omega)
   have k4 := ib_len9 (l := numsB b) (fun n h => (hn n h).1) (by show 14 ≤ 1000; omega)
   have k5 := ib_len9 (l := numsD b.Defects) (fun n h => (hm n h).1) (by omega)
   rw [r05_text (by omega), r05_text (by omega), r05_text (by omega), r05_ints (by show 14 ≤ _; omega) (fun n h => (hn n h).1), r05_ints (by omega) (fun n h => (hm n h).1)]
   simp only [cond_false, bind_some', Bool.not_false, Bool.not_true]
   rw [catO_eq (by rw [mkS_size, mkS_size]; omega), bind_some', ← mkS_append, catO_eq (by rw [mkS_size, mkS_size, List.length_append]; omega), bind_some', ← mkS_append, catO_eq (by rw [mkS_size, mkS_size, List.length_append, List.length_append]; omega), bind_some', ← mkS_append, catO_eq (by rw [mkS_size, mkS_size, List.length_append, List.length_append, List.length_append]; omega), bind_some', ← mkS_append, if_neg (by simp)]
   rfl
section
variable {s : ByteArray} (hs : s.size ≤ 1000000000000) {p : Nat × Nat} (hp : p.1 ≤ s.size)
include hs hp
theorem r05_T : r05_ReadText_g (qR s p.1 p.2) 16 = some (qR s (rdT (bl s) p).2.1 (rdT (bl s) p).2.2, mkS (rdT (bl s) p).1) := by
 unfold rdT
 by_cases h : p.2 = 0
 ·rw [if_pos h, h, r05_rText hs hp I16]
 ·rw [if_neg h]
  unfold r05_ReadText_g
  show (bif ((p.2 : Int) != 0) then _ else _) = _
  rw [ne0_t h]
  rfl
theorem r05_I {most : Int} (hm : I64 most) : r05_ReadInts_g (qR s p.1 p.2) most (-1099511627776) 1099511627776 = some (qR s (rdI most (bl s) p).2.1 (rdI most (bl s) p).2.2, (rdI most (bl s) p).1) := by
 unfold rdI
 by_cases h : p.2 = 0
 ·rw [if_pos h, h, r05_rInts hs hp _ _ hm]
 ·rw [if_neg h]
  unfold r05_ReadInts_g
  show (bif ((p.2 : Int) != 0) then _ else _) = _
  rw [ne0_t h]
  rfl
end
theorem getI_drop {L X : List Int} {n : Nat} (h : L.drop n = X) (i : Nat) {x : Int} (hx : X[i]? = some x) : getI L ((n + i : Nat) : Int) = some x := by
 rw [getI_nat, ← List.getElem?_drop, h, hx]
theorem W64_add {n k : Nat} (h : n + k ≤ 9223372036854775807) : W64 ((n : Int) + (k : Int)) = ((n + k : Nat) : Int) := by
 rw [W64_eq (by omega) (by omega)]
 rfl
theorem box_at {L : List Int} {n : Nat} {b c d e f g : Int} {r : List Int} (hn : n ≤ 1000000) (h : L.drop n = b :: c :: d :: e :: f :: g :: r) : r30_box_g L (n : Int) = some ⟨⟨b, c⟩, ⟨d, e⟩, ⟨f, g⟩⟩ := by
 unfold r30_box_g r30_span_g
 rw [show W64 ((n : Int) + 2) = ((n + 2 : Nat) : Int) from W64_add (k := 2) (by omega), show W64 ((n : Int) + 4) = ((n + 4 : Nat) : Int) from W64_add (k := 4) (by omega), show W64 ((n : Int) + 1) = ((n + 1 : Nat) : Int) from W64_add (k := 1) (by omega), show W64 (((n + 2 : Nat) : Int) + 1) = ((n + 3 : Nat) : Int) from W64_add (n := n + 2) (k := 1) (by omega), show W64 (((n + 4 : Nat) : Int) + 1) = ((n + 5 : Nat) : Int) from W64_add (n := n + 4) (k := 1) (by omega)]
 rw [show getI L (n : Int) = some b from getI_drop h 0 rfl, getI_drop h 1 (x := c) rfl, getI_drop h 2 (x := d) rfl, getI_drop h 3 (x := e) rfl, getI_drop h 4 (x := f) rfl, getI_drop h 5 (x := g) rfl]
 rfl
theorem box_at1 {a b c d e f g : Int} {r : List Int} : r30_box_g (a :: b :: c :: d :: e :: f :: g :: r) 1 = some ⟨⟨b, c⟩, ⟨d, e⟩, ⟨f, g⟩⟩ := by
 rw [show (1 : Int) = ((1 : Nat) : Int) from rfl]
 exact box_at (by omega) rfl
theorem rdec_loop {L : List Int} (hL : L.length ≤ 1000000) (h7 : L.length % 7 = 0) (rv : Tsawmillref05_Reader) (a1 a2 a3 : ByteArray) (a4 a5 a6 a7 a8 a9 a10 a11 b1 b2 b3 b4 : Int) (b5 : Bool) (b6 : Int) :
  loopO (fun q : Int × ByteArray × ByteArray × ByteArray × Int × Int × Int × Int × Int × Int × Int × Int × (List Df) × Int × Int × Int × Int × Bool × Int => r30_Decode_s1 (rv, L) q.1 q.2.1 q.2.2.1 q.2.2.2.1 q.2.2.2.2.1 q.2.2.2.2.2.1 q.2.2.2.2.2.2.1 q.2.2.2.2.2.2.2.1 q.2.2.2.2.2.2.2.2.1 q.2.2.2.2.2.2.2.2.2.1 q.2.2.2.2.2.2.2.2.2.2.1 q.2.2.2.2.2.2.2.2.2.2.2.1 q.2.2.2.2.2.2.2.2.2.2.2.2.1 q.2.2.2.2.2.2.2.2.2.2.2.2.2.1 q.2.2.2.2.2.2.2.2.2.2.2.2.2.2.1 q.2.2.2.2.2.2.2.2.2.2.2.2.2.2.2.1 q.2.2.2.2.2.2.2.2.2.2.2.2.2.2.2.2.1 q.2.2.2.2.2.2.2.2.2.2.2.2.2.2.2.2.2.1 q.2.2.2.2.2.2.2.2.2.2.2.2.2.2.2.2.2.2) (0, a1, a2, a3, a4, a5, a6, a7, a8, a9, a10, a11, [], b1, b2, b3, b4, b5, b6) = some (a1, a2, a3, a4, a5, a6, a7, a8, a9, a10, a11, unD L, b1, b2, b3, b4, b5, b6) := by
 have := loopO_upto (step := fun q : Int × ByteArray × ByteArray × ByteArray × Int × Int × Int × Int × Int × Int × Int × Int × (List Df) × Int × Int × Int × Int × Bool × Int => r30_Decode_s1 (rv, L) q.1 q.2.1 q.2.2.1 q.2.2.2.1 q.2.2.2.2.1 q.2.2.2.2.2.1 q.2.2.2.2.2.2.1 q.2.2.2.2.2.2.2.1 q.2.2.2.2.2.2.2.2.1 q.2.2.2.2.2.2.2.2.2.1 q.2.2.2.2.2.2.2.2.2.2.1 q.2.2.2.2.2.2.2.2.2.2.2.1 q.2.2.2.2.2.2.2.2.2.2.2.2.1 q.2.2.2.2.2.2.2.2.2.2.2.2.2.1 q.2.2.2.2.2.2.2.2.2.2.2.2.2.2.1 q.2.2.2.2.2.2.2.2.2.2.2.2.2.2.2.1 q.2.2.2.2.2.2.2.2.2.2.2.2.2.2.2.2.1 q.2.2.2.2.2.2.2.2.2.2.2.2.2.2.2.2.2.1 q.2.2.2.2.2.2.2.2.2.2.2.2.2.2.2.2.2.2) (fun j => (((7 * j : Nat) : Int), a1, a2, a3, a4, a5, a6, a7, a8, a9, a10, a11, (unD L).take j, b1, b2, b3, b4, b5, b6)) (L.length / 7) (y := (a1, a2, a3, a4, a5, a6, a7, a8, a9, a10, a11, unD L, b1, b2, b3, b4, b5, b6)) (fun j hj => by
  have h8 : 7 ≤ (L.drop (7 * j)).length := by rw [List.length_drop]; omega
  obtain ⟨a, b, c, d, e, f, g, r, hr⟩ := seven h8
  have hd := unD_drop j L
  rw [hr] at hd
  have hd' : (⟨a, ⟨⟨b, c⟩, ⟨d, e⟩, ⟨f, g⟩⟩⟩ : Df) :: unD r = (unD L).drop j := hd
  have hlt : j < (unD L).length := by
   rcases Nat.lt_or_ge j (unD L).length with q | q
   ·exact q
   ·rw [List.drop_eq_nil_of_le q] at hd'
    cases hd'
  rw [List.drop_eq_getElem_cons hlt] at hd'
  have he := (List.cons.inj hd').1
  have hr1 : L.drop (7 * j + 1) = b :: c :: d :: e :: f :: g :: r := by
   rw [← List.drop_drop, hr]
   rfl
  have hlen : ((unD L).take j).length ≤ j := by rw [List.length_take]; omega
  unfold r30_Decode_s1
  dsimp only
  rw [lt_nat (j := 7 * j) (by omega), cond_true, show getI L ((7 * j : Nat) : Int) = some a from getI_drop hr 0 rfl, bind_some', show W64 (((7 * j : Nat) : Int) + 1) = ((7 * j + 1 : Nat) : Int) from W64_add (k := 1) (by omega), box_at (by omega) hr1, bind_some', appO_eq (by simp only [List.length_cons, List.length_nil]; omega) (by simp only [List.length_cons, List.length_nil]; omega), bind_some', show W64 (((7 * j : Nat) : Int) + 7) = ((7 * (j + 1) : Nat) : Int) from (W64_add (k := 7) (by omega)).trans (by congr 1), List.take_succ_eq_append_getElem hlt, ← he]) (by
  unfold r30_Decode_s1
  dsimp only
  rw [show 7 * (L.length / 7) = L.length by omega, nlt_nat, List.take_of_length_le (by rw [unD_len h7]; exact Nat.le_refl _)]
  rfl)
 exact this
theorem rdecode_eq {s : ByteArray} (hs : s.size ≤ 1000000000000) : r30_Decode_g s = some (dec30 s) := by
 have l1 : (T1 (bl s)).2.1 ≤ s.size := by have := T1_le (bl s); rwa [bl_length] at this
 have l2 : (T2 (bl s)).2.1 ≤ s.size := by have := T2_le (bl s); rwa [bl_length] at this
 have l3 : (T3 (bl s)).2.1 ≤ s.size := by have := T3_le (bl s); rwa [bl_length] at this
 have l4 : (T4 (bl s)).2.1 ≤ s.size := by have := T4_le (bl s); rwa [bl_length] at this
 have l5 : (T5 (bl s)).2.1 ≤ s.size := by have := T5_le (bl s); rwa [bl_length] at this
 unfold r30_Decode_g
 rw [letB_eq, show r05_NewReader_g s = qR s 0 0 from rfl]
 have e1 := r05_T hs (p := (0, 0)) (by simp)
 have e2 := r05_T hs (p := (T1 (bl s)).2) l1
 have e3 := r05_T hs (p := (T2 (bl s)).2) l2
 have e4 := r05_I hs (p := (T3 (bl s)).2) l3 I14
 have e5 := r05_I hs (p := (T4 (bl s)).2) l4 I448
 have e6 := rend_eq hs (e := (T5 (bl s)).2.2) l5
 rw [show r05_ReadText_g (qR s 0 0) 16 = some (qR s (T1 (bl s)).2.1 (T1 (bl s)).2.2, mkS (T1 (bl s)).1) from e1, bind_some']
 dsimp only
 rw [show r05_ReadText_g (qR s (T1 (bl s)).2.1 (T1 (bl s)).2.2) 16 = some (qR s (T2 (bl s)).2.1 (T2 (bl s)).2.2, mkS (T2 (bl s)).1) from e2, bind_some']
 dsimp only
 rw [show r05_ReadText_g (qR s (T2 (bl s)).2.1 (T2 (bl s)).2.2) 16 = some (qR s (T3 (bl s)).2.1 (T3 (bl s)).2.2, mkS (T3 (bl s)).1) from e3, bind_some']
 dsimp only
 rw [show r05_ReadInts_g (qR s (T3 (bl s)).2.1 (T3 (bl s)).2.2) 14 (-1099511627776) 1099511627776 = some (qR s (T4 (bl s)).2.1 (T4 (bl s)).2.2, (T4 (bl s)).1) from e4, bind_some']
 dsimp only
 rw [show r05_ReadInts_g (qR s (T4 (bl s)).2.1 (T4 (bl s)).2.2) 448 (-1099511627776) 1099511627776 = some (qR s (T5 (bl s)).2.1 (T5 (bl s)).2.2, (T5 (bl s)).1) from e5, bind_some']
 dsimp only
 have hm := T5_most (bl s)
 unfold dec30
 rw [e6]
 generalize mkS (T1 (bl s)).1 = t1
 generalize mkS (T2 (bl s)).1 = t2
 generalize mkS (T3 (bl s)).1 = t3
 clear e1 e2 e3 e4 e5 e6 l1 l2 l3 l4
 generalize T4 (bl s) = q4
 generalize T5 (bl s) = q5 at *
 by_cases h1 : q5.2.2 = 0
 ·rw [if_pos h1]
  by_cases h2 : q5.2.1 < s.size
  ·rw [if_pos h2, if_neg (fun z => by unfold decOk at z; omega), show ((4 : Int) != 0) = true from rfl]
   simp only [cond_true, bind_some', Sum.elim_inl]
   rfl
  rw [if_neg h2, show ((0 : Int) != 0) = false from rfl, cond_false]
  by_cases h3 : q4.1.length = 14
  ·rw [show (((q4.1.length : Nat) : Int) != 14) = false by simp [h3], cond_false]
   by_cases h4 : q5.1.length % 7 = 0
   ·rw [show (Int.tmod ((q5.1.length : Nat) : Int) 7 != 0) = false by
     rw [bne_eq_false_iff_eq, tmod7]
     omega, cond_false]
    obtain ⟨q4a, q4b⟩ := q4
    dsimp only at h3 ⊢
    obtain ⟨a, b, c, d, e, f, g, h, i, j, k, m, n, o, rfl⟩ := n14 h3
    rw [show getI [a, b, c, d, e, f, g, h, i, j, k, m, n, o] 12 = some n from rfl, bind_some', bind_some']
    have hd : decOk s.size ([a, b, c, d, e, f, g, h, i, j, k, m, n, o], q4b) q5 ↔ (n = 0 ∨ n = 1) := by
     constructor
     ·rintro ⟨_, _, _, _, z | z⟩
      ·exact .inl (Option.some.inj z)
      ·exact .inr (Option.some.inj z)
     ·intro z
      refine ⟨h1, by omega, by rfl, h4, ?_⟩
      rcases z with rfl | rfl
      ·exact .inl rfl
      ·exact .inr rfl
    by_cases g1 : n = 0 ∨ n = 1
    ·rw [if_pos (hd.2 g1)]
     have hX : (bif (n != 0) then (bif (n != 1) then some (Sum.inl (zB, (5 : Int))) else some (Sum.inr ())) else some (Sum.inr ()) : Option ((TBoard × Int) ⊕ Unit)) = some (.inr ()) := by
      rcases g1 with rfl | rfl <;> rfl
     rw [show (bif (n != 0) then (bif (n != 1) then some (Sum.inl ((⟨(⟨#[]⟩ : ByteArray), (⟨#[]⟩ : ByteArray), (⟨#[]⟩ : ByteArray), 0, (⟨(⟨0, 0⟩ : Sp), (⟨0, 0⟩ : Sp), (⟨0, 0⟩ : Sp)⟩ : Bx), 0, [], 0, (⟨0, 0, 0⟩ : TCell), false, 0⟩ : TBoard), (5 : Int))) else some (Sum.inr ())) else some (Sum.inr ()) : Option ((TBoard × Int) ⊕ Unit)) = some (.inr ()) from hX]
     rw [bind_some', Sum.elim_inr, show getI [a, b, c, d, e, f, g, h, i, j, k, m, n, o] 0 = some a from rfl, bind_some', box_at1, bind_some', show getI [a, b, c, d, e, f, g, h, i, j, k, m, n, o] 7 = some h from rfl, bind_some', show getI [a, b, c, d, e, f, g, h, i, j, k, m, n, o] 8 = some i from rfl, bind_some', show getI [a, b, c, d, e, f, g, h, i, j, k, m, n, o] 9 = some j from rfl, bind_some', show getI [a, b, c, d, e, f, g, h, i, j, k, m, n, o] 10 = some k from rfl, bind_some', show getI [a, b, c, d, e, f, g, h, i, j, k, m, n, o] 11 = some m from rfl, bind_some', bind_some', show getI [a, b, c, d, e, f, g, h, i, j, k, m, n, o] 13 = some o from rfl, bind_some']
     obtain ⟨q5a, q5b⟩ := q5
     dsimp only at h4 hm ⊢
     rw [rdec_loop (by omega) h4, bind_some']
     rfl
    ·rw [if_neg (fun z => g1 (hd.1 z))]
     rw [show (n != 0) = true by simp; omega, show (n != 1) = true by simp; omega]
     simp only [cond_true, bind_some', Sum.elim_inl]
     rfl
   ·rw [show (Int.tmod ((q5.1.length : Nat) : Int) 7 != 0) = true by
     rw [bne_iff_ne, tmod7]
     omega, cond_true, if_neg (fun z => by unfold decOk at z; omega)]
    simp only [bind_some', Sum.elim_inl]
    rfl
  ·rw [show (((q4.1.length : Nat) : Int) != 14) = true by simp; omega, cond_true, if_neg (fun z => by unfold decOk at z; omega)]
   simp only [bind_some', Sum.elim_inl]
   rfl
 ·rw [if_neg h1, ne0_t h1, if_neg (fun z => h1 z.1)]
  simp only [cond_true, bind_some', Sum.elim_inl]
  rfl
theorem unD_le : ∀ L : List Int, (unD L).length ≤ L.length
 | [] => by simp [unD]
 | [_] => by simp [unD]
 | [_, _] => by simp [unD]
 | [_, _, _] => by simp [unD]
 | [_, _, _, _] => by simp [unD]
 | [_, _, _, _, _] => by simp [unD]
 | [_, _, _, _, _, _] => by simp [unD]
 | k :: a :: b :: c :: d :: e :: f :: r => by
  have := unD_le r
  show (unD r).length + 1 ≤ _
  simp only [List.length_cons]
  omega
theorem mkB_defects (t u v : ByteArray) (D : List Df) (n : List Int) : (mkB t u v D n).Defects.length ≤ D.length := by
 unfold mkB
 split
 ·exact Nat.le_refl _
 ·exact Nat.zero_le _
theorem boardTexts_true (b : TBoard) (s : ByteArray) : l30_BoardTexts_g b s = some true := by
 unfold l30_BoardTexts_g
 rw [aw30]
 cases l30_few_g b with
 | false => rfl
 | true =>
 by_cases h : 20000 < s.size
 ·rw [decide_eq_true (by omega)]
  rfl
 rw [decide_eq_false (by omega), bencode_eq, rencode_eq, bdecode_eq (by omega), rdecode_eq (by omega)]
 have hd : (dec30 s).1.Defects.length ≤ 9223372036854775807 := by
  unfold dec30
  split
  ·have h1 := mkB_defects (mkS (T1 (bl s)).1) (mkS (T2 (bl s)).1) (mkS (T3 (bl s)).1) (unD (T5 (bl s)).1) (T4 (bl s)).1
   have h2 := unD_le (T5 (bl s)).1
   have h3 := T5_most (bl s)
   dsimp only
   omega
  ·show 0 ≤ _
   omega
 simp only [Bool.not_true, cond_false, bind_some', bEq_self, beq_self_eq_true, cond_true]
 rw [r30_same_eq hd, bind_some', decide_eq_true rfl, cond_true]
end Go.Proofs.YtpoehckffpbfiaaGreat
