/- P5: what functions of the program compute (written by mod.py). -/
import Derived.Test.YtlkmdaojdongjaaP4
import Derived.KernelRfl
namespace Go.Proofs.Ytlkmdaojdongjaa
open Go Go.Ab
set_option linter.unusedSimpArgs false
set_option linter.unusedVariables false
set_option maxRecDepth 20000

/-! reading texts and lists -/
theorem sgn_pos {l : List Nat} {low high : Int} (h : (sgn l low high).2.2 = 0) : 1 ≤ (sgn l low high).2.1 ∧ (sgn l low high).2.1 ≤ l.length := by
  unfold sgn at h ⊢
  by_cases h1 : (num l 0).2.2 ≠ 0
  · rw [if_pos h1] at h
    exact absurd h h1
  · rw [if_neg h1] at h ⊢
    split at h
    · simp at h
    · rename_i h2
      rw [if_neg h2]
      exact num_pos (by omega)
theorem cnt_pos {l : List Nat} {most : Int} (h : (cnt l most).2.2 = 0) : 1 ≤ (cnt l most).2.1 ∧ (cnt l most).2.1 ≤ l.length ∧ 0 ≤ most ∧ ((cnt l most).1 : Int) ≤ most := by
  unfold cnt at h ⊢
  by_cases h1 : (num l 0).2.2 ≠ 0
  · rw [if_pos h1] at h
    exact absurd h h1
  · rw [if_neg h1] at h ⊢
    split at h
    · simp at h
    · rename_i h2
      rw [if_neg h2]
      have := num_pos (l := l) (i := 0) (by omega)
      dsimp only
      omega
theorem its_pos : ∀ {m : Nat} {l : List Nat} {low high : Int}, (its m l low high).2.2 = 0 → (its m l low high).1.length = m ∧ m ≤ (its m l low high).2.1 ∧ (its m l low high).2.1 ≤ l.length
  | 0, l, low, high, _ => by simp [its]
  | m + 1, l, low, high, h => by
    have ih := @its_pos m (l.drop (sgn l low high).2.1) low high
    have hp := @sgn_pos l low high
    rw [its] at h ⊢
    by_cases h1 : (sgn l low high).2.2 ≠ 0
    · rw [if_pos h1] at h
      exact absurd h h1
    · rw [if_neg h1] at h ⊢
      by_cases h2 : (its m (l.drop (sgn l low high).2.1) low high).2.2 ≠ 0
      · rw [if_pos h2] at h
        exact absurd h h2
      · rw [if_neg h2] at h ⊢
        have h3 := ih (by omega)
        have h4 := hp (by omega)
        rw [List.length_drop] at h3
        dsimp only
        rw [List.length_cons]
        omega
theorem drop_len {s : ByteArray} {a : Nat} : ((bl s).drop a).length = s.size - a := by rw [List.length_drop, bl_length]
theorem eq0_t : ((0 : Int) == 0) = true := rfl
theorem eq0_f {e : Nat} (h : e ≠ 0) : ((e : Int) == 0) = false := by simp; omega
theorem mkS_extract {s : ByteArray} {a n : Nat} : s.extract a (a + n) = mkS (((bl s).drop a).take n) := by
  rw [← mkS_bl (s.extract a (a + n)), bl_extract, Nat.add_sub_cancel_left]
section
variable {s : ByteArray} (hs : s.size ≤ 1000000000000) {a : Nat} (ha : a ≤ s.size)
include hs ha
theorem wire_rText {most : Int} (hm : I64 most) : wire_Reader__Text_g (wR s a 0) most = some (mkS (txt ((bl s).drop a) most).1, wR s (nat_ a (txt ((bl s).drop a) most).2.1 (txt ((bl s).drop a) most).2.2) (txt ((bl s).drop a) most).2.2) := by
  unfold wire_Reader__Text_g
  rw [show wire_Reader__stopped_g (wR s a 0) = false from rfl, cond_false, show (wR s a 0).at_ = (a : Int) from rfl, wire_counted hs ha _ _ hm, bind_some', letB_eq]
  have hp := @cnt_pos ((bl s).drop a) most
  rw [drop_len] at hp
  unfold I64 at hm
  unfold txt
  rw [drop_len]
  rw [show (wR s a 0).s = s from rfl]
  by_cases h : (cnt ((bl s).drop a) most).2.2 = 0
  · obtain ⟨p1, p2, p3, p4⟩ := hp h
    have en : nout' a (fun v => ((v : Nat) : Int)) (cnt ((bl s).drop a) most) = ((((cnt ((bl s).drop a) most).1 : Nat) : Int), ((a + (cnt ((bl s).drop a) most).2.1 : Nat) : Int), 0) := by rw [nout', if_pos h]
    rw [if_neg (by omega), en]
    dsimp only
    rw [eq0_t, cond_true]
    rw [W64_eq (n := ((s.size : Nat) : Int) - _) (by omega) (by omega), WU64_eq (by omega)]
    by_cases h2 : s.size - a - (cnt ((bl s).drop a) most).2.1 < (cnt ((bl s).drop a) most).1
    · rw [decide_eq_true (by omega), cond_true, if_pos h2]
      rfl
    · rw [decide_eq_false (by omega), cond_false, if_neg h2, ne0_f, cond_false, letB_eq, W64_eq (n := (((cnt ((bl s).drop a) most).1 : Nat) : Int)) (by omega) (by omega), W64_eq (by omega) (by omega)]
      show Option.bind (ssubO s _ _) _ = _
      rw [ssubO_eq (by omega) (by omega) (by omega), bind_some']
      refine congrArg some (Prod.ext ?_ ?_)
      · show s.extract _ _ = mkS (((List.drop _ (List.drop _ _))).take _)
        rw [List.drop_drop, ← mkS_extract]
        congr 1
      · show (⟨s, _, 0⟩ : Twire_Reader) = wR s _ 0
        unfold wR nat_
        rw [if_pos rfl]
        congr 1
        show ((a + (cnt ((bl s).drop a) most).2.1 : Nat) : Int) + (((cnt ((bl s).drop a) most).1 : Nat) : Int) = ((a + ((cnt ((bl s).drop a) most).2.1 + (cnt ((bl s).drop a) most).1) : Nat) : Int)
        omega
  · have en : nout' a (fun v => ((v : Nat) : Int)) (cnt ((bl s).drop a) most) = (0, 0, (((cnt ((bl s).drop a) most).2.2 : Nat) : Int)) := by rw [nout', if_neg h]
    rw [if_pos h, en]
    dsimp only
    rw [eq0_f h, cond_false, ne0_t h, cond_true, letB_eq]
    unfold wire_Reader__done_g nat_
    rw [ne0_t h, cond_true, if_neg h]
    rfl
theorem r05_rText {most : Int} (hm : I64 most) : r05_ReadText_g (qR s a 0) most = some (qR s (nat_ a (txt ((bl s).drop a) most).2.1 (txt ((bl s).drop a) most).2.2) (txt ((bl s).drop a) most).2.2, mkS (txt ((bl s).drop a) most).1) := by
  unfold r05_ReadText_g
  rw [show ((qR s a 0).E != 0) = false from rfl, cond_false, show (qR s a 0).S_ = s from rfl, show (qR s a 0).At = (a : Int) from rfl, r05_num (by omega) ha, bind_some']
  have hp := @num_pos ((bl s).drop a) 0
  rw [drop_len] at hp
  unfold I64 at hm
  unfold txt
  rw [drop_len]
  by_cases h : (num ((bl s).drop a) 0).2.2 = 0
  · obtain ⟨p1, p2⟩ := hp h
    have en : rout a (num ((bl s).drop a) 0) = ((((num ((bl s).drop a) 0).1 : Nat) : Int), ((a + (num ((bl s).drop a) 0).2.1 : Nat) : Int), 0) := by rw [rout, if_pos h]
    rw [en]
    dsimp only
    rw [ne0_f, cond_false]
    by_cases h1 : most < 0 ∨ most < (((num ((bl s).drop a) 0).1 : Nat) : Int)
    · have ec : cnt ((bl s).drop a) most = (0, 0, 4) := by rw [cnt, if_neg (by omega), if_pos h1]
      rw [ec, if_pos (by simp)]
      by_cases h2 : most < 0
      · rw [decide_eq_true h2, cond_true]
        rfl
      · rw [decide_eq_false h2, cond_false, WU64_eq (n := most) (by omega), decide_eq_true (by omega), cond_true]
        rfl
    · have ec : cnt ((bl s).drop a) most = ((num ((bl s).drop a) 0).1, (num ((bl s).drop a) 0).2.1, 0) := by rw [cnt, if_neg (by omega), if_neg h1]
      rw [ec, if_neg (by simp), decide_eq_false (p := most < 0) (by omega), cond_false, WU64_eq (n := most) (by omega), decide_eq_false (p := most < _) (by omega), cond_false]
      dsimp only
      rw [W64_eq (n := ((s.size : Nat) : Int) - _) (by omega) (by omega), WU64_eq (by omega)]
      by_cases h2 : s.size - a - (num ((bl s).drop a) 0).2.1 < (num ((bl s).drop a) 0).1
      · rw [decide_eq_true (by omega), cond_true, if_pos h2]
        rfl
      · rw [decide_eq_false (by omega), cond_false, if_neg h2, W64_eq (n := (((num ((bl s).drop a) 0).1 : Nat) : Int)) (by omega) (by omega), W64_eq (by omega) (by omega)]
        rw [ssubO_eq (by omega) (by omega) (by omega), bind_some']
        refine congrArg some (Prod.ext ?_ ?_)
        · show (⟨s, _, 0⟩ : Tsawmillref05_Reader) = qR s _ 0
          unfold qR nat_
          rw [if_pos rfl]
          congr 1
          show ((a + (num ((bl s).drop a) 0).2.1 : Nat) : Int) + (((num ((bl s).drop a) 0).1 : Nat) : Int) = ((a + ((num ((bl s).drop a) 0).2.1 + (num ((bl s).drop a) 0).1) : Nat) : Int)
          omega
        · show s.extract _ _ = mkS (((List.drop _ (List.drop _ _))).take _)
          rw [List.drop_drop, ← mkS_extract]
          congr 1
  · have en : rout a (num ((bl s).drop a) 0) = (0, (a : Int), (((num ((bl s).drop a) 0).2.2 : Nat) : Int)) := by rw [rout, if_neg h]
    rw [en, cnt_e h, if_pos h]
    dsimp only
    rw [ne0_t h, cond_true]
    unfold nat_
    rw [if_neg h]
    rfl
end
theorem nout'_ok {α : Type} {a : Nat} {f : α → Int} {q : α × Nat × Nat} (h : q.2.2 = 0) : nout' a f q = (f q.1, ((a + q.2.1 : Nat) : Int), 0) := by rw [nout', if_pos h]
theorem nout'_err {α : Type} {a : Nat} {f : α → Int} {q : α × Nat × Nat} (h : q.2.2 ≠ 0) : nout' a f q = (0, 0, (q.2.2 : Int)) := by rw [nout', if_neg h]
theorem rout'_ok {α : Type} {a : Nat} {f : α → Int} {q : α × Nat × Nat} (h : q.2.2 = 0) : rout' a f q = (f q.1, ((a + q.2.1 : Nat) : Int), 0) := by rw [rout', if_pos h]
theorem rout'_err {α : Type} {a : Nat} {f : α → Int} {q : α × Nat × Nat} (h : q.2.2 ≠ 0) : rout' a f q = (0, (a : Int), (q.2.2 : Int)) := by rw [rout', if_neg h]
theorem wire_ints_loop {s : ByteArray} (hs : s.size ≤ 1000000000000) (b e : Nat) (low high : Int) (cv : Int × Int × Int) (hcv : cv.1 < 18446744073709551616) : ∀ (m i a : Nat) (l1 : List Int), cv.1 = ((i + m : Nat) : Int) → a ≤ s.size → l1.length ≤ a →
    ∃ x, loopO (fun q : Int × Int × List Int × Int => wire_Reader__Ints_s1 (wR s b e) low high cv q.1 q.2.1 q.2.2.1 q.2.2.2) ((a : Int), 0, l1, (i : Int)) = some x ∧
      ((its m ((bl s).drop a) low high).2.2 = 0 → x = (((a + (its m ((bl s).drop a) low high).2.1 : Nat) : Int), 0, l1 ++ (its m ((bl s).drop a) low high).1)) ∧ ((its m ((bl s).drop a) low high).2.2 ≠ 0 → x.2.1 = ((its m ((bl s).drop a) low high).2.2 : Int))
  | 0, i, a, l1, hc, ha, hl => by
    refine ⟨((a : Int), 0, l1), loopO_done ?_, fun _ => ?_, fun h => absurd rfl h⟩
    · unfold wire_Reader__Ints_s1
      dsimp only
      rw [decide_eq_false (by omega)]
      rfl
    · simp [its]
  | m + 1, i, a, l1, hc, ha, hl => by
    by_cases h : (sgn ((bl s).drop a) low high).2.2 = 0
    · have hp := sgn_pos h
      rw [drop_len] at hp
      have hstep : wire_Reader__Ints_s1 (wR s b e) low high cv (a : Int) 0 l1 (i : Int) = some (.inl (((a + (sgn ((bl s).drop a) low high).2.1 : Nat) : Int), 0, l1 ++ [(sgn ((bl s).drop a) low high).1], ((i + 1 : Nat) : Int))) := by
        unfold wire_Reader__Ints_s1
        rw [decide_eq_true (by omega), cond_true, eq0_t, cond_true, wire_signed hs ha, bind_some', nout'_ok h, appO_eq (by simp; omega) (by simp; omega), bind_some', WU64_eq (by omega)]
        rfl
      obtain ⟨x, h1, h2, h3⟩ := wire_ints_loop hs b e low high cv hcv m (i + 1) (a + (sgn ((bl s).drop a) low high).2.1) (l1 ++ [(sgn ((bl s).drop a) low high).1]) (by omega) (by omega) (by simp; omega)
      refine ⟨x, (loopO_next (x' := (((a + (sgn ((bl s).drop a) low high).2.1 : Nat) : Int), 0, l1 ++ [(sgn ((bl s).drop a) low high).1], ((i + 1 : Nat) : Int))) hstep).trans h1, ?_, ?_⟩
      · intro h4
        rw [its, if_neg (by omega)] at h4 ⊢
        rw [List.drop_drop] at h4 ⊢
        by_cases h5 : (its m ((bl s).drop (a + (sgn ((bl s).drop a) low high).2.1)) low high).2.2 ≠ 0
        · rw [if_pos h5] at h4
          exact absurd h4 h5
        · rw [if_neg h5, h2 (by omega)]
          simp only [List.append_assoc, List.singleton_append, Nat.add_assoc]
      · intro h4
        rw [its, if_neg (by omega)] at h4 ⊢
        rw [List.drop_drop] at h4 ⊢
        by_cases h5 : (its m ((bl s).drop (a + (sgn ((bl s).drop a) low high).2.1)) low high).2.2 ≠ 0
        · rw [if_pos h5]
          exact h3 h5
        · rw [if_neg h5] at h4
          exact absurd rfl h4
    · have hstep : wire_Reader__Ints_s1 (wR s b e) low high cv (a : Int) 0 l1 (i : Int) = some (.inl (0, (((sgn ((bl s).drop a) low high).2.2 : Nat) : Int), l1 ++ [0], ((i + 1 : Nat) : Int))) := by
        unfold wire_Reader__Ints_s1
        rw [decide_eq_true (by omega), cond_true, eq0_t, cond_true, wire_signed hs ha, bind_some', nout'_err h, appO_eq (by simp; omega) (by simp; omega), bind_some', WU64_eq (by omega)]
        rfl
      have he : (its (m + 1) ((bl s).drop a) low high).2.2 = (sgn ((bl s).drop a) low high).2.2 := by rw [its, if_pos h]
      refine ⟨_, (loopO_next (x' := (0, (((sgn ((bl s).drop a) low high).2.2 : Nat) : Int), l1 ++ [0], ((i + 1 : Nat) : Int))) hstep).trans (loopO_done (y := (0, (((sgn ((bl s).drop a) low high).2.2 : Nat) : Int), l1 ++ [0])) ?_), ?_, ?_⟩
      · unfold wire_Reader__Ints_s1
        dsimp only
        rw [eq0_f h, cond_false]
        by_cases h6 : ((i + 1 : Nat) : Int) < cv.1
        · rw [decide_eq_true h6]
          rfl
        · rw [decide_eq_false h6]
          rfl
      · rw [he]
        intro h4
        exact absurd h4 h
      · rw [he]
        intro _
        rfl
theorem r05_ints_loop {s : ByteArray} (hs : s.size ≤ 1000000000000) (b e : Nat) (low high : Int) (nv : Int × Int × Int) (hnv : nv.1 < 18446744073709551616) : ∀ (m a : Nat) (l1 : List Int), nv.1 = ((l1.length + m : Nat) : Int) → a ≤ s.size → l1.length ≤ a →
    ∃ x, loopO (fun q : Int × List Int => r05_ReadInts_s1 (qR s b e) low high nv q.1 q.2) ((a : Int), l1) = some x ∧
      ((its m ((bl s).drop a) low high).2.2 = 0 → x = .inr (((a + (its m ((bl s).drop a) low high).2.1 : Nat) : Int), l1 ++ (its m ((bl s).drop a) low high).1)) ∧ ((its m ((bl s).drop a) low high).2.2 ≠ 0 → x = .inl (qR s b (its m ((bl s).drop a) low high).2.2, []))
  | 0, a, l1, hc, ha, hl => by
    refine ⟨.inr ((a : Int), l1), loopO_done ?_, fun _ => ?_, fun h => absurd rfl h⟩
    · unfold r05_ReadInts_s1
      dsimp only
      rw [WU64_eq (by omega), decide_eq_false (by omega)]
      rfl
    · simp [its]
  | m + 1, a, l1, hc, ha, hl => by
    by_cases h : (sgn ((bl s).drop a) low high).2.2 = 0
    · have hp := sgn_pos h
      rw [drop_len] at hp
      have hstep : r05_ReadInts_s1 (qR s b e) low high nv (a : Int) l1 = some (.inl (((a + (sgn ((bl s).drop a) low high).2.1 : Nat) : Int), l1 ++ [(sgn ((bl s).drop a) low high).1])) := by
        unfold r05_ReadInts_s1
        rw [WU64_eq (by omega), decide_eq_true (by omega), cond_true, show (qR s b e).S_ = s from rfl, r05_sgn hs ha, bind_some', rout'_ok h]
        dsimp only
        rw [ne0_f, cond_false, appO_eq (by simp; omega) (by simp; omega), bind_some']
        rfl
      obtain ⟨x, h1, h2, h3⟩ := r05_ints_loop hs b e low high nv hnv m (a + (sgn ((bl s).drop a) low high).2.1) (l1 ++ [(sgn ((bl s).drop a) low high).1]) (by simp; omega) (by omega) (by simp; omega)
      refine ⟨x, (loopO_next (x' := (((a + (sgn ((bl s).drop a) low high).2.1 : Nat) : Int), l1 ++ [(sgn ((bl s).drop a) low high).1])) hstep).trans h1, ?_, ?_⟩
      · intro h4
        rw [its, if_neg (by omega)] at h4 ⊢
        rw [List.drop_drop] at h4 ⊢
        by_cases h5 : (its m ((bl s).drop (a + (sgn ((bl s).drop a) low high).2.1)) low high).2.2 ≠ 0
        · rw [if_pos h5] at h4
          exact absurd h4 h5
        · rw [if_neg h5, h2 (by omega)]
          simp only [List.append_assoc, List.singleton_append, Nat.add_assoc]
      · intro h4
        rw [its, if_neg (by omega)] at h4 ⊢
        rw [List.drop_drop] at h4 ⊢
        by_cases h5 : (its m ((bl s).drop (a + (sgn ((bl s).drop a) low high).2.1)) low high).2.2 ≠ 0
        · rw [if_pos h5]
          exact h3 h5
        · rw [if_neg h5] at h4
          exact absurd rfl h4
    · have he : (its (m + 1) ((bl s).drop a) low high).2.2 = (sgn ((bl s).drop a) low high).2.2 := by rw [its, if_pos h]
      refine ⟨.inl (qR s b (sgn ((bl s).drop a) low high).2.2, []), loopO_done ?_, ?_, ?_⟩
      · unfold r05_ReadInts_s1
        dsimp only
        rw [WU64_eq (by omega), decide_eq_true (by omega), cond_true, show (qR s b e).S_ = s from rfl, r05_sgn hs ha, bind_some', rout'_err h]
        dsimp only
        rw [ne0_t h]
        rfl
      · rw [he]
        intro h4
        exact absurd h4 h
      · rw [he]
        intro _
        rfl
section
variable {s : ByteArray} (hs : s.size ≤ 1000000000000) {a : Nat} (ha : a ≤ s.size)
include hs ha
theorem wire_rInts {most : Int} (low high : Int) (hm : I64 most) : wire_Reader__Ints_g (wR s a 0) most low high = some ((ints ((bl s).drop a) most low high).1, wR s (nat_ a (ints ((bl s).drop a) most low high).2.1 (ints ((bl s).drop a) most low high).2.2) (ints ((bl s).drop a) most low high).2.2) := by
  unfold wire_Reader__Ints_g
  rw [show wire_Reader__stopped_g (wR s a 0) = false from rfl, cond_false, show (wR s a 0).at_ = (a : Int) from rfl, wire_counted hs ha _ _ hm, bind_some']
  unfold I64 at hm
  unfold ints
  by_cases h : (cnt ((bl s).drop a) most).2.2 = 0
  · obtain ⟨p1, p2, p3, p4⟩ := cnt_pos h
    rw [drop_len] at p2
    rw [nout'_ok h, if_neg (by omega)]
    obtain ⟨x, h1, h2, h3⟩ := wire_ints_loop hs a 0 low high ((((cnt ((bl s).drop a) most).1 : Nat) : Int), ((a + (cnt ((bl s).drop a) most).2.1 : Nat) : Int), 0) (by dsimp only; omega) (cnt ((bl s).drop a) most).1 0 (a + (cnt ((bl s).drop a) most).2.1) [] (by simp) (by omega) (by simp)
    dsimp only
    have e0 : ((0 : Nat) : Int) = 0 := rfl
    rw [e0] at h1
    rw [h1, bind_some', letB_eq]
    rw [List.drop_drop]
    by_cases h5 : (its (cnt ((bl s).drop a) most).1 ((bl s).drop (a + (cnt ((bl s).drop a) most).2.1)) low high).2.2 = 0
    · rw [if_neg (by omega), h2 h5]
      dsimp only
      rw [ne0_f, cond_false]
      refine congrArg some (Prod.ext (by simp) ?_)
      show (⟨s, _, 0⟩ : Twire_Reader) = wR s _ 0
      unfold wR nat_
      rw [if_pos rfl, Nat.add_assoc]
      rfl
    · rw [if_pos h5, h3 h5, ne0_t h5, cond_true]
      unfold wire_Reader__done_g nat_
      rw [ne0_t h5, cond_true, if_neg h5]
      rfl
  · rw [nout'_err h, if_pos h]
    rw [loopO_done (y := (0, (((cnt ((bl s).drop a) most).2.2 : Nat) : Int), [])) (by
      unfold wire_Reader__Ints_s1
      rfl), bind_some', letB_eq]
    dsimp only
    rw [ne0_t h, cond_true]
    unfold wire_Reader__done_g nat_
    rw [ne0_t h, cond_true, if_neg h]
    rfl
theorem r05_rInts {most : Int} (low high : Int) (hm : I64 most) : r05_ReadInts_g (qR s a 0) most low high = some (qR s (nat_ a (ints ((bl s).drop a) most low high).2.1 (ints ((bl s).drop a) most low high).2.2) (ints ((bl s).drop a) most low high).2.2, (ints ((bl s).drop a) most low high).1) := by
  unfold r05_ReadInts_g
  rw [show ((qR s a 0).E != 0) = false from rfl, cond_false, show (qR s a 0).S_ = s from rfl, show (qR s a 0).At = (a : Int) from rfl, r05_num (by omega) ha, bind_some']
  have hp := @num_pos ((bl s).drop a) 0
  rw [drop_len] at hp
  unfold I64 at hm
  unfold ints
  by_cases h : (num ((bl s).drop a) 0).2.2 = 0
  · obtain ⟨p1, p2⟩ := hp h
    have en : rout a (num ((bl s).drop a) 0) = ((((num ((bl s).drop a) 0).1 : Nat) : Int), ((a + (num ((bl s).drop a) 0).2.1 : Nat) : Int), 0) := by rw [rout, if_pos h]
    rw [en]
    dsimp only
    rw [ne0_f, cond_false]
    by_cases h1 : most < 0 ∨ most < (((num ((bl s).drop a) 0).1 : Nat) : Int)
    · have ec : cnt ((bl s).drop a) most = (0, 0, 4) := by rw [cnt, if_neg (by omega), if_pos h1]
      rw [ec, if_pos (by simp)]
      by_cases h2 : most < 0
      · rw [decide_eq_true h2, cond_true]
        rfl
      · rw [decide_eq_false h2, cond_false, WU64_eq (n := most) (by omega), decide_eq_true (by omega), cond_true]
        rfl
    · have ec : cnt ((bl s).drop a) most = ((num ((bl s).drop a) 0).1, (num ((bl s).drop a) 0).2.1, 0) := by rw [cnt, if_neg (by omega), if_neg h1]
      rw [ec, if_neg (by simp), decide_eq_false (p := most < 0) (by omega), cond_false, WU64_eq (n := most) (by omega), decide_eq_false (p := most < _) (by omega), cond_false]
      dsimp only
      obtain ⟨x, h1, h2, h3⟩ := r05_ints_loop hs a 0 low high ((((num ((bl s).drop a) 0).1 : Nat) : Int), ((a + (num ((bl s).drop a) 0).2.1 : Nat) : Int), 0) (by dsimp only; omega) (num ((bl s).drop a) 0).1 (a + (num ((bl s).drop a) 0).2.1) [] (by simp) (by omega) (by simp)
      rw [h1, bind_some', List.drop_drop]
      by_cases h5 : (its (num ((bl s).drop a) 0).1 ((bl s).drop (a + (num ((bl s).drop a) 0).2.1)) low high).2.2 = 0
      · rw [if_neg (by omega), h2 h5, Sum.elim_inr]
        refine congrArg some (Prod.ext ?_ (by simp))
        show (⟨s, _, 0⟩ : Tsawmillref05_Reader) = qR s _ 0
        unfold qR nat_
        rw [if_pos rfl, Nat.add_assoc]
        rfl
      · rw [if_pos h5, h3 h5, Sum.elim_inl]
        unfold nat_
        rw [if_neg h5]
  · have en : rout a (num ((bl s).drop a) 0) = (0, (a : Int), (((num ((bl s).drop a) 0).2.2 : Nat) : Int)) := by rw [rout, if_neg h]
    rw [en, cnt_e h, if_pos h]
    dsimp only
    rw [ne0_t h, cond_true]
    unfold nat_
    rw [if_neg h]
    rfl
end

end Go.Proofs.Ytlkmdaojdongjaa
