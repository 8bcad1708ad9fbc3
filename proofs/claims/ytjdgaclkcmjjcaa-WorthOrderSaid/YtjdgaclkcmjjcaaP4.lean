/- P4: what functions of the program compute (written by mod.py). -/
import Derived.Test.YtjdgaclkcmjjcaaP3
import Derived.KernelRfl
namespace Go.Proofs.Ytjdgaclkcmjjcaa
open Go Go.Ab
set_option linter.unusedSimpArgs false
set_option linter.unusedVariables false
set_option maxRecDepth 20000

/-! the area of a section within a rectangle -/
def cm (a b : Sp) : Int := max 0 (min a.b b.b - max a.a b.a)
theorem cm_nonneg (a b : Sp) : 0 ≤ cm a b := by unfold cm; omega
theorem cm_le_left {a b : Sp} (h : a.a ≤ a.b) : cm a b ≤ a.b - a.a := by unfold cm; omega
theorem cm_le_right {a b : Sp} (h : b.a ≤ b.b) : cm a b ≤ b.b - b.a := by unfold cm; omega
theorem cm_le {a b : Sp} {m : Int} (h0 : 0 ≤ m) (h : a.b - a.a ≤ m) : cm a b ≤ m := by unfold cm; omega
theorem r10_common_eq {a b : Sp} (h : -1000000 ≤ a.a ∧ a.a ≤ 1000000 ∧ -1000000 ≤ a.b ∧ a.b ≤ 1000000) : r10_common_g a b = cm a b := by
  unfold r10_common_g r10_empty_g cm
  by_cases h1 : b.b ≤ b.a
  · rw [decide_eq_true h1, cond_true]
    omega
  · rw [decide_eq_false h1, cond_false]
    by_cases h2 : min a.b b.b ≤ max a.a b.a
    · rw [decide_eq_true h2, cond_true]
      omega
    · rw [decide_eq_false h2, cond_false, W64_eq (by omega) (by omega)]
      omega
theorem WU64_def (n : Int) : WU64 n = n % 18446744073709551616 := by
  unfold WU64
  rw [wu64]
theorem span_len_meet {a b : Sp} (h : -1000000 ≤ a.a ∧ a.a ≤ 1000000 ∧ -1000000 ≤ a.b ∧ a.b ≤ 1000000) : span_Len_g (span_Meet_g a b) = cm a b := by
  unfold span_Meet_g cm
  by_cases h2 : min a.b b.b ≤ max a.a b.a
  · rw [decide_eq_true h2, cond_true, show span_Len_g (⟨0, 0⟩ : Sp) = 0 from rfl]
    omega
  · rw [decide_eq_false h2, cond_false]
    unfold span_Len_g span_limited_g span_size_g
    dsimp only
    rw [decide_eq_false (by omega), cond_false, WU64_def, WU64_def, WU64_def, W64_eq (by omega) (by omega)]
    omega
def hts (n : Int) : Sp := ⟨10 * n, 10 * (n + 1)⟩
/-- The area of rows, the lowest one given, within X and Y. -/
def wsum (X Y : Sp) : List Sp → Int → Int
  | [], _ => 0
  | e :: es, low => cm e X * cm (hts low) Y + wsum X Y es (low + 1)
theorem wsum_snoc (X Y : Sp) : ∀ (es : List Sp) (e : Sp) (low : Int), wsum X Y (es ++ [e]) low = wsum X Y es low + cm e X * cm (hts (low + es.length)) Y
  | [], e, low => by simp [wsum]
  | f :: es, e, low => by
    show cm f X * cm (hts low) Y + wsum X Y (es ++ [e]) (low + 1) = cm f X * cm (hts low) Y + wsum X Y es (low + 1) + _
    rw [wsum_snoc X Y es e (low + 1), List.length_cons, show low + 1 + ((es.length : Nat) : Int) = low + ((es.length + 1 : Nat) : Int) by omega]
    omega
theorem wsum_nonneg (X Y : Sp) : ∀ (es : List Sp) (low : Int), 0 ≤ wsum X Y es low
  | [], low => by simp [wsum]
  | f :: es, low => by
    have h1 := Int.mul_nonneg (cm_nonneg f X) (cm_nonneg (hts low) Y)
    have h2 := wsum_nonneg X Y es (low + 1)
    show 0 ≤ cm f X * cm (hts low) Y + wsum X Y es (low + 1)
    omega
theorem wsum_big (X Y : Sp) : ∀ (es : List Sp) (low : Int), (∀ e ∈ es, -600 ≤ e.a ∧ e.a ≤ 600 ∧ -600 ≤ e.b ∧ e.b ≤ 600) → wsum X Y es low ≤ 12000 * es.length
  | [], low, _ => by simp [wsum]
  | f :: es, low, h => by
    have hf := h f (List.mem_cons_self ..)
    have h1 : cm f X ≤ 1200 := cm_le (by omega) (by omega)
    have h3 : cm (hts low) Y ≤ 10 := cm_le (by omega) (by show 10 * (low + 1) - 10 * low ≤ 10; omega)
    have h4 := Int.mul_le_mul h1 h3 (cm_nonneg _ _) (by omega)
    have h2 := wsum_big X Y es (low + 1) fun e he => h e (List.mem_cons_of_mem _ he)
    show cm f X * cm (hts low) Y + wsum X Y es (low + 1) ≤ _
    rw [List.length_cons]
    omega
theorem wsum_area {X Y : Sp} (hX : X.a ≤ X.b) : ∀ (es : List Sp) (low : Int), wsum X Y es low ≤ (X.b - X.a) * cm ⟨10 * low, 10 * (low + es.length)⟩ Y
  | [], low => Int.mul_nonneg (by omega) (cm_nonneg _ _)
  | f :: es, low => by
    have h2 := wsum_area hX es (low + 1) (Y := Y)
    have h1 : cm f X * cm (hts low) Y ≤ (X.b - X.a) * cm (hts low) Y := Int.mul_le_mul_of_nonneg_right (cm_le_right hX) (cm_nonneg _ _)
    have h3 : cm ⟨10 * low, 10 * (low + ((es.length + 1 : Nat) : Int))⟩ Y = cm (hts low) Y + cm ⟨10 * (low + 1), 10 * (low + 1 + es.length)⟩ Y := by
      unfold cm hts
      dsimp only
      omega
    show cm f X * cm (hts low) Y + wsum X Y es (low + 1) ≤ _
    rw [List.length_cons, h3, Int.mul_add]
    omega
theorem r10_within_eq {s : TSection} (h : SecOk s) (hc : r10_Check_g s = some 0) (vr : TRect) : r10_Within_g s vr = some (wsum vr.X vr.Y s.Rows s.Low) := by
  have hl := h.len
  have hw := h.low
  unfold r10_Within_g r10_Valid_g
  rw [hc, bind_some', show ((0 : Int) != 0) = false from rfl, cond_false, bind_some']
  have := loopO_upto (step := fun q : Int × Int => r10_Within_s1 vr s q.1 q.2) (fun j => (wsum vr.X vr.Y (s.Rows.take j) s.Low, (j : Int))) s.Rows.length (y := wsum vr.X vr.Y s.Rows s.Low) (fun j hj => ?_) (by
    unfold r10_Within_s1
    dsimp only
    rw [nlt_nat, List.take_length]
    rfl)
  · rw [show (wsum vr.X vr.Y (s.Rows.take 0) s.Low, ((0 : Nat) : Int)) = ((0 : Int), (0 : Int)) from rfl] at this
    rw [this]
    rfl
  · have hr := h.rng _ (List.getElem_mem hj)
    have hp := wsum_big vr.X vr.Y (s.Rows.take j) s.Low fun e he => h.rng e (List.mem_of_mem_take he)
    have hq := wsum_nonneg vr.X vr.Y (s.Rows.take j) s.Low
    rw [List.length_take] at hp
    unfold r10_Within_s1
    dsimp only
    rw [lt_nat hj, cond_true, getI_at hj, bind_some', letB_eq, W64_eq (n := s.Low + _) (by omega) (by omega)]
    have eh : r10_Heights_g (s.Low + j) = hts (s.Low + j) := by
      unfold r10_Heights_g hts
      rw [W64_eq (n := s.Low + j + 1) (by omega) (by omega), W64_eq (by omega) (by omega), W64_eq (by omega) (by omega)]
    rw [eh, r10_common_eq (by omega), r10_common_eq (by unfold hts; dsimp only; omega)]
    have h1 : cm s.Rows[j] vr.X ≤ 1200 := cm_le (by omega) (by omega)
    have h3 : cm (hts (s.Low + j)) vr.Y ≤ 10 := cm_le (by omega) (by unfold hts; dsimp only; omega)
    have h4 := Int.mul_le_mul h1 h3 (cm_nonneg _ _) (by omega)
    have h5 := Int.mul_nonneg (cm_nonneg s.Rows[j] vr.X) (cm_nonneg (hts (s.Low + j)) vr.Y)
    rw [W64_eq (n := cm _ _ * _) (by omega) (by omega), W64_eq (n := wsum _ _ _ _ + _) (by omega) (by omega), W64_succ (by omega), List.take_succ_eq_append_getElem hj, wsum_snoc, List.length_take, show min j s.Rows.length = j by omega]
theorem within_eq {s : TSection} (h : SecOk s) (hc : r10_Check_g s = some 0) (vr : TRect) : section_Within_g s vr = some (wsum vr.X vr.Y s.Rows s.Low) := by
  have hl := h.len
  have hw := h.low
  unfold section_Within_g section_valid_g
  rw [section_check_eq, hc, bind_some', show ((0 : Int) != 0) = false from rfl, cond_false, bind_some']
  have := loopO_upto (step := fun q : Int × Int => section_Within_s1 vr s q.1 q.2) (fun j => (wsum vr.X vr.Y (s.Rows.take j) s.Low, (j : Int))) s.Rows.length (y := wsum vr.X vr.Y s.Rows s.Low) (fun j hj => ?_) (by
    unfold section_Within_s1
    dsimp only
    rw [nlt_nat, List.take_length]
    rfl)
  · rw [show (wsum vr.X vr.Y (s.Rows.take 0) s.Low, ((0 : Nat) : Int)) = ((0 : Int), (0 : Int)) from rfl] at this
    rw [this]
    rfl
  · have hr := h.rng _ (List.getElem_mem hj)
    have hp := wsum_big vr.X vr.Y (s.Rows.take j) s.Low fun e he => h.rng e (List.mem_of_mem_take he)
    have hq := wsum_nonneg vr.X vr.Y (s.Rows.take j) s.Low
    rw [List.length_take] at hp
    unfold section_Within_s1
    dsimp only
    rw [lt_nat hj, cond_true, getI_at hj, bind_some', letB_eq, letB_eq, letB_eq, W64_eq (n := s.Low + _) (by omega) (by omega)]
    have eh : section_heights_g (s.Low + j) (W64 (s.Low + j + 1)) = hts (s.Low + j) := by
      unfold section_heights_g hts
      rw [W64_eq (n := s.Low + j + 1) (by omega) (by omega), W64_eq (by omega) (by omega), W64_eq (by omega) (by omega)]
    rw [eh, span_len_meet (by omega), span_len_meet (by unfold hts; dsimp only; omega)]
    have h1 : cm s.Rows[j] vr.X ≤ 1200 := cm_le (by omega) (by omega)
    have h3 : cm (hts (s.Low + j)) vr.Y ≤ 10 := cm_le (by omega) (by unfold hts; dsimp only; omega)
    have h4 := Int.mul_le_mul h1 h3 (cm_nonneg _ _) (by omega)
    have h5 := Int.mul_nonneg (cm_nonneg s.Rows[j] vr.X) (cm_nonneg (hts (s.Low + j)) vr.Y)
    rw [W64_eq (n := cm _ _ * _) (by omega) (by omega), W64_eq (n := wsum _ _ _ _ + _) (by omega) (by omega), W64_succ (by omega), List.take_succ_eq_append_getElem hj, wsum_snoc, List.length_take, show min j s.Rows.length = j by omega]

end Go.Proofs.Ytjdgaclkcmjjcaa
