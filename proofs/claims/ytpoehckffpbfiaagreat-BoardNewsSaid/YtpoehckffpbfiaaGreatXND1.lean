/- D1: what functions of the program compute (written by mod.py). -/
import Derived.Test.YtpoehckffpbfiaaGreatXNC2
import Derived.KernelRfl
namespace Go.Proofs.YtpoehckffpbfiaaGreat
open Go Go.Ab
set_option linter.unusedSimpArgs false
set_option linter.unusedVariables false
set_option linter.unusedSectionVars false
set_option maxRecDepth 20000
set_option maxHeartbeats 1000000
structure SecOk (s : TSection) : Prop where
 len : s.Rows.length ≤ 120
 low : -60 ≤ s.Low ∧ s.Low + s.Rows.length ≤ 60
 rng : ∀ e ∈ s.Rows, -600 ≤ e.a ∧ e.a ≤ 600 ∧ -600 ≤ e.b ∧ e.b ≤ 600
theorem beyond_f {n : Int} (h : r10_beyond_g n = false) : -600 ≤ n ∧ n ≤ 600 := by
 unfold r10_beyond_g at h
 by_cases h1 : n < -600
 ·rw [decide_eq_true h1] at h
  exact absurd h (by simp)
 ·rw [decide_eq_false h1, cond_false, decide_eq_false_iff_not] at h
  omega
theorem section_total (s : TSection) (hl : I64 s.Low) : ∃ c, r10_Check_g s = some c ∧ (c = 0 → SecOk s) := by
 unfold I64 at hl
 unfold r10_Check_g
 by_cases h1 : 120 < s.Rows.length
 ·rw [decide_eq_true (by omega)]
  exact ⟨4, rfl, fun h => by omega⟩
 ·rw [decide_eq_false (by omega), cond_false]
  by_cases h2 : s.Low < -60
  ·rw [decide_eq_true h2]
   exact ⟨9, rfl, fun h => by omega⟩
  ·rw [decide_eq_false h2, cond_false, W64_eq (by omega) (by omega)]
   by_cases h3 : 60 - ((s.Rows.length : Nat) : Int) < s.Low
   ·rw [decide_eq_true h3]
    exact ⟨9, rfl, fun h => by omega⟩
   ·rw [decide_eq_false h3, cond_false]
    have hloop := loopO_allN (step := fun q : Int => r10_Check_s1 s q) s.Rows.length (fun j => (j : Int)) (fun j => (s.Rows[j]?).elim true fun e => !(r10_beyond_g e.a || r10_beyond_g e.b)) (9 : Int) (fun j hj => by
     unfold r10_Check_s1
     rw [lt_nat hj, cond_true, getI_at hj, bind_some', bind_some', W64_succ (by omega), List.getElem?_eq_getElem hj]
     show _ = bif !(r10_beyond_g s.Rows[j].a || r10_beyond_g s.Rows[j].b) then _ else _
     cases r10_beyond_g s.Rows[j].a <;> cases r10_beyond_g s.Rows[j].b <;> rfl) (by
     unfold r10_Check_s1
     rw [nlt_nat]
     rfl)
    have e0 : ((0 : Nat) : Int) = 0 := rfl
    rw [e0] at hloop
    rw [hloop, bind_some']
    cases hall : (List.range s.Rows.length).all (fun j => (s.Rows[j]?).elim true fun e => !(r10_beyond_g e.a || r10_beyond_g e.b)) with
    | false => exact ⟨9, rfl, fun h => by omega⟩
    | true =>
     have hok : SecOk s := by
      refine ⟨by omega, by omega, fun e he => ?_⟩
      obtain ⟨j, hj, rfl⟩ := List.getElem_of_mem he
      rw [List.all_eq_true] at hall
      have := hall j (List.mem_range.2 hj)
      rw [List.getElem?_eq_getElem hj] at this
      have h4 : (!(r10_beyond_g s.Rows[j].a || r10_beyond_g s.Rows[j].b)) = true := this
      rw [Bool.not_eq_true', Bool.or_eq_false_iff] at h4
      have h5 := beyond_f h4.1
      have h6 := beyond_f h4.2
      omega
     rw [cond_true, Sum.elim_inr]
     by_cases h0 : s.Rows.length = 0
     ·rw [show ((((s.Rows.length : Nat) : Int)) == 0) = true by simp [h0], cond_true]
      cases (s.Low != 0) with
      | true => exact ⟨19, rfl, fun h => by omega⟩
      | false => exact ⟨0, rfl, fun _ => hok⟩
     ·rw [show ((((s.Rows.length : Nat) : Int)) == 0) = false by simp; intro h; simp [h] at h0, cond_false]
      have g0 := getI_at (l := s.Rows) (j := 0) (by omega)
      rw [e0] at g0
      have g1 := getI_at (l := s.Rows) (j := s.Rows.length - 1) (by omega)
      rw [show ((s.Rows.length - 1 : Nat) : Int) = ((s.Rows.length : Nat) : Int) - 1 by omega] at g1
      rw [g0, bind_some', W64_eq (by omega) (by omega), g1, bind_some']
      cases r10_empty_g s.Rows[0] with
      | true => exact ⟨19, rfl, fun h => by omega⟩
      | false =>
       rw [cond_false]
       cases r10_empty_g s.Rows[s.Rows.length - 1] with
       | true => exact ⟨19, rfl, fun h => by omega⟩
       | false =>
        rw [cond_false]
        have hloop2 := loopO_allN (step := fun q : Int => r10_Check_s2 s q) s.Rows.length (fun j => (j : Int)) (fun j => (s.Rows[j]?).elim true fun e => !(r10_empty_g e && !(eqV encSp e (⟨0, 0⟩ : Sp)))) (19 : Int) (fun j hj => by
         unfold r10_Check_s2
         rw [lt_nat hj, cond_true, getI_at hj, bind_some', bind_some', W64_succ (by omega), List.getElem?_eq_getElem hj]
         show _ = bif !(r10_empty_g s.Rows[j] && !(eqV encSp s.Rows[j] (⟨0, 0⟩ : Sp))) then _ else _
         cases r10_empty_g s.Rows[j] <;> cases eqV encSp s.Rows[j] (⟨0, 0⟩ : Sp) <;> rfl) (by
         unfold r10_Check_s2
         rw [nlt_nat]
         rfl)
        rw [e0] at hloop2
        rw [hloop2, bind_some']
        cases (List.range s.Rows.length).all (fun j => (s.Rows[j]?).elim true fun e => !(r10_empty_g e && !(eqV encSp e (⟨0, 0⟩ : Sp)))) with
        | false => exact ⟨19, rfl, fun h => by omega⟩
        | true => exact ⟨0, rfl, fun _ => hok⟩
def slen (l : List TSlice) : Int := (l.map fun e => e.Len).sum
theorem slen_take {l : List TSlice} {j : Nat} (hj : j < l.length) : slen (l.take (j + 1)) = slen (l.take j) + l[j].Len := by
 unfold slen
 rw [List.take_succ_eq_append_getElem hj, List.map_append, List.sum_append]
 simp
structure SolOk (l : List TSlice) : Prop where
 len : l.length ≤ 24
 sec : ∀ e ∈ l, SecOk e.Sec ∧ 1 ≤ e.Len ∧ r10_Check_g e.Sec = some 0
 tot : slen l ≤ 20000
theorem solid_total (l : List TSlice) (hl : ∀ e ∈ l, I64 e.Sec.Low ∧ I64 e.Len) : ∃ c, r11_Check_g l = some c ∧ (c = 0 → SolOk l) := by
 unfold r11_Check_g
 by_cases h0 : l.length = 0
 ·rw [show ((((l.length : Nat) : Int)) == 0) = true by simp [h0]]
  exact ⟨3, rfl, fun h => by omega⟩
 ·rw [show ((((l.length : Nat) : Int)) == 0) = false by simp; intro h; simp [h] at h0, cond_false]
  by_cases h1 : 24 < l.length
  ·rw [decide_eq_true (by omega)]
   exact ⟨4, rfl, fun h => by omega⟩
  ·rw [decide_eq_false (by omega), cond_false]
   obtain ⟨y, hy, hG⟩ := loopO_inv (step := fun q : Int × Int => r11_Check_s1 l q.1 q.2) (fun q => ∃ j : Nat, j ≤ l.length ∧ q = (slen (l.take j), (j : Int)) ∧ 0 ≤ slen (l.take j) ∧ slen (l.take j) ≤ 20000 ∧ ∀ e ∈ l.take j, SecOk e.Sec ∧ 1 ≤ e.Len ∧ r10_Check_g e.Sec = some 0) (fun q => l.length - q.2.toNat) (fun y => (∃ c, y = .inl c ∧ c ≠ 0) ∨ (y = .inr () ∧ SolOk l)) (by
    rintro q ⟨j, hj, rfl, hs0, hs, ha⟩
    unfold r11_Check_s1
    dsimp only
    rcases Nat.lt_or_ge j l.length with hlt | hge
    ·have hI := hl _ (List.getElem_mem hlt)
     have hI2 := hI.2
     unfold I64 at hI2
     obtain ⟨c, hc, hc0⟩ := section_total l[j].Sec hI.1
     rw [lt_nat hlt, cond_true, getI_at hlt]
     simp only [bind_some']
     rw [hc, bind_some']
     by_cases h2 : c = 0
     ·subst h2
      rw [show ((0 : Int) != 0) = false from rfl, cond_false]
      cases ((l[j].Sec.Rows.length : Int) == 0) with
      | true => exact .inr ⟨_, rfl, .inl ⟨_, rfl, by omega⟩⟩
      | false =>
       rw [cond_false]
       by_cases h3 : l[j].Len < 1
       ·rw [decide_eq_true h3]
        exact .inr ⟨_, rfl, .inl ⟨_, rfl, by omega⟩⟩
       ·rw [decide_eq_false h3, cond_false, W64_eq (n := 20000 - _) (by omega) (by omega)]
        by_cases h4 : 20000 - slen (l.take j) < l[j].Len
        ·rw [decide_eq_true h4]
         exact .inr ⟨_, rfl, .inl ⟨_, rfl, by omega⟩⟩
        ·rw [decide_eq_false h4, cond_false, W64_eq (n := slen _ + _) (by omega) (by omega), W64_succ (by omega)]
         refine .inl ⟨_, rfl, ⟨j + 1, by omega, by rw [slen_take hlt], by rw [slen_take hlt]; omega, by rw [slen_take hlt]; omega, ?_⟩, ?_⟩
         ·intro e he
          rw [List.take_succ_eq_append_getElem hlt] at he
          rcases List.mem_append.1 he with he | he
          ·exact ha e he
          ·rw [List.mem_singleton] at he
           subst he
           exact ⟨hc0 rfl, by omega, hc⟩
         ·show l.length - (((j + 1 : Nat) : Int)).toNat < l.length - ((j : Int)).toNat
          omega
     ·rw [show ((c : Int) != 0) = true by simp [h2], cond_true]
      exact .inr ⟨_, rfl, .inl ⟨_, rfl, h2⟩⟩
    ·have : j = l.length := by omega
     subst this
     rw [nlt_nat, cond_false]
     rw [List.take_length] at hs ha
     exact .inr ⟨_, rfl, .inr ⟨rfl, ⟨by omega, ha, hs⟩⟩⟩) (0, 0) ⟨0, by omega, rfl, by simp [slen], by simp [slen], by simp⟩
   rw [hy, bind_some']
   rcases hG with ⟨c, rfl, hc⟩ | ⟨rfl, hok⟩
   ·exact ⟨c, rfl, fun h => absurd h hc⟩
   ·exact ⟨0, rfl, fun _ => hok⟩
def cm (a b : Sp) : Int := max 0 (min a.b b.b - max a.a b.a)
theorem cm_nonneg (a b : Sp) : 0 ≤ cm a b := by unfold cm; omega
theorem cm_le_right {a b : Sp} (h : b.a ≤ b.b) : cm a b ≤ b.b - b.a := by unfold cm; omega
theorem cm_le {a b : Sp} {m : Int} (h0 : 0 ≤ m) (h : a.b - a.a ≤ m) : cm a b ≤ m := by unfold cm; omega
theorem r10_common_eq {a b : Sp} (h : -1000000 ≤ a.a ∧ a.a ≤ 1000000 ∧ -1000000 ≤ a.b ∧ a.b ≤ 1000000) : r10_common_g a b = cm a b := by
 unfold r10_common_g r10_empty_g cm
 by_cases h1 : b.b ≤ b.a
 ·rw [decide_eq_true h1, cond_true]
  omega
 ·rw [decide_eq_false h1, cond_false]
  by_cases h2 : min a.b b.b ≤ max a.a b.a
  ·rw [decide_eq_true h2, cond_true]
   omega
  ·rw [decide_eq_false h2, cond_false, W64_eq (by omega) (by omega)]
   omega
theorem WU64_def (n : Int) : WU64 n = n % 18446744073709551616 := by
 unfold WU64
 rw [wu64]
theorem span_len_meet {a b : Sp} (h : -1000000 ≤ a.a ∧ a.a ≤ 1000000 ∧ -1000000 ≤ a.b ∧ a.b ≤ 1000000) : span_Len_g (span_Meet_g a b) = cm a b := by
 unfold span_Meet_g cm
 by_cases h2 : min a.b b.b ≤ max a.a b.a
 ·rw [decide_eq_true h2, cond_true, show span_Len_g (⟨0, 0⟩ : Sp) = 0 from rfl]
  omega
 ·rw [decide_eq_false h2, cond_false]
  unfold span_Len_g span_limited_g span_size_g
  dsimp only
  rw [decide_eq_false (by omega), cond_false, WU64_def, WU64_def, WU64_def, W64_eq (by omega) (by omega)]
  omega
def hts (n : Int) : Sp := ⟨10 * n, 10 * (n + 1)⟩
def wsum (X Y : Sp) : List Sp → Int → Int
 | [], _ => 0
 | e :: es, low => cm e X * cm (hts low) Y + wsum X Y es (low + 1)
theorem wsum_snoc (X Y : Sp) : ∀ (es : List Sp) (e : Sp) (low : Int), wsum X Y (es ++ [e]) low = wsum X Y es low + cm e X * cm (hts (low + es.length)) Y
 | [], e, low => by simp [wsum]
 | f :: es, e, low => by
  show cm f X * cm (hts low) Y + wsum X Y (es ++ [e]) (low + 1) = cm f X * cm (hts low) Y + wsum X Y es (low + 1) + _
  rw [wsum_snoc X Y es e (low + 1), List.length_cons, show low + 1 + ((es.length : Nat) : Int) = low + ((es.length + 1 : Nat) : Int) by omega]
  omega
theorem wsum_nonneg (X Y : Sp) : ∀ (es : List Sp) (low : Int), 0 ≤ wsum X Y es low
 | [], low => by simp [wsum]
 | f :: es, low => by
  have h1 := Int.mul_nonneg (cm_nonneg f X) (cm_nonneg (hts low) Y)
  have h2 := wsum_nonneg X Y es (low + 1)
  show 0 ≤ cm f X * cm (hts low) Y + wsum X Y es (low + 1)
  omega
theorem wsum_big (X Y : Sp) : ∀ (es : List Sp) (low : Int), (∀ e ∈ es, -600 ≤ e.a ∧ e.a ≤ 600 ∧ -600 ≤ e.b ∧ e.b ≤ 600) → wsum X Y es low ≤ 12000 * es.length
 | [], low, _ => by simp [wsum]
 | f :: es, low, h => by
  have hf := h f (List.mem_cons_self ..)
  have h1 : cm f X ≤ 1200 := cm_le (by omega) (by omega)
  have h3 : cm (hts low) Y ≤ 10 := cm_le (by omega) (by show 10 * (low + 1) - 10 * low ≤ 10; omega)
  have h4 := Int.mul_le_mul h1 h3 (cm_nonneg _ _) (by omega)
  have h2 := wsum_big X Y es (low + 1) fun e he => h e (List.mem_cons_of_mem _ he)
  show cm f X * cm (hts low) Y + wsum X Y es (low + 1) ≤ _
  rw [List.length_cons]
  omega
theorem wsum_area {X Y : Sp} (hX : X.a ≤ X.b) : ∀ (es : List Sp) (low : Int), wsum X Y es low ≤ (X.b - X.a) * cm ⟨10 * low, 10 * (low + es.length)⟩ Y
 | [], low => Int.mul_nonneg (by omega) (cm_nonneg _ _)
 | f :: es, low => by
  have h2 := wsum_area hX es (low + 1) (Y := Y)
  have h1 : cm f X * cm (hts low) Y ≤ (X.b - X.a) * cm (hts low) Y := Int.mul_le_mul_of_nonneg_right (cm_le_right hX) (cm_nonneg _ _)
  have h3 : cm ⟨10 * low, 10 * (low + ((es.length + 1 : Nat) : Int))⟩ Y = cm (hts low) Y + cm ⟨10 * (low + 1), 10 * (low + 1 + es.length)⟩ Y := by
   unfold cm hts
   dsimp only
   omega
  show cm f X * cm (hts low) Y + wsum X Y es (low + 1) ≤ _
  rw [List.length_cons, h3, Int.mul_add]
  omega
theorem r10_within_eq {s : TSection} (h : SecOk s) (hc : r10_Check_g s = some 0) (vr : TRect) : r10_Within_g s vr = some (wsum vr.X vr.Y s.Rows s.Low) := by
 have hl := h.len
 have hw := h.low
 unfold r10_Within_g r10_Valid_g
 rw [hc, bind_some', show ((0 : Int) != 0) = false from rfl, cond_false, bind_some']
 have := loopO_upto (step := fun q : Int × Int => r10_Within_s1 vr s q.1 q.2) (fun j => (wsum vr.X vr.Y (s.Rows.take j) s.Low, (j : Int))) s.Rows.length (y := wsum vr.X vr.Y s.Rows s.Low) (fun j hj => ?_) (by
  unfold r10_Within_s1
  dsimp only
  rw [nlt_nat, List.take_length]
  rfl)
 ·rw [show (wsum vr.X vr.Y (s.Rows.take 0) s.Low, ((0 : Nat) : Int)) = ((0 : Int), (0 : Int)) from rfl] at this
  rw [this]
  rfl
 ·have hr := h.rng _ (List.getElem_mem hj)
  have hp := wsum_big vr.X vr.Y (s.Rows.take j) s.Low fun e he => h.rng e (List.mem_of_mem_take he)
  have hq := wsum_nonneg vr.X vr.Y (s.Rows.take j) s.Low
  rw [List.length_take] at hp
  unfold r10_Within_s1
  dsimp only
  rw [lt_nat hj, cond_true, getI_at hj, bind_some', letB_eq, W64_eq (n := s.Low + _) (by omega) (by omega)]
  have eh : r10_Heights_g (s.Low + j) = hts (s.Low + j) := by
   unfold r10_Heights_g hts
   rw [W64_eq (n := s.Low + j + 1) (by omega) (by omega), W64_eq (by omega) (by omega), W64_eq (by omega) (by omega)]
  rw [eh, r10_common_eq (by omega), r10_common_eq (by unfold hts; dsimp only; omega)]
  have h1 : cm s.Rows[j] vr.X ≤ 1200 := cm_le (by omega) (by omega)
  have h3 : cm (hts (s.Low + j)) vr.Y ≤ 10 := cm_le (by omega) (by unfold hts; dsimp only; omega)
  have h4 := Int.mul_le_mul h1 h3 (cm_nonneg _ _) (by omega)
  have h5 := Int.mul_nonneg (cm_nonneg s.Rows[j] vr.X) (cm_nonneg (hts (s.Low + j)) vr.Y)
  rw [W64_eq (n := cm _ _ * _) (by omega) (by omega), W64_eq (n := wsum _ _ _ _ + _) (by omega) (by omega), W64_succ (by omega), List.take_succ_eq_append_getElem hj, wsum_snoc, List.length_take, show min j s.Rows.length = j by omega]
theorem within_eq {s : TSection} (h : SecOk s) (hc : r10_Check_g s = some 0) (vr : TRect) : section_Within_g s vr = some (wsum vr.X vr.Y s.Rows s.Low) := by
 have hl := h.len
 have hw := h.low
 unfold section_Within_g section_valid_g
 rw [section_check_eq, hc, bind_some', show ((0 : Int) != 0) = false from rfl, cond_false, bind_some']
 have := loopO_upto (step := fun q : Int × Int => section_Within_s1 vr s q.1 q.2) (fun j => (wsum vr.X vr.Y (s.Rows.take j) s.Low, (j : Int))) s.Rows.length (y := wsum vr.X vr.Y s.Rows s.Low) (fun j hj => ?_) (by
  unfold section_Within_s1
  dsimp only
  rw [nlt_nat, List.take_length]
  rfl)
 ·rw [show (wsum vr.X vr.Y (s.Rows.take 0) s.Low, ((0 : Nat) : Int)) = ((0 : Int), (0 : Int)) from rfl] at this
  rw [this]
  rfl
 ·have hr := h.rng _ (List.getElem_mem hj)
  have hp := wsum_big vr.X vr.Y (s.Rows.take j) s.Low fun e he => h.rng e (List.mem_of_mem_take he)
  have hq := wsum_nonneg vr.X vr.Y (s.Rows.take j) s.Low
  rw [List.length_take] at hp
  unfold section_Within_s1
  dsimp only
  rw [lt_nat hj, cond_true, getI_at hj, bind_some', letB_eq, letB_eq, letB_eq, W64_eq (n := s.Low + _) (by omega) (by omega)]
  have eh : section_heights_g (s.Low + j) (W64 (s.Low + j + 1)) = hts (s.Low + j) := by
   unfold section_heights_g hts
   rw [W64_eq (n := s.Low + j + 1) (by omega) (by omega), W64_eq (by omega) (by omega), W64_eq (by omega) (by omega)]
  rw [eh, span_len_meet (by omega), span_len_meet (by unfold hts; dsimp only; omega)]
  have h1 : cm s.Rows[j] vr.X ≤ 1200 := cm_le (by omega) (by omega)
  have h3 : cm (hts (s.Low + j)) vr.Y ≤ 10 := cm_le (by omega) (by unfold hts; dsimp only; omega)
  have h4 := Int.mul_le_mul h1 h3 (cm_nonneg _ _) (by omega)
  have h5 := Int.mul_nonneg (cm_nonneg s.Rows[j] vr.X) (cm_nonneg (hts (s.Low + j)) vr.Y)
  rw [W64_eq (n := cm _ _ * _) (by omega) (by omega), W64_eq (n := wsum _ _ _ _ + _) (by omega) (by omega), W64_succ (by omega), List.take_succ_eq_append_getElem hj, wsum_snoc, List.length_take, show min j s.Rows.length = j by omega]
theorem isRect_eq (vr : TRect) : worth_isRect_g vr = some (r20_across_g vr.X && r20_across_g vr.Y) := by
 unfold worth_isRect_g
 have hs : ∀ (e : Sp) (x : Option (Int ⊕ (Bool ⊕ Unit))), (bif (decide (e.a < (-600))) then some (Sum.inr (Sum.inl false)) else (bif (decide (600 < e.b)) then some (Sum.inr (Sum.inl false)) else (bif (decide (e.b ≤ e.a)) then some (Sum.inr (Sum.inl false)) else x))) = bif r20_across_g e then x else some (Sum.inr (Sum.inl false)) := by
  intro e x
  unfold r20_across_g
  rw [lt_not e.a (-600), lt_not 600 e.b, bnot_le e.b e.a]
  cases decide (-600 ≤ e.a) <;> cases decide (e.b ≤ 600) <;> cases decide (e.a < e.b) <;> rfl
 have h0 : worth_isRect_s1 vr 0 = bif r20_across_g vr.X then some (.inl 1) else some (.inr (.inl false)) := hs vr.X _
 have h1 : worth_isRect_s1 vr 1 = bif r20_across_g vr.Y then some (.inl 2) else some (.inr (.inl false)) := hs vr.Y _
 cases hX : r20_across_g vr.X with
 | false =>
  rw [hX] at h0
  rw [loopO_done h0]
  rfl
 | true =>
  rw [hX] at h0
  rw [loopO_next h0]
  cases hY : r20_across_g vr.Y with
  | false =>
   rw [hY] at h1
   rw [loopO_done h1]
   rfl
  | true =>
   rw [hY] at h1
   rw [loopO_next h1, loopO_done (y := .inr ()) rfl]
   rfl
theorem across_t {s : Sp} (h : r20_across_g s = true) : -600 ≤ s.a ∧ s.a < s.b ∧ s.b ≤ 600 := by
 unfold r20_across_g at h
 by_cases h1 : -600 ≤ s.a
 ·rw [decide_eq_true h1, cond_true] at h
  by_cases h2 : s.a < s.b
  ·rw [decide_eq_true h2, cond_true, decide_eq_true_eq] at h
   exact ⟨h1, h2, h⟩
  ·rw [decide_eq_false h2] at h
   exact absurd h (by simp)
 ·rw [decide_eq_false h1] at h
  exact absurd h (by simp)
theorem slen_loop {l : List TSlice} (h : SolOk l) : loopO (fun q : Int × Int => r11_Length_s1 l q.1 q.2) (0, 0) = some (slen l) := by
 have hl := h.len
 have hb : ∀ j, j ≤ l.length → 0 ≤ slen (l.take j) ∧ slen (l.take j) ≤ slen l := by
  have hnn : ∀ (m : List TSlice), (∀ e ∈ m, e ∈ l) → 0 ≤ slen m := by
   intro m
   induction m with
   | nil => intro _; simp [slen]
   | cons a m ih =>
    intro hm
    have h1 := (h.sec a (hm a (List.mem_cons_self ..))).2.1
    have h2 := ih fun e he => hm e (List.mem_cons_of_mem _ he)
    unfold slen at h2 ⊢
    rw [List.map_cons, List.sum_cons]
    omega
  intro j hj
  have h1 := hnn (l.take j) fun e he => List.mem_of_mem_take he
  have h2 := hnn (l.drop j) fun e he => List.mem_of_mem_drop he
  have h3 : slen l = slen (l.take j) + slen (l.drop j) := by
   unfold slen
   rw [← List.sum_append, ← List.map_append, List.take_append_drop]
  omega
 have htot := h.tot
 have := loopO_upto (step := fun q : Int × Int => r11_Length_s1 l q.1 q.2) (fun j => (slen (l.take j), (j : Int))) l.length (y := slen l) (fun j hj => by
  have h1 := hb j (by omega)
  have h2 := hb (j + 1) (by omega)
  have h3 := slen_take hj
  unfold r11_Length_s1
  dsimp only
  rw [lt_nat hj, cond_true, getI_at hj, bind_some', W64_eq (by omega) (by omega), W64_succ (by omega), h3]) (by
  unfold r11_Length_s1
  dsimp only
  rw [nlt_nat, List.take_length]
  rfl)
 exact this
theorem length_eq {l : List TSlice} (h : SolOk l) (hc : r11_Check_g l = some 0) : r11_Length_g l = some (slen l) := by
 unfold r11_Length_g
 rw [hc, bind_some', show ((0 : Int) != 0) = false from rfl, cond_false, slen_loop h]
 rfl
def area (X Y : Sp) : Int := (X.b - X.a) * (Y.b - Y.a)
def lk (X Y : Sp) (s : TSection) : Int := Int.tdiv (1000 * (area X Y - wsum X Y s.Rows s.Low) + area X Y - 1) (area X Y)
structure RectOk (X Y : Sp) : Prop where
 x : -600 ≤ X.a ∧ X.a < X.b ∧ X.b ≤ 600
 y : -600 ≤ Y.a ∧ Y.a < Y.b ∧ Y.b ≤ 600
theorem area_bd {X Y : Sp} (h : RectOk X Y) : 1 ≤ area X Y ∧ area X Y ≤ 1440000 := by
 have hx := h.x
 have hy := h.y
 unfold area
 have h1 := Int.mul_le_mul (a := X.b - X.a) (c := 1200) (b := Y.b - Y.a) (d := 1200) (by omega) (by omega) (by omega) (by omega)
 have h2 := Int.mul_le_mul (a := 1) (c := X.b - X.a) (b := 1) (d := Y.b - Y.a) (by omega) (by omega) (by omega) (by omega)
 omega
theorem wsum_bd {X Y : Sp} (h : RectOk X Y) (s : TSection) : 0 ≤ wsum X Y s.Rows s.Low ∧ wsum X Y s.Rows s.Low ≤ area X Y := by
 have hx := h.x
 have hy := h.y
 have h1 := wsum_area (X := X) (Y := Y) (by omega) s.Rows s.Low
 have h2 : cm ⟨10 * s.Low, 10 * (s.Low + s.Rows.length)⟩ Y ≤ Y.b - Y.a := cm_le_right (by omega)
 have h3 := Int.mul_le_mul_of_nonneg_left h2 (show 0 ≤ X.b - X.a by omega)
 refine ⟨wsum_nonneg .., ?_⟩
 unfold area
 omega
theorem lk_bd {X Y : Sp} (h : RectOk X Y) (s : TSection) : 0 ≤ lk X Y s ∧ lk X Y s ≤ 1000 := by
 have h1 := area_bd h
 have h2 := wsum_bd h s
 unfold lk
 generalize area X Y = A at *
 generalize wsum X Y s.Rows s.Low = w at *
 rw [Int.tdiv_eq_ediv_of_nonneg (by omega)]
 constructor
 ·exact Int.ediv_nonneg (by omega) (by omega)
 ·have : (1000 * (A - w) + A - 1) / A < 1001 := Int.ediv_lt_of_lt_mul (by omega) (by omega)
  omega
theorem lack_eq {X Y : Sp} (h : RectOk X Y) (s : TSection) : W64 (Int.tdiv (W64 ((W64 ((W64 (1000 * (W64 ((W64 ((W64 (X.b - X.a)) * (W64 (Y.b - Y.a)))) - (wsum X Y s.Rows s.Low))))) + (W64 ((W64 (X.b - X.a)) * (W64 (Y.b - Y.a)))))) - 1)) (W64 ((W64 (X.b - X.a)) * (W64 (Y.b - Y.a))))) = lk X Y s := by
 have hx := h.x
 have hy := h.y
 have h1 := area_bd h
 have h2 := wsum_bd h s
 have h3 := lk_bd h s
 rw [W64_eq (n := X.b - X.a) (by omega) (by omega), W64_eq (n := Y.b - Y.a) (by omega) (by omega)]
 rw [show (X.b - X.a) * (Y.b - Y.a) = area X Y from rfl]
 rw [W64_eq (n := area X Y) (by omega) (by omega), W64_eq (n := area X Y - _) (by omega) (by omega), W64_eq (n := 1000 * _) (by omega) (by omega), W64_eq (n := _ + area X Y) (by omega) (by omega), W64_eq (n := _ - 1) (by omega) (by omega)]
 exact W64_eq (by unfold lk at h3; omega) (by unfold lk at h3; omega)
def wn (X Y z : Sp) : List TSlice → Int → Int → Int
 | [], _, m => m
 | e :: es, a, m => wn X Y z es (a + e.Len) (if a < z.b ∧ z.a < a + e.Len then max m (lk X Y e.Sec) else m)
theorem wn_bd {X Y z : Sp} (h : RectOk X Y) : ∀ (l : List TSlice) (a m : Int), 0 ≤ m ∧ m ≤ 1000 → 0 ≤ wn X Y z l a m ∧ wn X Y z l a m ≤ 1000
 | [], _, m, hm => hm
 | e :: es, a, m, hm => by
  have h1 := lk_bd h e.Sec
  exact wn_bd h es _ _ (by split <;> omega)
def zns (X Y : Sp) : List TSlice → Int → List Tworth_zone
 | [], _ => []
 | e :: es, a => ⟨⟨a, a + e.Len⟩, lk X Y e.Sec⟩ :: zns X Y es (a + e.Len)
theorem slen_cons (e : TSlice) (l : List TSlice) : slen (e :: l) = e.Len + slen l := by simp [slen]
theorem zns_snoc (X Y : Sp) : ∀ (l : List TSlice) (e : TSlice) (a : Int), zns X Y (l ++ [e]) a = zns X Y l a ++ [⟨⟨a + slen l, a + slen l + e.Len⟩, lk X Y e.Sec⟩]
 | [], e, a => by simp [zns, slen]
 | f :: l, e, a => by
  show _ :: zns X Y (l ++ [e]) (a + f.Len) = _ :: _
  rw [zns_snoc X Y l e (a + f.Len), slen_cons, show a + f.Len + slen l = a + (f.Len + slen l) by omega]
  rfl
theorem zns_len (X Y : Sp) : ∀ (l : List TSlice) (a : Int), (zns X Y l a).length = l.length
 | [], a => rfl
 | f :: l, a => by
  show (zns X Y l (a + f.Len)).length + 1 = l.length + 1
  rw [zns_len X Y l]
def wz (z : Sp) (m : Int) (e : Tworth_zone) : Int := if e.z_.a < z.b ∧ z.a < e.z_.b then max m e.lack else m
theorem wz_fold (X Y z : Sp) : ∀ (l : List TSlice) (a m : Int), (zns X Y l a).foldl (wz z) m = wn X Y z l a m
 | [], a, m => rfl
 | f :: l, a, m => wz_fold X Y z l (a + f.Len) _
theorem slen_bd {l : List TSlice} (h : SolOk l) : ∀ j, j ≤ l.length → 0 ≤ slen (l.take j) ∧ slen (l.take j) ≤ slen l := by
 have hnn : ∀ (m : List TSlice), (∀ e ∈ m, e ∈ l) → 0 ≤ slen m := by
  intro m
  induction m with
  | nil => intro _; simp [slen]
  | cons a m ih =>
   intro hm
   have h1 := (h.sec a (hm a (List.mem_cons_self ..))).2.1
   have h2 := ih fun e he => hm e (List.mem_cons_of_mem _ he)
   rw [slen_cons]
   omega
 intro j hj
 have h1 := hnn (l.take j) fun e he => List.mem_of_mem_take he
 have h2 := hnn (l.drop j) fun e he => List.mem_of_mem_drop he
 have h3 : slen l = slen (l.take j) + slen (l.drop j) := by
  unfold slen
  rw [← List.sum_append, ← List.map_append, List.take_append_drop]
 omega
theorem lacks_eq {l : List TSlice} (h : SolOk l) {vr : TRect} (hr : RectOk vr.X vr.Y) : worth_lacks_g l vr = some (zns vr.X vr.Y l 0) := by
 have hl := h.len
 have htot := h.tot
 have hx := hr.x
 have hy := hr.y
 have ha := area_bd hr
 unfold worth_lacks_g
 have := loopO_upto (step := fun q : List Tworth_zone × Int × Int => worth_lacks_s1 l vr q.1 q.2.1 q.2.2) (fun j => (zns vr.X vr.Y (l.take j) 0, slen (l.take j), (j : Int))) l.length (y := zns vr.X vr.Y l 0) (fun j hj => by
  have h1 := slen_bd h j (by omega)
  have h2 := slen_bd h (j + 1) (by omega)
  have h3 := slen_take hj
  have hs := h.sec _ (List.getElem_mem hj)
  unfold worth_lacks_s1
  dsimp only
  rw [lt_nat hj, cond_true, getI_at hj, bind_some', within_eq hs.1 hs.2.2, bind_some', lack_eq hr]
  rw [W64_eq (n := vr.X.b - vr.X.a) (by omega) (by omega), W64_eq (n := vr.Y.b - vr.Y.a) (by omega) (by omega), show (vr.X.b - vr.X.a) * (vr.Y.b - vr.Y.a) = area vr.X vr.Y from rfl, W64_eq (n := area _ _) (by omega) (by omega), ne_t (by omega), cond_true]
  rw [appO_eq (by rw [zns_len, List.length_take]; simp; omega) (by rw [zns_len, List.length_take]; simp; omega), bind_some', W64_eq (by omega) (by omega), W64_succ (by omega), h3, List.take_succ_eq_append_getElem hj, zns_snoc, Int.zero_add]) (by
  unfold worth_lacks_s1
  dsimp only
  rw [nlt_nat, List.take_length]
  rfl)
 rw [show (zns vr.X vr.Y (l.take 0) 0, slen (l.take 0), ((0 : Nat) : Int)) = (([] : List Tworth_zone), (0 : Int), (0 : Int)) from rfl] at this
 rw [this]
 rfl
theorem worst_eq {l : List Tworth_zone} (hl : l.length ≤ 1000) (z : Sp) : worth_worst_g l z = some (l.foldl (wz z) 0) := by
 unfold worth_worst_g
 have := loopO_fold (step := fun q : Int × Int => worth_worst_s1 l z q.1 q.2) l (wz z) 0 (fun m j => (m, (j : Int))) (fun m => m) (fun m j hj => by
  unfold worth_worst_s1 wz
  dsimp only
  rw [lt_nat hj, cond_true, getI_at hj, bind_some', W64_succ (by omega)]
  by_cases h1 : l[j].z_.a < z.b
  ·rw [decide_eq_true h1, cond_true]
   by_cases h2 : z.a < l[j].z_.b
   ·rw [decide_eq_true h2, cond_true, if_pos ⟨h1, h2⟩]
   ·rw [decide_eq_false h2, cond_false, if_neg (by omega)]
  ·rw [decide_eq_false h1, cond_false, if_neg (by omega)]) (fun m => by
  unfold worth_worst_s1
  dsimp only
  rw [nlt_nat]
  rfl)
 rw [show (((0 : Int)), ((0 : Nat) : Int)) = ((0 : Int), (0 : Int)) from rfl] at this
 rw [this]
 rfl
noncomputable def prt (z : Sp) (a n : Int) : Int := r11_part_g ⟨max z.a 0, min z.b 20000⟩ a n
noncomputable def cuts (z : Sp) : List TSlice → Int → List TSlice
 | [], _ => []
 | e :: es, a => (if a < z.b ∧ z.a < a + e.Len then [⟨prt z a e.Len, e.Sec⟩] else []) ++ cuts z es (a + e.Len)
theorem cuts_snoc (z : Sp) : ∀ (l : List TSlice) (e : TSlice) (a : Int), cuts z (l ++ [e]) a = cuts z l a ++ (if a + slen l < z.b ∧ z.a < a + slen l + e.Len then [⟨prt z (a + slen l) e.Len, e.Sec⟩] else [])
 | [], e, a => by simp [cuts, slen]
 | f :: l, e, a => by
  show _ ++ cuts z (l ++ [e]) (a + f.Len) = _ ++ cuts z l (a + f.Len) ++ _
  rw [cuts_snoc z l e (a + f.Len), slen_cons, show a + f.Len + slen l = a + (f.Len + slen l) by omega, List.append_assoc]
theorem cuts_len (z : Sp) : ∀ (l : List TSlice) (a : Int), (cuts z l a).length ≤ l.length
 | [], a => by simp [cuts]
 | f :: l, a => by
  have := cuts_len z l (a + f.Len)
  show (_ ++ cuts z l (a + f.Len)).length ≤ l.length + 1
  rw [List.length_append]
  split <;> simp <;> omega
theorem cuts_mem {z : Sp} {c : TSlice} : ∀ {l : List TSlice} {a : Int}, c ∈ cuts z l a → ∃ e ∈ l, c.Sec = e.Sec
 | [], a, h => by simp [cuts] at h
 | f :: l, a, h => by
  have h : c ∈ (if a < z.b ∧ z.a < a + f.Len then [⟨prt z a f.Len, f.Sec⟩] else []) ++ cuts z l (a + f.Len) := h
  rcases List.mem_append.1 h with h | h
  ·split at h
   ·rw [List.mem_singleton] at h
    exact ⟨f, List.mem_cons_self .., by rw [h]⟩
   ·simp at h
  ·obtain ⟨e, he, h⟩ := cuts_mem h
   exact ⟨e, List.mem_cons_of_mem _ he, h⟩
theorem cuts_fold (X Y z : Sp) : ∀ (l : List TSlice) (a m : Int), (cuts z l a).foldl (fun m e => max m (lk X Y e.Sec)) m = wn X Y z l a m
 | [], a, m => rfl
 | f :: l, a, m => by
  show ((if a < z.b ∧ z.a < a + f.Len then [(⟨prt z a f.Len, f.Sec⟩ : TSlice)] else []) ++ cuts z l (a + f.Len)).foldl _ m = wn X Y z l (a + f.Len) (if a < z.b ∧ z.a < a + f.Len then max m (lk X Y f.Sec) else m)
  rw [List.foldl_append, cuts_fold X Y z l]
  split <;> rfl
theorem cut_eq {l : List TSlice} (h : SolOk l) (hc : r11_Check_g l = some 0) {z : Sp} (hz : 0 ≤ z.a ∧ z.a < z.b ∧ z.b ≤ slen l) : r11_Cut_g l z = some (cuts z l 0) := by
 have hl := h.len
 have htot := h.tot
 unfold r11_Cut_g
 rw [hc, bind_some', show ((0 : Int) != 0) = false from rfl, cond_false]
 have := loopO_upto (step := fun q : List TSlice × Int × Int => r11_Cut_s1 l z q.1 q.2.1 q.2.2) (fun j => (cuts z (l.take j) 0, slen (l.take j), (j : Int))) l.length (y := cuts z l 0) (fun j hj => by
  have h1 := slen_bd h j (by omega)
  have h2 := slen_bd h (j + 1) (by omega)
  have h3 := slen_take hj
  have hs := h.sec _ (List.getElem_mem hj)
  have hlen := cuts_len z (l.take j) 0
  rw [List.length_take] at hlen
  unfold r11_Cut_s1
  dsimp only
  rw [lt_nat hj, cond_true, getI_at hj]
  simp only [bind_some']
  rw [W64_eq (n := slen _ + _) (by omega) (by omega), W64_succ (by omega)]
  have hp : (0 < r11_part_g (⟨max z.a 0, min z.b 20000⟩ : Sp) (slen (l.take j)) l[j].Len) ↔ (slen (l.take j) < z.b ∧ z.a < slen (l.take j) + l[j].Len) := by
   unfold r11_part_g
   dsimp only
   rw [W64_eq (n := slen _ + _) (by omega) (by omega)]
   by_cases h4 : min (min z.b 20000) (slen (l.take j) + l[j].Len) ≤ max (max z.a 0) (slen (l.take j))
   ·rw [decide_eq_true h4, cond_true]
    omega
   ·rw [decide_eq_false h4, cond_false, W64_eq (by omega) (by omega)]
    omega
  rw [h3, List.take_succ_eq_append_getElem hj, cuts_snoc, Int.zero_add]
  by_cases h5 : slen (l.take j) < z.b ∧ z.a < slen (l.take j) + l[j].Len
  ·rw [decide_eq_true (hp.2 h5), cond_true, appO_eq (by simp; omega) (by simp; omega), bind_some', if_pos h5]
   rfl
  ·rw [decide_eq_false fun h => h5 (hp.1 h), cond_false, if_neg h5, List.append_nil]) (by
  unfold r11_Cut_s1
  dsimp only
  rw [nlt_nat, List.take_length]
  rfl)
 rw [show (cuts z (l.take 0) 0, slen (l.take 0), ((0 : Nat) : Int)) = (([] : List TSlice), (0 : Int), (0 : Int)) from rfl] at this
 rw [this]
 rfl
theorem r20_wane_eq {l : List TSlice} (h : SolOk l) (hc : r11_Check_g l = some 0) {b : Bx} (hr : RectOk b.x b.y) (hz : 0 ≤ b.z.a ∧ b.z.a < b.z.b ∧ b.z.b ≤ slen l) : r20_wane_g l b = some (wn b.x b.y b.z l 0 0) := by
 have hl := h.len
 have hx := hr.x
 have hy := hr.y
 have ha := area_bd hr
 have hlen := cuts_len b.z l 0
 unfold r20_wane_g
 rw [cut_eq h hc hz, bind_some']
 have := loopO_fold (step := fun q : Int × Int => r20_wane_s1 b (cuts b.z l 0) q.1 q.2) (cuts b.z l 0) (fun m e => max m (lk b.x b.y e.Sec)) 0 (fun m j => (m, (j : Int))) (fun m => m) (fun m j hj => by
  obtain ⟨e, he, hes⟩ := cuts_mem (List.getElem_mem hj)
  have hs := h.sec e he
  rw [← hes] at hs
  unfold r20_wane_s1
  dsimp only
  rw [lt_nat hj, cond_true, getI_at hj, bind_some', r10_within_eq hs.1 hs.2.2, bind_some', lack_eq hr]
  rw [W64_eq (n := b.x.b - b.x.a) (by omega) (by omega), W64_eq (n := b.y.b - b.y.a) (by omega) (by omega), show (b.x.b - b.x.a) * (b.y.b - b.y.a) = area b.x b.y from rfl, W64_eq (n := area _ _) (by omega) (by omega), ne_t (by omega), cond_true, W64_succ (by omega)]) (fun m => by
  unfold r20_wane_s1
  dsimp only
  rw [nlt_nat]
  rfl)
 rw [show (((0 : Int)), ((0 : Nat) : Int)) = ((0 : Int), (0 : Int)) from rfl] at this
 rw [this, cuts_fold]
 rfl
def wthin (z : Sp) (n : Int) : Bool := decide (0 ≤ z.a) && (decide (z.a < z.b) && decide (z.b ≤ n))
theorem isWithin_eq (z : Sp) (n : Int) : worth_isWithin_g z n = wthin z n := by
 unfold worth_isWithin_g wthin
 cases decide (0 ≤ z.a) <;> cases decide (z.a < z.b) <;> rfl
theorem r20_within_eq {l : List TSlice} {b : Bx} {n : Int} (h : r11_Length_g l = some n) : r20_within_g l b = some (r20_across_g b.x && r20_across_g b.y && wthin b.z n) := by
 unfold r20_within_g wthin
 rw [h]
 cases r20_across_g b.x <;> cases r20_across_g b.y <;> cases decide (0 ≤ b.z.a) <;> cases decide (b.z.a < b.z.b) <;> rfl
theorem wthin_t {z : Sp} {n : Int} (h : wthin z n = true) : 0 ≤ z.a ∧ z.a < z.b ∧ z.b ≤ n := by
 unfold wthin at h
 simp only [Bool.and_eq_true, decide_eq_true_eq] at h
 exact h
theorem wthin_0 (z : Sp) : wthin z 0 = false := by
 unfold wthin
 by_cases h1 : 0 ≤ z.a
 ·by_cases h2 : z.a < z.b
  ·rw [decide_eq_false (p := z.b ≤ 0) (by omega)]
   simp
  ·rw [decide_eq_false h2]
   simp
 ·rw [decide_eq_false h1]
  rfl
abbrev LowOk (l : List TSlice) : Prop := ∀ e ∈ l, I64 e.Sec.Low ∧ I64 e.Len
theorem wane_both {l : List TSlice} (hl : LowOk l) (b : Bx) : ∃ w, worth_Wane_g l b = some w ∧ r20_Wane_g l b = some w ∧ 0 ≤ w ∧ w ≤ 1000 ∧ ((w = 1000) ∨ (SolOk l ∧ r11_Check_g l = some 0 ∧ RectOk b.x b.y ∧ (0 ≤ b.z.a ∧ b.z.a < b.z.b ∧ b.z.b ≤ slen l) ∧ w = wn b.x b.y b.z l 0 0)) := by
 obtain ⟨c, hc, hok⟩ := solid_total l hl
 unfold worth_Wane_g r20_Wane_g
 rw [solid_check_eq, hc, bind_some', isRect_eq, solid_length_eq]
 by_cases h0 : c = 0
 ·subst h0
  have h := hok rfl
  have hlen := length_eq h hc
  rw [show ((0 : Int) != 0) = false from rfl, cond_false, hlen, r20_within_eq hlen]
  simp only [bind_some', isWithin_eq]
  cases hx : r20_across_g b.x with
  | false => exact ⟨1000, rfl, rfl, by omega, by omega, .inl rfl⟩
  | true =>
   cases hy : r20_across_g b.y with
   | false => exact ⟨1000, rfl, rfl, by omega, by omega, .inl rfl⟩
   | true =>
    cases hz : wthin b.z (slen l) with
    | false => exact ⟨1000, rfl, rfl, by omega, by omega, .inl rfl⟩
    | true =>
     have hr : RectOk b.x b.y := ⟨across_t hx, across_t hy⟩
     have hzz := wthin_t hz
     have hb := wn_bd (z := b.z) hr l 0 0 (by omega)
     have e1 := lacks_eq h (vr := ⟨b.x, b.y⟩) hr
     have e2 := worst_eq (l := zns b.x b.y l 0) (by rw [zns_len]; have := h.len; omega) b.z
     rw [wz_fold] at e2
     refine ⟨_, ?_, ?_, hb.1, hb.2, .inr ⟨h, trivial, hr, hzz, rfl⟩⟩
     ·show Option.bind (worth_lacks_g l ⟨b.x, b.y⟩) _ = _
      rw [e1, bind_some', e2]
      rfl
     ·show Option.bind (r20_wane_g l b) _ = _
      rw [r20_wane_eq h hc hr hzz]
      rfl
 ·have hlen : r11_Length_g l = some 0 := by
   unfold r11_Length_g
   rw [hc, bind_some', ne_t h0]
   rfl
  rw [ne_t h0, r20_within_eq hlen, wthin_0]
  refine ⟨1000, rfl, ?_, by omega, by omega, .inl rfl⟩
  cases r20_across_g b.x <;> cases r20_across_g b.y <;> rfl
theorem lowOk_of {l : List TSlice} (h : ∀ e ∈ l, e.ok) : LowOk l := fun e he => by
 have := h e he
 exact ⟨this.2.1, this.1⟩
def exts : List TSlice → Int → List Sp
 | [], _ => []
 | e :: es, a => ⟨a, a + e.Len⟩ :: exts es (a + e.Len)
theorem exts_len : ∀ (l : List TSlice) (a : Int), (exts l a).length = l.length
 | [], _ => rfl
 | e :: es, a => by
  show (exts es (a + e.Len)).length + 1 = es.length + 1
  rw [exts_len es]
theorem exts_snoc : ∀ (l : List TSlice) (e : TSlice) (a : Int), exts (l ++ [e]) a = exts l a ++ [⟨a + slen l, a + slen l + e.Len⟩]
 | [], e, a => by simp [exts, slen]
 | f :: l, e, a => by
  show _ :: exts (l ++ [e]) (a + f.Len) = _ :: (exts l (a + f.Len) ++ _)
  rw [exts_snoc l e, slen_cons, show a + f.Len + slen l = a + (f.Len + slen l) by omega]
theorem exts_get : ∀ (l : List TSlice) (a : Int) (j : Nat) (hj : j < l.length), (exts l a)[j]? = some ⟨a + slen (l.take j), a + slen (l.take j) + l[j].Len⟩
 | [], a, j, hj => by simp at hj
 | f :: l, a, 0, hj => by simp [exts, slen]
 | f :: l, a, j + 1, hj => by
  show (exts l (a + f.Len))[j]? = _
  have hj' : j < l.length := by simpa using hj
  rw [exts_get l _ j hj', List.take_succ_cons, slen_cons, List.getElem_cons_succ, show a + f.Len + slen (l.take j) = a + (f.Len + slen (l.take j)) by omega]
theorem set_mid {α : Type} (A : List α) (n : Nat) (z v : α) : (A ++ List.replicate (n + 1) z).set A.length v = A ++ [v] ++ List.replicate n z := by
 rw [List.set_append_right _ _ (Nat.le_refl _)]
 simp [List.replicate_succ]
theorem extents_eq {l : List TSlice} (h : SolOk l) : solid_extents_g l = some (exts l 0) := by
 have hl := h.len
 have htot := h.tot
 unfold solid_extents_g
 have hm : mkO 16 (⟨0, 0⟩ : Sp) ((l.length : Nat) : Int) = some (List.replicate l.length ⟨0, 0⟩) := by
  unfold mkO
  rw [decide_eq_true (by omega), decide_eq_true (by omega), decide_eq_true (by omega)]
  rfl
 rw [hm, bind_some']
 have := loopO_upto (step := fun q : Int × Int × List Sp => solid_extents_s1 l q.1 q.2.1 q.2.2) (fun j => (slen (l.take j), (j : Int), exts (l.take j) 0 ++ List.replicate (l.length - j) ⟨0, 0⟩)) l.length (y := exts l 0) (fun j hj => by
  have h1 := slen_bd h j (by omega)
  have h2 := slen_bd h (j + 1) (by omega)
  have h3 := slen_take hj
  have hlen : (exts (l.take j) 0).length = j := by rw [exts_len, List.length_take]; omega
  unfold solid_extents_s1
  dsimp only
  have hg : getI (exts (l.take j) 0 ++ List.replicate (l.length - j) (⟨0, 0⟩ : Sp)) (j : Int) = some ⟨0, 0⟩ := by
   rw [getI_nat, List.getElem?_append_right (by omega), hlen, Nat.sub_self, List.getElem?_replicate]
   simp; omega
  rw [lt_nat hj, cond_true, getI_at hj, bind_some', hg, bind_some', W64_eq (by omega) (by omega), W64_succ (by omega), h3]
  have hset : setI (exts (l.take j) 0 ++ List.replicate (l.length - j) (⟨0, 0⟩ : Sp)) (j : Int) (⟨slen (l.take j), slen (l.take j) + l[j].Len⟩ : Sp) = exts (l.take (j + 1)) 0 ++ List.replicate (l.length - (j + 1)) (⟨0, 0⟩ : Sp) := by
   rw [List.take_succ_eq_append_getElem hj, exts_snoc, Int.zero_add]
   have := set_mid (exts (l.take j) 0) (l.length - (j + 1)) (⟨0, 0⟩ : Sp) ⟨slen (l.take j), slen (l.take j) + l[j].Len⟩
   rw [hlen, show l.length - (j + 1) + 1 = l.length - j by omega] at this
   exact this
  rw [hset]) (by
  unfold solid_extents_s1
  dsimp only
  rw [nlt_nat, List.take_length, Nat.sub_self]
  simp)
 rw [show (slen (l.take 0), ((0 : Nat) : Int), exts (l.take 0) 0 ++ List.replicate (l.length - 0) (⟨0, 0⟩ : Sp)) = ((0 : Int), (0 : Int), List.replicate l.length (⟨0, 0⟩ : Sp)) from rfl] at this
 rw [this]
 rfl
def vol (X Y z : Sp) : List TSlice → Int → Int
 | [], _ => 0
 | e :: es, a => cm ⟨a, a + e.Len⟩ z * wsum X Y e.Sec.Rows e.Sec.Low + vol X Y z es (a + e.Len)
theorem vol_snoc (X Y z : Sp) : ∀ (l : List TSlice) (e : TSlice) (a : Int), vol X Y z (l ++ [e]) a = vol X Y z l a + cm ⟨a + slen l, a + slen l + e.Len⟩ z * wsum X Y e.Sec.Rows e.Sec.Low
 | [], e, a => by simp [vol, slen]
 | f :: l, e, a => by
  show _ + vol X Y z (l ++ [e]) (a + f.Len) = _ + vol X Y z l (a + f.Len) + _
  rw [vol_snoc X Y z l e, slen_cons, show a + f.Len + slen l = a + (f.Len + slen l) by omega]
  omega
theorem vol_bd {X Y z : Sp} : ∀ (l : List TSlice) (a : Int), (∀ e ∈ l, SecOk e.Sec ∧ 1 ≤ e.Len ∧ e.Len ≤ 20000) → 0 ≤ vol X Y z l a ∧ vol X Y z l a ≤ 28800000000 * l.length
 | [], a, _ => by simp [vol]
 | f :: l, a, h => by
  have hf := h f (List.mem_cons_self ..)
  have ih := vol_bd l (a + f.Len) (fun e he => h e (List.mem_cons_of_mem _ he)) (X := X) (Y := Y) (z := z)
  have h1 : cm ⟨a, a + f.Len⟩ z ≤ 20000 := cm_le (by omega) (by show a + f.Len - a ≤ 20000; omega)
  have h2 := wsum_big X Y f.Sec.Rows f.Sec.Low hf.1.rng
  have h3 := wsum_nonneg X Y f.Sec.Rows f.Sec.Low
  have hlen := hf.1.len
  have h4 := Int.mul_le_mul h1 (show wsum X Y f.Sec.Rows f.Sec.Low ≤ 1440000 by omega) h3 (by omega)
  have h5 := Int.mul_nonneg (cm_nonneg ⟨a, a + f.Len⟩ z) h3
  show 0 ≤ _ + vol X Y z l (a + f.Len) ∧ _ + vol X Y z l (a + f.Len) ≤ _
  rw [List.length_cons]
  omega
theorem len_le {l : List TSlice} (h : SolOk l) : ∀ e ∈ l, SecOk e.Sec ∧ 1 ≤ e.Len ∧ e.Len ≤ 20000 := by
 intro e he
 have h1 := h.sec e he
 obtain ⟨j, hj, rfl⟩ := List.getElem_of_mem he
 have h2 := slen_bd h j (by omega)
 have h3 := slen_bd h (j + 1) (by omega)
 have h4 := slen_take hj
 have := h.tot
 exact ⟨h1.1, h1.2.1, by omega⟩
theorem solidWithin_eq {l : List TSlice} (h : SolOk l) (hc : r11_Check_g l = some 0) (b : Bx) : solid_Within_g l b = some (vol b.x b.y b.z l 0) := by
 have hl := h.len
 have htot := h.tot
 unfold solid_Within_g solid_valid_g
 rw [solid_check_eq, hc, bind_some', show ((0 : Int) != 0) = false from rfl, cond_false, bind_some', extents_eq h, bind_some']
 have := loopO_upto (step := fun q : Int × Int => solid_Within_s1 b l (exts l 0) q.1 q.2) (fun j => (vol b.x b.y b.z (l.take j) 0, (j : Int))) l.length (y := vol b.x b.y b.z l 0) (fun j hj => by
  have h1 := slen_bd h j (by omega)
  have h2 := slen_bd h (j + 1) (by omega)
  have h3 := slen_take hj
  have hs := h.sec _ (List.getElem_mem hj)
  have hb := vol_bd (X := b.x) (Y := b.y) (z := b.z) (l.take j) 0 fun e he => len_le h e (List.mem_of_mem_take he)
  have hb2 := vol_bd (X := b.x) (Y := b.y) (z := b.z) (l.take (j + 1)) 0 fun e he => len_le h e (List.mem_of_mem_take he)
  have h4 := vol_snoc b.x b.y b.z (l.take j) l[j] 0
  rw [← List.take_succ_eq_append_getElem hj, Int.zero_add] at h4
  rw [List.length_take] at hb hb2
  have hg := exts_get l 0 j hj
  rw [Int.zero_add] at hg
  unfold solid_Within_s1
  dsimp only
  rw [exts_len, lt_nat hj, cond_true, getI_nat, hg, bind_some', letB_eq, span_len_meet (by dsimp only; omega), getI_at hj, bind_some', within_eq hs.1 hs.2.2, bind_some', W64_succ (by omega)]
  have h5 := Int.mul_nonneg (cm_nonneg ⟨slen (l.take j), slen (l.take j) + l[j].Len⟩ b.z) (wsum_nonneg b.x b.y l[j].Sec.Rows l[j].Sec.Low)
  dsimp only
  by_cases hp : 0 < cm ⟨slen (l.take j), slen (l.take j) + l[j].Len⟩ b.z
  ·rw [decide_eq_true hp, cond_true, W64_eq (n := cm _ _ * _) (by omega) (by omega), ← h4, W64_eq (by omega) (by omega)]
  ·rw [decide_eq_false hp, cond_false]
   have h6 := cm_nonneg ⟨slen (l.take j), slen (l.take j) + l[j].Len⟩ b.z
   have h7 : cm ⟨slen (l.take j), slen (l.take j) + l[j].Len⟩ b.z = 0 := by omega
   rw [h7, Int.zero_mul, Int.add_zero] at h4
   rw [h4]) (by
  unfold solid_Within_s1
  dsimp only
  rw [exts_len, nlt_nat, List.take_length]
  rfl)
 rw [show (vol b.x b.y b.z (l.take 0) 0, ((0 : Nat) : Int)) = ((0 : Int), (0 : Int)) from rfl] at this
 rw [this]
 rfl
theorem within_bad {l : List TSlice} {c : Int} (hc : r11_Check_g l = some c) (h0 : c ≠ 0) (b : Bx) : solid_Within_g l b = some 0 := by
 unfold solid_Within_g solid_valid_g
 rw [solid_check_eq, hc, bind_some', ne_t h0, cond_true, bind_some']
 have he : solid_extents_g [] = some [] := by
  have := extents_eq (l := []) ⟨by simp, by simp, by simp [slen]⟩
  exact this
 rw [he, bind_some', loopO_done (y := 0) (by rfl), bind_some']
theorem short30_total (x : Tsawmilllaw30_Log) : ∃ b, l30_Short_g x = some b ∧ (b = true → x.Solid.length ≤ 30 ∧ x.Defects.length ≤ 100) := by
 unfold l30_Short_g
 by_cases h1 : 30 < x.Solid.length
 ·rw [decide_eq_true (by omega)]
  exact ⟨_, rfl, fun h => by simp at h⟩
 rw [decide_eq_false (by omega), cond_false]
 by_cases h2 : 100 < x.Defects.length
 ·rw [decide_eq_true (by omega)]
  exact ⟨_, rfl, fun h => by simp at h⟩
 rw [decide_eq_false (by omega), cond_false]
 have := loopO_foldX (step := fun q : Int => l30_Short_s1 x q) x.Solid (fun e => decide (130 < ((e.Sec.Rows.length : Nat) : Int))) (fun (u : Unit) _ => u) () (fun _ j => (j : Int)) (.inl false) (fun _ => .inr ()) (fun _ _ => True) trivial (fun _ _ _ _ _ => trivial) (fun s j hj _ hb => by
  unfold l30_Short_s1
  rw [lt_nat hj, cond_true, getI_at hj, bind_some', hb, cond_false, W64_succ (by omega)]) (fun s j hj _ hb => by
  unfold l30_Short_s1
  rw [lt_nat hj, cond_true, getI_at hj, bind_some', hb]
  rfl) (fun _ _ => by
  unfold l30_Short_s1
  rw [nlt_nat]
  rfl)
 rw [show ((0 : Nat) : Int) = 0 from rfl] at this
 rw [this, bind_some']
 cases x.Solid.any fun e => decide (130 < ((e.Sec.Rows.length : Nat) : Int))
 ·exact ⟨_, rfl, fun _ => by omega⟩
 ·exact ⟨_, rfl, fun h => by simp at h⟩
theorem part_eq {z : Sp} (hz : z.a < z.b) {a n : Int} (ha : 0 ≤ a) (hn : 1 ≤ n) (hs : a + n ≤ 20000) : r11_part_g ⟨max z.a 0, min z.b 20000⟩ a n = cm ⟨a, a + n⟩ z := by
 unfold r11_part_g cm
 dsimp only
 rw [W64_eq (n := a + n) (by omega) (by omega)]
 by_cases h : min (min z.b 20000) (a + n) ≤ max (max z.a 0) a
 ·rw [decide_eq_true h, cond_true]
  omega
 ·rw [decide_eq_false h, cond_false, W64_eq (by omega) (by omega)]
  omega
theorem cm_empty {a z : Sp} (h : z.b ≤ z.a) : cm a z = 0 := by
 unfold cm
 omega
theorem wsum_x0 {X Y : Sp} (h : X.b ≤ X.a) : ∀ (es : List Sp) (low : Int), wsum X Y es low = 0
 | [], _ => rfl
 | e :: es, low => by
  show cm e X * _ + wsum X Y es (low + 1) = 0
  rw [cm_empty h, wsum_x0 h es, Int.zero_mul]
  rfl
theorem wsum_y0 {X Y : Sp} (h : Y.b ≤ Y.a) : ∀ (es : List Sp) (low : Int), wsum X Y es low = 0
 | [], _ => rfl
 | e :: es, low => by
  show cm e X * cm _ Y + wsum X Y es (low + 1) = 0
  rw [cm_empty h, wsum_y0 h es, Int.mul_zero]
  rfl
theorem vol_0 {X Y z : Sp} (h : X.b ≤ X.a ∨ Y.b ≤ Y.a ∨ z.b ≤ z.a) : ∀ (l : List TSlice) (a : Int), vol X Y z l a = 0
 | [], _ => rfl
 | e :: es, a => by
  show cm ⟨a, a + e.Len⟩ z * wsum X Y e.Sec.Rows e.Sec.Low + vol X Y z es (a + e.Len) = 0
  rw [vol_0 h es]
  rcases h with h | h | h
  ·rw [wsum_x0 h, Int.mul_zero]; rfl
  ·rw [wsum_y0 h, Int.mul_zero]; rfl
  ·rw [cm_empty h, Int.zero_mul]; rfl
theorem rwithin11_eq {l : List TSlice} (h : SolOk l) (hc : r11_Check_g l = some 0) (b : Bx) : r11_Within_g l b = some (vol b.x b.y b.z l 0) := by
 have hl := h.len
 have htot := h.tot
 unfold r11_Within_g
 rw [hc, bind_some', show ((0 : Int) != 0) = false from rfl, cond_false]
 by_cases hx : b.x.b ≤ b.x.a
 ·rw [decide_eq_true hx, vol_0 (.inl hx)]
  rfl
 rw [decide_eq_false hx, cond_false]
 by_cases hy : b.y.b ≤ b.y.a
 ·rw [decide_eq_true hy, vol_0 (.inr (.inl hy))]
  rfl
 rw [decide_eq_false hy, cond_false]
 by_cases hz : b.z.b ≤ b.z.a
 ·rw [decide_eq_true hz, vol_0 (.inr (.inr hz))]
  rfl
 rw [decide_eq_false hz, cond_false]
 have := loopO_upto (step := fun q : Int × Int × Int => r11_Within_s1 l b q.1 q.2.1 q.2.2) (fun j => (vol b.x b.y b.z (l.take j) 0, slen (l.take j), (j : Int))) l.length (y := vol b.x b.y b.z l 0) (fun j hj => by
  have h1 := slen_bd h j (by omega)
  have h2 := slen_bd h (j + 1) (by omega)
  have h3 := slen_take hj
  have hs := h.sec _ (List.getElem_mem hj)
  have hb := vol_bd (X := b.x) (Y := b.y) (z := b.z) (l.take j) 0 fun e he => len_le h e (List.mem_of_mem_take he)
  have hb2 := vol_bd (X := b.x) (Y := b.y) (z := b.z) (l.take (j + 1)) 0 fun e he => len_le h e (List.mem_of_mem_take he)
  have h4 := vol_snoc b.x b.y b.z (l.take j) l[j] 0
  rw [← List.take_succ_eq_append_getElem hj, Int.zero_add] at h4
  rw [List.length_take] at hb hb2
  unfold r11_Within_s1
  dsimp only
  rw [lt_nat hj, cond_true, getI_at hj, bind_some', part_eq (by omega) h1.1 hs.2.1 (by omega)]
  simp only [bind_some']
  rw [r10_within_eq hs.1 hs.2.2, bind_some', W64_succ (by omega), W64_eq (n := slen (l.take j) + l[j].Len) (by omega) (by omega), ← h3]
  have h5 := Int.mul_nonneg (cm_nonneg ⟨slen (l.take j), slen (l.take j) + l[j].Len⟩ b.z) (wsum_nonneg b.x b.y l[j].Sec.Rows l[j].Sec.Low)
  rw [h3]
  dsimp only
  by_cases hp : 0 < cm ⟨slen (l.take j), slen (l.take j) + l[j].Len⟩ b.z
  ·rw [decide_eq_true hp, cond_true, W64_eq (n := cm _ _ * _) (by omega) (by omega), ← h4, W64_eq (by omega) (by omega)]
  ·rw [decide_eq_false hp, cond_false]
   have h6 := cm_nonneg ⟨slen (l.take j), slen (l.take j) + l[j].Len⟩ b.z
   have h7 : cm ⟨slen (l.take j), slen (l.take j) + l[j].Len⟩ b.z = 0 := by omega
   rw [h7, Int.zero_mul, Int.add_zero] at h4
   rw [h4]) (by
  unfold r11_Within_s1
  dsimp only
  rw [nlt_nat, List.take_length]
  rfl)
 rw [show (vol b.x b.y b.z (l.take 0) 0, slen (l.take 0), ((0 : Nat) : Int)) = ((0 : Int), (0 : Int), (0 : Int)) from rfl] at this
 rw [this, bind_some']
theorem within_both {l : List TSlice} (hl : LowOk l) (b : Bx) : ∃ v, solid_Within_g l b = some v ∧ r11_Within_g l b = some v := by
 obtain ⟨c, hc, hok⟩ := solid_total l hl
 by_cases h0 : c = 0
 ·subst h0
  have h := hok rfl
  exact ⟨_, solidWithin_eq h hc b, rwithin11_eq h hc b⟩
 ·refine ⟨0, within_bad hc h0 b, ?_⟩
  unfold r11_Within_g
  rw [hc, bind_some', ne_t h0]
  rfl
theorem boardNews_true (m : Tsawmilllaw30_Made) (x : Tsawmilllaw30_Log) (hl : LowOk x.Solid) (hd : x.Defects.length ≤ 9223372036854775807) : l30_BoardNews_g m x = some true := by
 unfold l30_BoardNews_g
 obtain ⟨b, hb, hx⟩ := short30_total x
 rw [aw30, hb, bind_some']
 cases b with
 | false => rfl
 | true =>
 cases decide (100 < ((m.Id.size : Nat) : Int)) with
 | true => rfl
 | false =>
 cases decide (100 < ((m.Log.size : Nat) : Int)) with
 | true => rfl
 | false =>
 cases decide (100 < ((m.Species.Name.size : Nat) : Int)) with
 | true => rfl
 | false =>
 obtain ⟨v, h1, h2⟩ := within_both hl m.Box
 obtain ⟨w, h3, h4, _⟩ := wane_both hl m.Box
 have hc : (clipD x.Defects m.Box).length ≤ 9223372036854775807 := by
  unfold clipD
  split
  ·have := List.length_filterMap_le (clipOne m.Box) x.Defects
   omega
  ·show 0 ≤ _
   omega
 simp only [Bool.not_true, cond_false]
 unfold l30_made_g board_New_g r30_New_g
 rw [h1, h2, d_clip_eq _ hd, r13_clip_eq _ hd, h3, h4]
 simp only [bind_some']
 rw [r30_same_eq hc, bind_some', decide_eq_true rfl, cond_true]
end Go.Proofs.YtpoehckffpbfiaaGreat
