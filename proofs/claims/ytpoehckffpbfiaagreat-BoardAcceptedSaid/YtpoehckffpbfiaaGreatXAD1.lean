/- D1: what functions of the program compute (written by mod.py). -/
import Derived.Test.YtpoehckffpbfiaaGreatXAC2
import Derived.KernelRfl
namespace Go.Proofs.YtpoehckffpbfiaaGreat
open Go Go.Ab
set_option linter.unusedSimpArgs false
set_option linter.unusedVariables false
set_option linter.unusedSectionVars false
set_option maxRecDepth 20000
set_option maxHeartbeats 1000000
structure SecOk (s : TSection) : Prop where
 len : s.Rows.length ≤ 120
 low : -60 ≤ s.Low ∧ s.Low + s.Rows.length ≤ 60
 rng : ∀ e ∈ s.Rows, -600 ≤ e.a ∧ e.a ≤ 600 ∧ -600 ≤ e.b ∧ e.b ≤ 600
theorem beyond_f {n : Int} (h : r10_beyond_g n = false) : -600 ≤ n ∧ n ≤ 600 := by
 unfold r10_beyond_g at h
 by_cases h1 : n < -600
 ·rw [decide_eq_true h1] at h
  exact absurd h (by simp)
 ·rw [decide_eq_false h1, cond_false, decide_eq_false_iff_not] at h
  omega
theorem section_total (s : TSection) (hl : I64 s.Low) : ∃ c, r10_Check_g s = some c ∧ (c = 0 → SecOk s) := by
 unfold I64 at hl
 unfold r10_Check_g
 by_cases h1 : 120 < s.Rows.length
 ·rw [decide_eq_true (by omega)]
  exact ⟨4, rfl, fun h => by omega⟩
 ·rw [decide_eq_false (by omega), cond_false]
  by_cases h2 : s.Low < -60
  ·rw [decide_eq_true h2]
   exact ⟨9, rfl, fun h => by omega⟩
  ·rw [decide_eq_false h2, cond_false, W64_eq (by omega) (by omega)]
   by_cases h3 : 60 - ((s.Rows.length : Nat) : Int) < s.Low
   ·rw [decide_eq_true h3]
    exact ⟨9, rfl, fun h => by omega⟩
   ·rw [decide_eq_false h3, cond_false]
    have hloop := loopO_allN (step := fun q : Int => r10_Check_s1 s q) s.Rows.length (fun j => (j : Int)) (fun j => (s.Rows[j]?).elim true fun e => !(r10_beyond_g e.a || r10_beyond_g e.b)) (9 : Int) (fun j hj => by
     unfold r10_Check_s1
     rw [lt_nat hj, cond_true, getI_at hj, bind_some', bind_some', W64_succ (by omega), List.getElem?_eq_getElem hj]
     show _ = bif !(r10_beyond_g s.Rows[j].a || r10_beyond_g s.Rows[j].b) then _ else _
     cases r10_beyond_g s.Rows[j].a <;> cases r10_beyond_g s.Rows[j].b <;> rfl) (by
     unfold r10_Check_s1
     rw [nlt_nat]
     rfl)
    have e0 : ((0 : Nat) : Int) = 0 := rfl
    rw [e0] at hloop
    rw [hloop, bind_some']
    cases hall : (List.range s.Rows.length).all (fun j => (s.Rows[j]?).elim true fun e => !(r10_beyond_g e.a || r10_beyond_g e.b)) with
    | false => exact ⟨9, rfl, fun h => by omega⟩
    | true =>
     have hok : SecOk s := by
      refine ⟨by omega, by omega, fun e he => ?_⟩
      obtain ⟨j, hj, rfl⟩ := List.getElem_of_mem he
      rw [List.all_eq_true] at hall
      have := hall j (List.mem_range.2 hj)
      rw [List.getElem?_eq_getElem hj] at this
      have h4 : (!(r10_beyond_g s.Rows[j].a || r10_beyond_g s.Rows[j].b)) = true := this
      rw [Bool.not_eq_true', Bool.or_eq_false_iff] at h4
      have h5 := beyond_f h4.1
      have h6 := beyond_f h4.2
      omega
     rw [cond_true, Sum.elim_inr]
     by_cases h0 : s.Rows.length = 0
     ·rw [show ((((s.Rows.length : Nat) : Int)) == 0) = true by simp [h0], cond_true]
      cases (s.Low != 0) with
      | true => exact ⟨19, rfl, fun h => by omega⟩
      | false => exact ⟨0, rfl, fun _ => hok⟩
     ·rw [show ((((s.Rows.length : Nat) : Int)) == 0) = false by simp; intro h; simp [h] at h0, cond_false]
      have g0 := getI_at (l := s.Rows) (j := 0) (by omega)
      rw [e0] at g0
      have g1 := getI_at (l := s.Rows) (j := s.Rows.length - 1) (by omega)
      rw [show ((s.Rows.length - 1 : Nat) : Int) = ((s.Rows.length : Nat) : Int) - 1 by omega] at g1
      rw [g0, bind_some', W64_eq (by omega) (by omega), g1, bind_some']
      cases r10_empty_g s.Rows[0] with
      | true => exact ⟨19, rfl, fun h => by omega⟩
      | false =>
       rw [cond_false]
       cases r10_empty_g s.Rows[s.Rows.length - 1] with
       | true => exact ⟨19, rfl, fun h => by omega⟩
       | false =>
        rw [cond_false]
        have hloop2 := loopO_allN (step := fun q : Int => r10_Check_s2 s q) s.Rows.length (fun j => (j : Int)) (fun j => (s.Rows[j]?).elim true fun e => !(r10_empty_g e && !(eqV encSp e (⟨0, 0⟩ : Sp)))) (19 : Int) (fun j hj => by
         unfold r10_Check_s2
         rw [lt_nat hj, cond_true, getI_at hj, bind_some', bind_some', W64_succ (by omega), List.getElem?_eq_getElem hj]
         show _ = bif !(r10_empty_g s.Rows[j] && !(eqV encSp s.Rows[j] (⟨0, 0⟩ : Sp))) then _ else _
         cases r10_empty_g s.Rows[j] <;> cases eqV encSp s.Rows[j] (⟨0, 0⟩ : Sp) <;> rfl) (by
         unfold r10_Check_s2
         rw [nlt_nat]
         rfl)
        rw [e0] at hloop2
        rw [hloop2, bind_some']
        cases (List.range s.Rows.length).all (fun j => (s.Rows[j]?).elim true fun e => !(r10_empty_g e && !(eqV encSp e (⟨0, 0⟩ : Sp)))) with
        | false => exact ⟨19, rfl, fun h => by omega⟩
        | true => exact ⟨0, rfl, fun _ => hok⟩
def slen (l : List TSlice) : Int := (l.map fun e => e.Len).sum
theorem slen_take {l : List TSlice} {j : Nat} (hj : j < l.length) : slen (l.take (j + 1)) = slen (l.take j) + l[j].Len := by
 unfold slen
 rw [List.take_succ_eq_append_getElem hj, List.map_append, List.sum_append]
 simp
structure SolOk (l : List TSlice) : Prop where
 len : l.length ≤ 24
 sec : ∀ e ∈ l, SecOk e.Sec ∧ 1 ≤ e.Len ∧ r10_Check_g e.Sec = some 0
 tot : slen l ≤ 20000
theorem solid_total (l : List TSlice) (hl : ∀ e ∈ l, I64 e.Sec.Low ∧ I64 e.Len) : ∃ c, r11_Check_g l = some c ∧ (c = 0 → SolOk l) := by
 unfold r11_Check_g
 by_cases h0 : l.length = 0
 ·rw [show ((((l.length : Nat) : Int)) == 0) = true by simp [h0]]
  exact ⟨3, rfl, fun h => by omega⟩
 ·rw [show ((((l.length : Nat) : Int)) == 0) = false by simp; intro h; simp [h] at h0, cond_false]
  by_cases h1 : 24 < l.length
  ·rw [decide_eq_true (by omega)]
   exact ⟨4, rfl, fun h => by omega⟩
  ·rw [decide_eq_false (by omega), cond_false]
   obtain ⟨y, hy, hG⟩ := loopO_inv (step := fun q : Int × Int => r11_Check_s1 l q.1 q.2) (fun q => ∃ j : Nat, j ≤ l.length ∧ q = (slen (l.take j), (j : Int)) ∧ 0 ≤ slen (l.take j) ∧ slen (l.take j) ≤ 20000 ∧ ∀ e ∈ l.take j, SecOk e.Sec ∧ 1 ≤ e.Len ∧ r10_Check_g e.Sec = some 0) (fun q => l.length - q.2.toNat) (fun y => (∃ c, y = .inl c ∧ c ≠ 0) ∨ (y = .inr () ∧ SolOk l)) (by
    rintro q ⟨j, hj, rfl, hs0, hs, ha⟩
    unfold r11_Check_s1
    dsimp only
    rcases Nat.lt_or_ge j l.length with hlt | hge
    ·have hI := hl _ (List.getElem_mem hlt)
     have hI2 := hI.2
     unfold I64 at hI2
     obtain ⟨c, hc, hc0⟩ := section_total l[j].Sec hI.1
     rw [lt_nat hlt, cond_true, getI_at hlt]
     simp only [bind_some']
     rw [hc, bind_some']
     by_cases h2 : c = 0
     ·subst h2
      rw [show ((0 : Int) != 0) = false from rfl, cond_false]
      cases ((l[j].Sec.Rows.length : Int) == 0) with
      | true => exact .inr ⟨_, rfl, .inl ⟨_, rfl, by omega⟩⟩
      | false =>
       rw [cond_false]
       by_cases h3 : l[j].Len < 1
       ·rw [decide_eq_true h3]
        exact .inr ⟨_, rfl, .inl ⟨_, rfl, by omega⟩⟩
       ·rw [decide_eq_false h3, cond_false, W64_eq (n := 20000 - _) (by omega) (by omega)]
        by_cases h4 : 20000 - slen (l.take j) < l[j].Len
        ·rw [decide_eq_true h4]
         exact .inr ⟨_, rfl, .inl ⟨_, rfl, by omega⟩⟩
        ·rw [decide_eq_false h4, cond_false, W64_eq (n := slen _ + _) (by omega) (by omega), W64_succ (by omega)]
         refine .inl ⟨_, rfl, ⟨j + 1, by omega, by rw [slen_take hlt], by rw [slen_take hlt]; omega, by rw [slen_take hlt]; omega, ?_⟩, ?_⟩
         ·intro e he
          rw [List.take_succ_eq_append_getElem hlt] at he
          rcases List.mem_append.1 he with he | he
          ·exact ha e he
          ·rw [List.mem_singleton] at he
           subst he
           exact ⟨hc0 rfl, by omega, hc⟩
         ·show l.length - (((j + 1 : Nat) : Int)).toNat < l.length - ((j : Int)).toNat
          omega
     ·rw [show ((c : Int) != 0) = true by simp [h2], cond_true]
      exact .inr ⟨_, rfl, .inl ⟨_, rfl, h2⟩⟩
    ·have : j = l.length := by omega
     subst this
     rw [nlt_nat, cond_false]
     rw [List.take_length] at hs ha
     exact .inr ⟨_, rfl, .inr ⟨rfl, ⟨by omega, ha, hs⟩⟩⟩) (0, 0) ⟨0, by omega, rfl, by simp [slen], by simp [slen], by simp⟩
   rw [hy, bind_some']
   rcases hG with ⟨c, rfl, hc⟩ | ⟨rfl, hok⟩
   ·exact ⟨c, rfl, fun h => absurd h hc⟩
   ·exact ⟨0, rfl, fun _ => hok⟩
def cm (a b : Sp) : Int := max 0 (min a.b b.b - max a.a b.a)
theorem cm_nonneg (a b : Sp) : 0 ≤ cm a b := by unfold cm; omega
theorem cm_le_right {a b : Sp} (h : b.a ≤ b.b) : cm a b ≤ b.b - b.a := by unfold cm; omega
theorem cm_le {a b : Sp} {m : Int} (h0 : 0 ≤ m) (h : a.b - a.a ≤ m) : cm a b ≤ m := by unfold cm; omega
theorem WU64_def (n : Int) : WU64 n = n % 18446744073709551616 := by
 unfold WU64
 rw [wu64]
theorem span_len_meet {a b : Sp} (h : -1000000 ≤ a.a ∧ a.a ≤ 1000000 ∧ -1000000 ≤ a.b ∧ a.b ≤ 1000000) : span_Len_g (span_Meet_g a b) = cm a b := by
 unfold span_Meet_g cm
 by_cases h2 : min a.b b.b ≤ max a.a b.a
 ·rw [decide_eq_true h2, cond_true, show span_Len_g (⟨0, 0⟩ : Sp) = 0 from rfl]
  omega
 ·rw [decide_eq_false h2, cond_false]
  unfold span_Len_g span_limited_g span_size_g
  dsimp only
  rw [decide_eq_false (by omega), cond_false, WU64_def, WU64_def, WU64_def, W64_eq (by omega) (by omega)]
  omega
def hts (n : Int) : Sp := ⟨10 * n, 10 * (n + 1)⟩
def wsum (X Y : Sp) : List Sp → Int → Int
 | [], _ => 0
 | e :: es, low => cm e X * cm (hts low) Y + wsum X Y es (low + 1)
theorem wsum_snoc (X Y : Sp) : ∀ (es : List Sp) (e : Sp) (low : Int), wsum X Y (es ++ [e]) low = wsum X Y es low + cm e X * cm (hts (low + es.length)) Y
 | [], e, low => by simp [wsum]
 | f :: es, e, low => by
  show cm f X * cm (hts low) Y + wsum X Y (es ++ [e]) (low + 1) = cm f X * cm (hts low) Y + wsum X Y es (low + 1) + _
  rw [wsum_snoc X Y es e (low + 1), List.length_cons, show low + 1 + ((es.length : Nat) : Int) = low + ((es.length + 1 : Nat) : Int) by omega]
  omega
theorem wsum_nonneg (X Y : Sp) : ∀ (es : List Sp) (low : Int), 0 ≤ wsum X Y es low
 | [], low => by simp [wsum]
 | f :: es, low => by
  have h1 := Int.mul_nonneg (cm_nonneg f X) (cm_nonneg (hts low) Y)
  have h2 := wsum_nonneg X Y es (low + 1)
  show 0 ≤ cm f X * cm (hts low) Y + wsum X Y es (low + 1)
  omega
theorem wsum_big (X Y : Sp) : ∀ (es : List Sp) (low : Int), (∀ e ∈ es, -600 ≤ e.a ∧ e.a ≤ 600 ∧ -600 ≤ e.b ∧ e.b ≤ 600) → wsum X Y es low ≤ 12000 * es.length
 | [], low, _ => by simp [wsum]
 | f :: es, low, h => by
  have hf := h f (List.mem_cons_self ..)
  have h1 : cm f X ≤ 1200 := cm_le (by omega) (by omega)
  have h3 : cm (hts low) Y ≤ 10 := cm_le (by omega) (by show 10 * (low + 1) - 10 * low ≤ 10; omega)
  have h4 := Int.mul_le_mul h1 h3 (cm_nonneg _ _) (by omega)
  have h2 := wsum_big X Y es (low + 1) fun e he => h e (List.mem_cons_of_mem _ he)
  show cm f X * cm (hts low) Y + wsum X Y es (low + 1) ≤ _
  rw [List.length_cons]
  omega
theorem wsum_area {X Y : Sp} (hX : X.a ≤ X.b) : ∀ (es : List Sp) (low : Int), wsum X Y es low ≤ (X.b - X.a) * cm ⟨10 * low, 10 * (low + es.length)⟩ Y
 | [], low => Int.mul_nonneg (by omega) (cm_nonneg _ _)
 | f :: es, low => by
  have h2 := wsum_area hX es (low + 1) (Y := Y)
  have h1 : cm f X * cm (hts low) Y ≤ (X.b - X.a) * cm (hts low) Y := Int.mul_le_mul_of_nonneg_right (cm_le_right hX) (cm_nonneg _ _)
  have h3 : cm ⟨10 * low, 10 * (low + ((es.length + 1 : Nat) : Int))⟩ Y = cm (hts low) Y + cm ⟨10 * (low + 1), 10 * (low + 1 + es.length)⟩ Y := by
   unfold cm hts
   dsimp only
   omega
  show cm f X * cm (hts low) Y + wsum X Y es (low + 1) ≤ _
  rw [List.length_cons, h3, Int.mul_add]
  omega
theorem within_eq {s : TSection} (h : SecOk s) (hc : r10_Check_g s = some 0) (vr : TRect) : section_Within_g s vr = some (wsum vr.X vr.Y s.Rows s.Low) := by
 have hl := h.len
 have hw := h.low
 unfold section_Within_g section_valid_g
 rw [section_check_eq, hc, bind_some', show ((0 : Int) != 0) = false from rfl, cond_false, bind_some']
 have := loopO_upto (step := fun q : Int × Int => section_Within_s1 vr s q.1 q.2) (fun j => (wsum vr.X vr.Y (s.Rows.take j) s.Low, (j : Int))) s.Rows.length (y := wsum vr.X vr.Y s.Rows s.Low) (fun j hj => ?_) (by
  unfold section_Within_s1
  dsimp only
  rw [nlt_nat, List.take_length]
  rfl)
 ·rw [show (wsum vr.X vr.Y (s.Rows.take 0) s.Low, ((0 : Nat) : Int)) = ((0 : Int), (0 : Int)) from rfl] at this
  rw [this]
  rfl
 ·have hr := h.rng _ (List.getElem_mem hj)
  have hp := wsum_big vr.X vr.Y (s.Rows.take j) s.Low fun e he => h.rng e (List.mem_of_mem_take he)
  have hq := wsum_nonneg vr.X vr.Y (s.Rows.take j) s.Low
  rw [List.length_take] at hp
  unfold section_Within_s1
  dsimp only
  rw [lt_nat hj, cond_true, getI_at hj, bind_some', letB_eq, letB_eq, letB_eq, W64_eq (n := s.Low + _) (by omega) (by omega)]
  have eh : section_heights_g (s.Low + j) (W64 (s.Low + j + 1)) = hts (s.Low + j) := by
   unfold section_heights_g hts
   rw [W64_eq (n := s.Low + j + 1) (by omega) (by omega), W64_eq (by omega) (by omega), W64_eq (by omega) (by omega)]
  rw [eh, span_len_meet (by omega), span_len_meet (by unfold hts; dsimp only; omega)]
  have h1 : cm s.Rows[j] vr.X ≤ 1200 := cm_le (by omega) (by omega)
  have h3 : cm (hts (s.Low + j)) vr.Y ≤ 10 := cm_le (by omega) (by unfold hts; dsimp only; omega)
  have h4 := Int.mul_le_mul h1 h3 (cm_nonneg _ _) (by omega)
  have h5 := Int.mul_nonneg (cm_nonneg s.Rows[j] vr.X) (cm_nonneg (hts (s.Low + j)) vr.Y)
  rw [W64_eq (n := cm _ _ * _) (by omega) (by omega), W64_eq (n := wsum _ _ _ _ + _) (by omega) (by omega), W64_succ (by omega), List.take_succ_eq_append_getElem hj, wsum_snoc, List.length_take, show min j s.Rows.length = j by omega]
theorem isRect_eq (vr : TRect) : worth_isRect_g vr = some (r20_across_g vr.X && r20_across_g vr.Y) := by
 unfold worth_isRect_g
 have hs : ∀ (e : Sp) (x : Option (Int ⊕ (Bool ⊕ Unit))), (bif (decide (e.a < (-600))) then some (Sum.inr (Sum.inl false)) else (bif (decide (600 < e.b)) then some (Sum.inr (Sum.inl false)) else (bif (decide (e.b ≤ e.a)) then some (Sum.inr (Sum.inl false)) else x))) = bif r20_across_g e then x else some (Sum.inr (Sum.inl false)) := by
  intro e x
  unfold r20_across_g
  rw [lt_not e.a (-600), lt_not 600 e.b, bnot_le e.b e.a]
  cases decide (-600 ≤ e.a) <;> cases decide (e.b ≤ 600) <;> cases decide (e.a < e.b) <;> rfl
 have h0 : worth_isRect_s1 vr 0 = bif r20_across_g vr.X then some (.inl 1) else some (.inr (.inl false)) := hs vr.X _
 have h1 : worth_isRect_s1 vr 1 = bif r20_across_g vr.Y then some (.inl 2) else some (.inr (.inl false)) := hs vr.Y _
 cases hX : r20_across_g vr.X with
 | false =>
  rw [hX] at h0
  rw [loopO_done h0]
  rfl
 | true =>
  rw [hX] at h0
  rw [loopO_next h0]
  cases hY : r20_across_g vr.Y with
  | false =>
   rw [hY] at h1
   rw [loopO_done h1]
   rfl
  | true =>
   rw [hY] at h1
   rw [loopO_next h1, loopO_done (y := .inr ()) rfl]
   rfl
theorem across_t {s : Sp} (h : r20_across_g s = true) : -600 ≤ s.a ∧ s.a < s.b ∧ s.b ≤ 600 := by
 unfold r20_across_g at h
 by_cases h1 : -600 ≤ s.a
 ·rw [decide_eq_true h1, cond_true] at h
  by_cases h2 : s.a < s.b
  ·rw [decide_eq_true h2, cond_true, decide_eq_true_eq] at h
   exact ⟨h1, h2, h⟩
  ·rw [decide_eq_false h2] at h
   exact absurd h (by simp)
 ·rw [decide_eq_false h1] at h
  exact absurd h (by simp)
theorem slen_loop {l : List TSlice} (h : SolOk l) : loopO (fun q : Int × Int => r11_Length_s1 l q.1 q.2) (0, 0) = some (slen l) := by
 have hl := h.len
 have hb : ∀ j, j ≤ l.length → 0 ≤ slen (l.take j) ∧ slen (l.take j) ≤ slen l := by
  have hnn : ∀ (m : List TSlice), (∀ e ∈ m, e ∈ l) → 0 ≤ slen m := by
   intro m
   induction m with
   | nil => intro _; simp [slen]
   | cons a m ih =>
    intro hm
    have h1 := (h.sec a (hm a (List.mem_cons_self ..))).2.1
    have h2 := ih fun e he => hm e (List.mem_cons_of_mem _ he)
    unfold slen at h2 ⊢
    rw [List.map_cons, List.sum_cons]
    omega
  intro j hj
  have h1 := hnn (l.take j) fun e he => List.mem_of_mem_take he
  have h2 := hnn (l.drop j) fun e he => List.mem_of_mem_drop he
  have h3 : slen l = slen (l.take j) + slen (l.drop j) := by
   unfold slen
   rw [← List.sum_append, ← List.map_append, List.take_append_drop]
  omega
 have htot := h.tot
 have := loopO_upto (step := fun q : Int × Int => r11_Length_s1 l q.1 q.2) (fun j => (slen (l.take j), (j : Int))) l.length (y := slen l) (fun j hj => by
  have h1 := hb j (by omega)
  have h2 := hb (j + 1) (by omega)
  have h3 := slen_take hj
  unfold r11_Length_s1
  dsimp only
  rw [lt_nat hj, cond_true, getI_at hj, bind_some', W64_eq (by omega) (by omega), W64_succ (by omega), h3]) (by
  unfold r11_Length_s1
  dsimp only
  rw [nlt_nat, List.take_length]
  rfl)
 exact this
theorem length_eq {l : List TSlice} (h : SolOk l) (hc : r11_Check_g l = some 0) : r11_Length_g l = some (slen l) := by
 unfold r11_Length_g
 rw [hc, bind_some', show ((0 : Int) != 0) = false from rfl, cond_false, slen_loop h]
 rfl
def area (X Y : Sp) : Int := (X.b - X.a) * (Y.b - Y.a)
def lk (X Y : Sp) (s : TSection) : Int := Int.tdiv (1000 * (area X Y - wsum X Y s.Rows s.Low) + area X Y - 1) (area X Y)
structure RectOk (X Y : Sp) : Prop where
 x : -600 ≤ X.a ∧ X.a < X.b ∧ X.b ≤ 600
 y : -600 ≤ Y.a ∧ Y.a < Y.b ∧ Y.b ≤ 600
theorem area_bd {X Y : Sp} (h : RectOk X Y) : 1 ≤ area X Y ∧ area X Y ≤ 1440000 := by
 have hx := h.x
 have hy := h.y
 unfold area
 have h1 := Int.mul_le_mul (a := X.b - X.a) (c := 1200) (b := Y.b - Y.a) (d := 1200) (by omega) (by omega) (by omega) (by omega)
 have h2 := Int.mul_le_mul (a := 1) (c := X.b - X.a) (b := 1) (d := Y.b - Y.a) (by omega) (by omega) (by omega) (by omega)
 omega
theorem wsum_bd {X Y : Sp} (h : RectOk X Y) (s : TSection) : 0 ≤ wsum X Y s.Rows s.Low ∧ wsum X Y s.Rows s.Low ≤ area X Y := by
 have hx := h.x
 have hy := h.y
 have h1 := wsum_area (X := X) (Y := Y) (by omega) s.Rows s.Low
 have h2 : cm ⟨10 * s.Low, 10 * (s.Low + s.Rows.length)⟩ Y ≤ Y.b - Y.a := cm_le_right (by omega)
 have h3 := Int.mul_le_mul_of_nonneg_left h2 (show 0 ≤ X.b - X.a by omega)
 refine ⟨wsum_nonneg .., ?_⟩
 unfold area
 omega
theorem lk_bd {X Y : Sp} (h : RectOk X Y) (s : TSection) : 0 ≤ lk X Y s ∧ lk X Y s ≤ 1000 := by
 have h1 := area_bd h
 have h2 := wsum_bd h s
 unfold lk
 generalize area X Y = A at *
 generalize wsum X Y s.Rows s.Low = w at *
 rw [Int.tdiv_eq_ediv_of_nonneg (by omega)]
 constructor
 ·exact Int.ediv_nonneg (by omega) (by omega)
 ·have : (1000 * (A - w) + A - 1) / A < 1001 := Int.ediv_lt_of_lt_mul (by omega) (by omega)
  omega
theorem lack_eq {X Y : Sp} (h : RectOk X Y) (s : TSection) : W64 (Int.tdiv (W64 ((W64 ((W64 (1000 * (W64 ((W64 ((W64 (X.b - X.a)) * (W64 (Y.b - Y.a)))) - (wsum X Y s.Rows s.Low))))) + (W64 ((W64 (X.b - X.a)) * (W64 (Y.b - Y.a)))))) - 1)) (W64 ((W64 (X.b - X.a)) * (W64 (Y.b - Y.a))))) = lk X Y s := by
 have hx := h.x
 have hy := h.y
 have h1 := area_bd h
 have h2 := wsum_bd h s
 have h3 := lk_bd h s
 rw [W64_eq (n := X.b - X.a) (by omega) (by omega), W64_eq (n := Y.b - Y.a) (by omega) (by omega)]
 rw [show (X.b - X.a) * (Y.b - Y.a) = area X Y from rfl]
 rw [W64_eq (n := area X Y) (by omega) (by omega), W64_eq (n := area X Y - _) (by omega) (by omega), W64_eq (n := 1000 * _) (by omega) (by omega), W64_eq (n := _ + area X Y) (by omega) (by omega), W64_eq (n := _ - 1) (by omega) (by omega)]
 exact W64_eq (by unfold lk at h3; omega) (by unfold lk at h3; omega)
def wn (X Y z : Sp) : List TSlice → Int → Int → Int
 | [], _, m => m
 | e :: es, a, m => wn X Y z es (a + e.Len) (if a < z.b ∧ z.a < a + e.Len then max m (lk X Y e.Sec) else m)
theorem wn_bd {X Y z : Sp} (h : RectOk X Y) : ∀ (l : List TSlice) (a m : Int), 0 ≤ m ∧ m ≤ 1000 → 0 ≤ wn X Y z l a m ∧ wn X Y z l a m ≤ 1000
 | [], _, m, hm => hm
 | e :: es, a, m, hm => by
  have h1 := lk_bd h e.Sec
  exact wn_bd h es _ _ (by split <;> omega)
def zns (X Y : Sp) : List TSlice → Int → List Tworth_zone
 | [], _ => []
 | e :: es, a => ⟨⟨a, a + e.Len⟩, lk X Y e.Sec⟩ :: zns X Y es (a + e.Len)
theorem slen_cons (e : TSlice) (l : List TSlice) : slen (e :: l) = e.Len + slen l := by simp [slen]
theorem zns_snoc (X Y : Sp) : ∀ (l : List TSlice) (e : TSlice) (a : Int), zns X Y (l ++ [e]) a = zns X Y l a ++ [⟨⟨a + slen l, a + slen l + e.Len⟩, lk X Y e.Sec⟩]
 | [], e, a => by simp [zns, slen]
 | f :: l, e, a => by
  show _ :: zns X Y (l ++ [e]) (a + f.Len) = _ :: _
  rw [zns_snoc X Y l e (a + f.Len), slen_cons, show a + f.Len + slen l = a + (f.Len + slen l) by omega]
  rfl
theorem zns_len (X Y : Sp) : ∀ (l : List TSlice) (a : Int), (zns X Y l a).length = l.length
 | [], a => rfl
 | f :: l, a => by
  show (zns X Y l (a + f.Len)).length + 1 = l.length + 1
  rw [zns_len X Y l]
def wz (z : Sp) (m : Int) (e : Tworth_zone) : Int := if e.z_.a < z.b ∧ z.a < e.z_.b then max m e.lack else m
theorem wz_fold (X Y z : Sp) : ∀ (l : List TSlice) (a m : Int), (zns X Y l a).foldl (wz z) m = wn X Y z l a m
 | [], a, m => rfl
 | f :: l, a, m => wz_fold X Y z l (a + f.Len) _
theorem slen_bd {l : List TSlice} (h : SolOk l) : ∀ j, j ≤ l.length → 0 ≤ slen (l.take j) ∧ slen (l.take j) ≤ slen l := by
 have hnn : ∀ (m : List TSlice), (∀ e ∈ m, e ∈ l) → 0 ≤ slen m := by
  intro m
  induction m with
  | nil => intro _; simp [slen]
  | cons a m ih =>
   intro hm
   have h1 := (h.sec a (hm a (List.mem_cons_self ..))).2.1
   have h2 := ih fun e he => hm e (List.mem_cons_of_mem _ he)
   rw [slen_cons]
   omega
 intro j hj
 have h1 := hnn (l.take j) fun e he => List.mem_of_mem_take he
 have h2 := hnn (l.drop j) fun e he => List.mem_of_mem_drop he
 have h3 : slen l = slen (l.take j) + slen (l.drop j) := by
  unfold slen
  rw [← List.sum_append, ← List.map_append, List.take_append_drop]
 omega
theorem lacks_eq {l : List TSlice} (h : SolOk l) {vr : TRect} (hr : RectOk vr.X vr.Y) : worth_lacks_g l vr = some (zns vr.X vr.Y l 0) := by
 have hl := h.len
 have htot := h.tot
 have hx := hr.x
 have hy := hr.y
 have ha := area_bd hr
 unfold worth_lacks_g
 have := loopO_upto (step := fun q : List Tworth_zone × Int × Int => worth_lacks_s1 l vr q.1 q.2.1 q.2.2) (fun j => (zns vr.X vr.Y (l.take j) 0, slen (l.take j), (j : Int))) l.length (y := zns vr.X vr.Y l 0) (fun j hj => by
  have h1 := slen_bd h j (by omega)
  have h2 := slen_bd h (j + 1) (by omega)
  have h3 := slen_take hj
  have hs := h.sec _ (List.getElem_mem hj)
  unfold worth_lacks_s1
  dsimp only
  rw [lt_nat hj, cond_true, getI_at hj, bind_some', within_eq hs.1 hs.2.2, bind_some', lack_eq hr]
  rw [W64_eq (n := vr.X.b - vr.X.a) (by omega) (by omega), W64_eq (n := vr.Y.b - vr.Y.a) (by omega) (by omega), show (vr.X.b - vr.X.a) * (vr.Y.b - vr.Y.a) = area vr.X vr.Y from rfl, W64_eq (n := area _ _) (by omega) (by omega), ne_t (by omega), cond_true]
  rw [appO_eq (by rw [zns_len, List.length_take]; simp; omega) (by rw [zns_len, List.length_take]; simp; omega), bind_some', W64_eq (by omega) (by omega), W64_succ (by omega), h3, List.take_succ_eq_append_getElem hj, zns_snoc, Int.zero_add]) (by
  unfold worth_lacks_s1
  dsimp only
  rw [nlt_nat, List.take_length]
  rfl)
 rw [show (zns vr.X vr.Y (l.take 0) 0, slen (l.take 0), ((0 : Nat) : Int)) = (([] : List Tworth_zone), (0 : Int), (0 : Int)) from rfl] at this
 rw [this]
 rfl
theorem worst_eq {l : List Tworth_zone} (hl : l.length ≤ 1000) (z : Sp) : worth_worst_g l z = some (l.foldl (wz z) 0) := by
 unfold worth_worst_g
 have := loopO_fold (step := fun q : Int × Int => worth_worst_s1 l z q.1 q.2) l (wz z) 0 (fun m j => (m, (j : Int))) (fun m => m) (fun m j hj => by
  unfold worth_worst_s1 wz
  dsimp only
  rw [lt_nat hj, cond_true, getI_at hj, bind_some', W64_succ (by omega)]
  by_cases h1 : l[j].z_.a < z.b
  ·rw [decide_eq_true h1, cond_true]
   by_cases h2 : z.a < l[j].z_.b
   ·rw [decide_eq_true h2, cond_true, if_pos ⟨h1, h2⟩]
   ·rw [decide_eq_false h2, cond_false, if_neg (by omega)]
  ·rw [decide_eq_false h1, cond_false, if_neg (by omega)]) (fun m => by
  unfold worth_worst_s1
  dsimp only
  rw [nlt_nat]
  rfl)
 rw [show (((0 : Int)), ((0 : Nat) : Int)) = ((0 : Int), (0 : Int)) from rfl] at this
 rw [this]
 rfl
def wthin (z : Sp) (n : Int) : Bool := decide (0 ≤ z.a) && (decide (z.a < z.b) && decide (z.b ≤ n))
theorem isWithin_eq (z : Sp) (n : Int) : worth_isWithin_g z n = wthin z n := by
 unfold worth_isWithin_g wthin
 cases decide (0 ≤ z.a) <;> cases decide (z.a < z.b) <;> rfl
theorem wthin_t {z : Sp} {n : Int} (h : wthin z n = true) : 0 ≤ z.a ∧ z.a < z.b ∧ z.b ≤ n := by
 unfold wthin at h
 simp only [Bool.and_eq_true, decide_eq_true_eq] at h
 exact h
abbrev LowOk (l : List TSlice) : Prop := ∀ e ∈ l, I64 e.Sec.Low ∧ I64 e.Len
theorem lowOk_of {l : List TSlice} (h : ∀ e ∈ l, e.ok) : LowOk l := fun e he => by
 have := h e he
 exact ⟨this.2.1, this.1⟩
def exts : List TSlice → Int → List Sp
 | [], _ => []
 | e :: es, a => ⟨a, a + e.Len⟩ :: exts es (a + e.Len)
theorem exts_len : ∀ (l : List TSlice) (a : Int), (exts l a).length = l.length
 | [], _ => rfl
 | e :: es, a => by
  show (exts es (a + e.Len)).length + 1 = es.length + 1
  rw [exts_len es]
theorem exts_snoc : ∀ (l : List TSlice) (e : TSlice) (a : Int), exts (l ++ [e]) a = exts l a ++ [⟨a + slen l, a + slen l + e.Len⟩]
 | [], e, a => by simp [exts, slen]
 | f :: l, e, a => by
  show _ :: exts (l ++ [e]) (a + f.Len) = _ :: (exts l (a + f.Len) ++ _)
  rw [exts_snoc l e, slen_cons, show a + f.Len + slen l = a + (f.Len + slen l) by omega]
theorem exts_get : ∀ (l : List TSlice) (a : Int) (j : Nat) (hj : j < l.length), (exts l a)[j]? = some ⟨a + slen (l.take j), a + slen (l.take j) + l[j].Len⟩
 | [], a, j, hj => by simp at hj
 | f :: l, a, 0, hj => by simp [exts, slen]
 | f :: l, a, j + 1, hj => by
  show (exts l (a + f.Len))[j]? = _
  have hj' : j < l.length := by simpa using hj
  rw [exts_get l _ j hj', List.take_succ_cons, slen_cons, List.getElem_cons_succ, show a + f.Len + slen (l.take j) = a + (f.Len + slen (l.take j)) by omega]
theorem set_mid {α : Type} (A : List α) (n : Nat) (z v : α) : (A ++ List.replicate (n + 1) z).set A.length v = A ++ [v] ++ List.replicate n z := by
 rw [List.set_append_right _ _ (Nat.le_refl _)]
 simp [List.replicate_succ]
theorem extents_eq {l : List TSlice} (h : SolOk l) : solid_extents_g l = some (exts l 0) := by
 have hl := h.len
 have htot := h.tot
 unfold solid_extents_g
 have hm : mkO 16 (⟨0, 0⟩ : Sp) ((l.length : Nat) : Int) = some (List.replicate l.length ⟨0, 0⟩) := by
  unfold mkO
  rw [decide_eq_true (by omega), decide_eq_true (by omega), decide_eq_true (by omega)]
  rfl
 rw [hm, bind_some']
 have := loopO_upto (step := fun q : Int × Int × List Sp => solid_extents_s1 l q.1 q.2.1 q.2.2) (fun j => (slen (l.take j), (j : Int), exts (l.take j) 0 ++ List.replicate (l.length - j) ⟨0, 0⟩)) l.length (y := exts l 0) (fun j hj => by
  have h1 := slen_bd h j (by omega)
  have h2 := slen_bd h (j + 1) (by omega)
  have h3 := slen_take hj
  have hlen : (exts (l.take j) 0).length = j := by rw [exts_len, List.length_take]; omega
  unfold solid_extents_s1
  dsimp only
  have hg : getI (exts (l.take j) 0 ++ List.replicate (l.length - j) (⟨0, 0⟩ : Sp)) (j : Int) = some ⟨0, 0⟩ := by
   rw [getI_nat, List.getElem?_append_right (by omega), hlen, Nat.sub_self, List.getElem?_replicate]
   simp; omega
  rw [lt_nat hj, cond_true, getI_at hj, bind_some', hg, bind_some', W64_eq (by omega) (by omega), W64_succ (by omega), h3]
  have hset : setI (exts (l.take j) 0 ++ List.replicate (l.length - j) (⟨0, 0⟩ : Sp)) (j : Int) (⟨slen (l.take j), slen (l.take j) + l[j].Len⟩ : Sp) = exts (l.take (j + 1)) 0 ++ List.replicate (l.length - (j + 1)) (⟨0, 0⟩ : Sp) := by
   rw [List.take_succ_eq_append_getElem hj, exts_snoc, Int.zero_add]
   have := set_mid (exts (l.take j) 0) (l.length - (j + 1)) (⟨0, 0⟩ : Sp) ⟨slen (l.take j), slen (l.take j) + l[j].Len⟩
   rw [hlen, show l.length - (j + 1) + 1 = l.length - j by omega] at this
   exact this
  rw [hset]) (by
  unfold solid_extents_s1
  dsimp only
  rw [nlt_nat, List.take_length, Nat.sub_self]
  simp)
 rw [show (slen (l.take 0), ((0 : Nat) : Int), exts (l.take 0) 0 ++ List.replicate (l.length - 0) (⟨0, 0⟩ : Sp)) = ((0 : Int), (0 : Int), List.replicate l.length (⟨0, 0⟩ : Sp)) from rfl] at this
 rw [this]
 rfl
def vol (X Y z : Sp) : List TSlice → Int → Int
 | [], _ => 0
 | e :: es, a => cm ⟨a, a + e.Len⟩ z * wsum X Y e.Sec.Rows e.Sec.Low + vol X Y z es (a + e.Len)
def lc (X Y z : Sp) : List TSlice → Int → Int
 | [], _ => 0
 | e :: es, a => cm ⟨a, a + e.Len⟩ z * (area X Y - wsum X Y e.Sec.Rows e.Sec.Low) + lc X Y z es (a + e.Len)
def lz (z : Sp) : List TSlice → Int → Int
 | [], _ => 0
 | e :: es, a => cm ⟨a, a + e.Len⟩ z + lz z es (a + e.Len)
theorem vol_snoc (X Y z : Sp) : ∀ (l : List TSlice) (e : TSlice) (a : Int), vol X Y z (l ++ [e]) a = vol X Y z l a + cm ⟨a + slen l, a + slen l + e.Len⟩ z * wsum X Y e.Sec.Rows e.Sec.Low
 | [], e, a => by simp [vol, slen]
 | f :: l, e, a => by
  show _ + vol X Y z (l ++ [e]) (a + f.Len) = _ + vol X Y z l (a + f.Len) + _
  rw [vol_snoc X Y z l e, slen_cons, show a + f.Len + slen l = a + (f.Len + slen l) by omega]
  omega
theorem vol_lc (X Y z : Sp) : ∀ (l : List TSlice) (a : Int), vol X Y z l a + lc X Y z l a = area X Y * lz z l a
 | [], a => by simp [vol, lc, lz]
 | f :: l, a => by
  have ih := vol_lc X Y z l (a + f.Len)
  show cm ⟨a, a + f.Len⟩ z * wsum X Y f.Sec.Rows f.Sec.Low + vol X Y z l (a + f.Len) + (cm ⟨a, a + f.Len⟩ z * (area X Y - wsum X Y f.Sec.Rows f.Sec.Low) + lc X Y z l (a + f.Len)) = area X Y * (cm ⟨a, a + f.Len⟩ z + lz z l (a + f.Len))
  rw [Int.mul_sub, Int.mul_add, Int.mul_comm (area X Y) (cm _ _)]
  omega
theorem lz_eq {z : Sp} (hz : z.a < z.b) : ∀ (l : List TSlice) (a : Int), (∀ e ∈ l, 1 ≤ e.Len) → lz z l a = cm ⟨a, a + slen l⟩ z ∧ 0 ≤ slen l
 | [], a, _ => by
  unfold lz slen cm
  simp
  omega
 | f :: l, a, h => by
  have hf := h f (List.mem_cons_self ..)
  have ih := lz_eq hz l (a + f.Len) fun e he => h e (List.mem_cons_of_mem _ he)
  show cm ⟨a, a + f.Len⟩ z + lz z l (a + f.Len) = _ ∧ _
  rw [ih.1, slen_cons]
  unfold cm
  dsimp only
  omega
theorem vol_bd {X Y z : Sp} : ∀ (l : List TSlice) (a : Int), (∀ e ∈ l, SecOk e.Sec ∧ 1 ≤ e.Len ∧ e.Len ≤ 20000) → 0 ≤ vol X Y z l a ∧ vol X Y z l a ≤ 28800000000 * l.length
 | [], a, _ => by simp [vol]
 | f :: l, a, h => by
  have hf := h f (List.mem_cons_self ..)
  have ih := vol_bd l (a + f.Len) (fun e he => h e (List.mem_cons_of_mem _ he)) (X := X) (Y := Y) (z := z)
  have h1 : cm ⟨a, a + f.Len⟩ z ≤ 20000 := cm_le (by omega) (by show a + f.Len - a ≤ 20000; omega)
  have h2 := wsum_big X Y f.Sec.Rows f.Sec.Low hf.1.rng
  have h3 := wsum_nonneg X Y f.Sec.Rows f.Sec.Low
  have hlen := hf.1.len
  have h4 := Int.mul_le_mul h1 (show wsum X Y f.Sec.Rows f.Sec.Low ≤ 1440000 by omega) h3 (by omega)
  have h5 := Int.mul_nonneg (cm_nonneg ⟨a, a + f.Len⟩ z) h3
  show 0 ≤ _ + vol X Y z l (a + f.Len) ∧ _ + vol X Y z l (a + f.Len) ≤ _
  rw [List.length_cons]
  omega
theorem len_le {l : List TSlice} (h : SolOk l) : ∀ e ∈ l, SecOk e.Sec ∧ 1 ≤ e.Len ∧ e.Len ≤ 20000 := by
 intro e he
 have h1 := h.sec e he
 obtain ⟨j, hj, rfl⟩ := List.getElem_of_mem he
 have h2 := slen_bd h j (by omega)
 have h3 := slen_bd h (j + 1) (by omega)
 have h4 := slen_take hj
 have := h.tot
 exact ⟨h1.1, h1.2.1, by omega⟩
theorem solidWithin_eq {l : List TSlice} (h : SolOk l) (hc : r11_Check_g l = some 0) (b : Bx) : solid_Within_g l b = some (vol b.x b.y b.z l 0) := by
 have hl := h.len
 have htot := h.tot
 unfold solid_Within_g solid_valid_g
 rw [solid_check_eq, hc, bind_some', show ((0 : Int) != 0) = false from rfl, cond_false, bind_some', extents_eq h, bind_some']
 have := loopO_upto (step := fun q : Int × Int => solid_Within_s1 b l (exts l 0) q.1 q.2) (fun j => (vol b.x b.y b.z (l.take j) 0, (j : Int))) l.length (y := vol b.x b.y b.z l 0) (fun j hj => by
  have h1 := slen_bd h j (by omega)
  have h2 := slen_bd h (j + 1) (by omega)
  have h3 := slen_take hj
  have hs := h.sec _ (List.getElem_mem hj)
  have hb := vol_bd (X := b.x) (Y := b.y) (z := b.z) (l.take j) 0 fun e he => len_le h e (List.mem_of_mem_take he)
  have hb2 := vol_bd (X := b.x) (Y := b.y) (z := b.z) (l.take (j + 1)) 0 fun e he => len_le h e (List.mem_of_mem_take he)
  have h4 := vol_snoc b.x b.y b.z (l.take j) l[j] 0
  rw [← List.take_succ_eq_append_getElem hj, Int.zero_add] at h4
  rw [List.length_take] at hb hb2
  have hg := exts_get l 0 j hj
  rw [Int.zero_add] at hg
  unfold solid_Within_s1
  dsimp only
  rw [exts_len, lt_nat hj, cond_true, getI_nat, hg, bind_some', letB_eq, span_len_meet (by dsimp only; omega), getI_at hj, bind_some', within_eq hs.1 hs.2.2, bind_some', W64_succ (by omega)]
  have h5 := Int.mul_nonneg (cm_nonneg ⟨slen (l.take j), slen (l.take j) + l[j].Len⟩ b.z) (wsum_nonneg b.x b.y l[j].Sec.Rows l[j].Sec.Low)
  dsimp only
  by_cases hp : 0 < cm ⟨slen (l.take j), slen (l.take j) + l[j].Len⟩ b.z
  ·rw [decide_eq_true hp, cond_true, W64_eq (n := cm _ _ * _) (by omega) (by omega), ← h4, W64_eq (by omega) (by omega)]
  ·rw [decide_eq_false hp, cond_false]
   have h6 := cm_nonneg ⟨slen (l.take j), slen (l.take j) + l[j].Len⟩ b.z
   have h7 : cm ⟨slen (l.take j), slen (l.take j) + l[j].Len⟩ b.z = 0 := by omega
   rw [h7, Int.zero_mul, Int.add_zero] at h4
   rw [h4]) (by
  unfold solid_Within_s1
  dsimp only
  rw [exts_len, nlt_nat, List.take_length]
  rfl)
 rw [show (vol b.x b.y b.z (l.take 0) 0, ((0 : Nat) : Int)) = ((0 : Int), (0 : Int)) from rfl] at this
 rw [this]
 rfl
theorem lk_up {X Y : Sp} (h : RectOk X Y) (s : TSection) : 1000 * (area X Y - wsum X Y s.Rows s.Low) ≤ lk X Y s * area X Y ∧ (area X Y - wsum X Y s.Rows s.Low = 0 → lk X Y s = 0) := by
 have h1 := area_bd h
 have h2 := wsum_bd h s
 unfold lk
 generalize area X Y = A at *
 generalize wsum X Y s.Rows s.Low = w at *
 rw [Int.tdiv_eq_ediv_of_nonneg (by omega)]
 constructor
 ·have := Int.lt_ediv_add_one_mul_self (1000 * (A - w) + A - 1) (show 0 < A by omega)
  rw [Int.add_mul] at this
  omega
 ·intro h0
  rw [h0]
  exact Int.ediv_eq_zero_of_lt (by omega) (by omega)
theorem wood {X Y z : Sp} (hr : RectOk X Y) (hz : z.a < z.b) : ∀ (l : List TSlice) (a m : Int), 0 ≤ m → (∀ e ∈ l, 1 ≤ e.Len) →
  m ≤ wn X Y z l a m ∧ 1000 * lc X Y z l a ≤ wn X Y z l a m * (area X Y * lz z l a) ∧ 0 ≤ lc X Y z l a ∧ 0 ≤ lz z l a ∧ (wn X Y z l a m = 0 → lc X Y z l a = 0) ∧ (m = 0 → lc X Y z l a = 0 → wn X Y z l a m = 0)
 | [], a, m, hm, _ => by simp [wn, lc, lz]
 | f :: l, a, m, hm, h => by
  have hf := h f (List.mem_cons_self ..)
  have hA := area_bd hr
  have hw := wsum_bd hr f.Sec
  have hl := lk_bd hr f.Sec
  have hu := lk_up hr f.Sec
  have hc := cm_nonneg ⟨a, a + f.Len⟩ z
  have hov : (a < z.b ∧ z.a < a + f.Len) ↔ 0 < cm ⟨a, a + f.Len⟩ z := by
   unfold cm
   dsimp only
   omega
  have hm' : 0 ≤ (if a < z.b ∧ z.a < a + f.Len then max m (lk X Y f.Sec) else m) := by split <;> omega
  have ih := wood hr hz l (a + f.Len) _ hm' fun e he => h e (List.mem_cons_of_mem _ he)
  show m ≤ wn X Y z l (a + f.Len) _ ∧ 1000 * (cm ⟨a, a + f.Len⟩ z * (area X Y - wsum X Y f.Sec.Rows f.Sec.Low) + lc X Y z l (a + f.Len)) ≤ wn X Y z l (a + f.Len) _ * (area X Y * (cm ⟨a, a + f.Len⟩ z + lz z l (a + f.Len))) ∧ 0 ≤ cm ⟨a, a + f.Len⟩ z * (area X Y - wsum X Y f.Sec.Rows f.Sec.Low) + lc X Y z l (a + f.Len) ∧ 0 ≤ cm ⟨a, a + f.Len⟩ z + lz z l (a + f.Len) ∧ (wn X Y z l (a + f.Len) _ = 0 → cm ⟨a, a + f.Len⟩ z * (area X Y - wsum X Y f.Sec.Rows f.Sec.Low) + lc X Y z l (a + f.Len) = 0) ∧ (m = 0 → cm ⟨a, a + f.Len⟩ z * (area X Y - wsum X Y f.Sec.Rows f.Sec.Low) + lc X Y z l (a + f.Len) = 0 → wn X Y z l (a + f.Len) _ = 0)
  generalize hM : (if a < z.b ∧ z.a < a + f.Len then max m (lk X Y f.Sec) else m) = m' at ih ⊢
  obtain ⟨i1, i2, i3, i4, i5, i6⟩ := ih
  have hp : 0 ≤ cm ⟨a, a + f.Len⟩ z * (area X Y - wsum X Y f.Sec.Rows f.Sec.Low) := Int.mul_nonneg hc (by omega)
  by_cases ho : a < z.b ∧ z.a < a + f.Len
  ·rw [if_pos ho] at hM
   have hcp := hov.1 ho
   have k1 : cm ⟨a, a + f.Len⟩ z * (1000 * (area X Y - wsum X Y f.Sec.Rows f.Sec.Low)) ≤ cm ⟨a, a + f.Len⟩ z * (lk X Y f.Sec * area X Y) := Int.mul_le_mul_of_nonneg_left hu.1 hc
   have k2 : lk X Y f.Sec * area X Y ≤ wn X Y z l (a + f.Len) m' * area X Y := Int.mul_le_mul_of_nonneg_right (by omega) (by omega)
   have k3 := Int.mul_le_mul_of_nonneg_left k2 hc
   refine ⟨by omega, ?_, by omega, by omega, fun h0 => ?_, fun h0 h1 => ?_⟩
   ·rw [Int.mul_add, Int.mul_add, Int.mul_add, show wn X Y z l (a + f.Len) m' * (area X Y * cm ⟨a, a + f.Len⟩ z) = cm ⟨a, a + f.Len⟩ z * (wn X Y z l (a + f.Len) m' * area X Y) by rw [← Int.mul_assoc, Int.mul_comm], show 1000 * (cm ⟨a, a + f.Len⟩ z * (area X Y - wsum X Y f.Sec.Rows f.Sec.Low)) = cm ⟨a, a + f.Len⟩ z * (1000 * (area X Y - wsum X Y f.Sec.Rows f.Sec.Low)) by rw [← Int.mul_assoc, Int.mul_comm 1000, Int.mul_assoc]]
    omega
   ·have hlk : lk X Y f.Sec = 0 := by omega
    rw [hlk, Int.zero_mul] at hu
    rw [i5 h0, show area X Y - wsum X Y f.Sec.Rows f.Sec.Low = 0 by omega, Int.mul_zero]
    rfl
   ·have hz0 : cm ⟨a, a + f.Len⟩ z * (area X Y - wsum X Y f.Sec.Rows f.Sec.Low) = 0 := by omega
    have hz1 : area X Y - wsum X Y f.Sec.Rows f.Sec.Low = 0 := by
     rcases Int.mul_eq_zero.1 hz0 with h2 | h2
     ·omega
     ·exact h2
    have := hu.2 hz1
    exact i6 (by omega) (by omega)
  ·rw [if_neg ho] at hM
   have hc0 : cm ⟨a, a + f.Len⟩ z = 0 := by
    have := fun h => ho (hov.2 h)
    omega
   rw [hc0]
   simp only [Int.zero_mul, Int.zero_add]
   exact ⟨by omega, i2, i3, i4, i5, fun h0 => i6 (by omega)⟩
theorem wane_val {l : List TSlice} (h : SolOk l) (hc : r11_Check_g l = some 0) (b : Bx) : worth_Wane_g l b = some (bif r20_across_g b.x && (r20_across_g b.y && wthin b.z (slen l)) then wn b.x b.y b.z l 0 0 else 1000) := by
 unfold worth_Wane_g
 rw [solid_check_eq, hc, bind_some', isRect_eq, solid_length_eq, length_eq h hc, show ((0 : Int) != 0) = false from rfl, cond_false]
 simp only [bind_some', isWithin_eq]
 cases hx : r20_across_g b.x with
 | false => rfl
 | true =>
  cases hy : r20_across_g b.y with
  | false => rfl
  | true =>
   cases hz : wthin b.z (slen l) with
   | false => rfl
   | true =>
    have hr : RectOk b.x b.y := ⟨across_t hx, across_t hy⟩
    have e1 := lacks_eq h (vr := ⟨b.x, b.y⟩) hr
    have e2 := worst_eq (l := zns b.x b.y l 0) (by rw [zns_len]; have := h.len; omega) b.z
    rw [wz_fold] at e2
    show Option.bind (worth_lacks_g l ⟨b.x, b.y⟩) _ = _
    rw [e1, bind_some', e2]
    rfl
theorem across_i {s : Sp} (h : -600 ≤ s.a ∧ s.a < s.b ∧ s.b ≤ 600) : r20_across_g s = true := by
 unfold r20_across_g
 rw [decide_eq_true h.1, decide_eq_true h.2.1, decide_eq_true h.2.2]
 rfl
theorem wthin_i {z : Sp} {n : Int} (h : 0 ≤ z.a ∧ z.a < z.b ∧ z.b ≤ n) : wthin z n = true := by
 unfold wthin
 rw [decide_eq_true h.1, decide_eq_true h.2.1, decide_eq_true h.2.2]
 rfl
def volN (b : Bx) : Int := if boxOk b then area b.x b.y * (b.z.b - b.z.a) else 0
theorem boxOk_rect {b : Bx} (h : boxOk b) : RectOk b.x b.y ∧ 0 ≤ b.z.a ∧ b.z.a < b.z.b ∧ b.z.b ≤ 20000 := by
 obtain ⟨⟨a1, a2, a3⟩, ⟨b1, b2, b3⟩, c1, c2, c3⟩ := h
 exact ⟨⟨⟨a1, a3, a2⟩, ⟨b1, b3, b2⟩⟩, c1, c3, c2⟩
theorem prod_bd {b : Bx} (h : boxOk b) : 1 ≤ area b.x b.y * (b.z.b - b.z.a) ∧ area b.x b.y * (b.z.b - b.z.a) ≤ 28800000000 := by
 obtain ⟨hr, h1, h2, h3⟩ := boxOk_rect h
 have hA := area_bd hr
 have h4 := Int.mul_le_mul (a := area b.x b.y) (c := 1440000) (b := b.z.b - b.z.a) (d := 20000) (by omega) (by omega) (by omega) (by omega)
 have h5 := Int.mul_le_mul (a := 1) (c := area b.x b.y) (b := 1) (d := b.z.b - b.z.a) (by omega) (by omega) (by omega) (by omega)
 omega
theorem volN_bd (b : Bx) : 0 ≤ volN b ∧ volN b ≤ 28800000000 := by
 unfold volN
 split
 ·rename_i h
  have := prod_bd h
  omega
 ·omega
theorem rvol_eq (m : TBoard) : r30_Volume_g m = volN m.Box := by
 unfold r30_Volume_g volN r30_length_g
 rw [placed_eq]
 by_cases h : boxOk m.Box
 ·obtain ⟨hr, h1, h2, h3⟩ := boxOk_rect h
  have hA := area_bd hr
  have hx := hr.x
  have hy := hr.y
  have hp := prod_bd h
  rw [decide_eq_true h, if_pos h, Bool.not_true, cond_false, W64_eq (n := m.Box.x.b - m.Box.x.a) (by omega) (by omega), W64_eq (n := m.Box.y.b - m.Box.y.a) (by omega) (by omega), W64_eq (n := m.Box.z.b - m.Box.z.a) (by omega) (by omega), show (m.Box.x.b - m.Box.x.a) * (m.Box.y.b - m.Box.y.a) = area m.Box.x m.Box.y from rfl, W64_eq (n := area m.Box.x m.Box.y) (by omega) (by omega), W64_eq (by omega) (by omega)]
 ·rw [decide_eq_false h, if_neg h]
  rfl
theorem within_bad {l : List TSlice} {c : Int} (hc : r11_Check_g l = some c) (h0 : c ≠ 0) (b : Bx) : solid_Within_g l b = some 0 := by
 unfold solid_Within_g solid_valid_g
 rw [solid_check_eq, hc, bind_some', ne_t h0, cond_true, bind_some']
 have he : solid_extents_g [] = some [] := by
  have := extents_eq (l := []) ⟨by simp, by simp, by simp [slen]⟩
  exact this
 rw [he, bind_some', loopO_done (y := 0) (by rfl), bind_some']
theorem vols {l : List TSlice} (hl : LowOk l) (b : Bx) : ∃ v w, solid_Within_g l b = some v ∧ worth_Wane_g l b = some w ∧ 0 ≤ w ∧ w ≤ 1000 ∧ 0 ≤ v ∧ v ≤ 1000000000000 ∧ ((w = 1000 ∧ (volN b = 0 ∨ v < volN b)) ∨ (w ≠ 1000 ∧ 0 < volN b ∧ (v = volN b ↔ w = 0) ∧ v ≤ volN b ∧ 1000 * (volN b - v) ≤ w * volN b)) := by
 obtain ⟨c, hc, hok⟩ := solid_total l hl
 by_cases h0 : c = 0
 ·subst h0
  have h := hok rfl
  have hlen := h.len
  have hvb := vol_bd (X := b.x) (Y := b.y) (z := b.z) l 0 (len_le h)
  have hsl : 0 ≤ slen l ∧ slen l ≤ 20000 := by
   have h1 := slen_bd h l.length (Nat.le_refl _)
   rw [List.take_length] at h1
   exact ⟨h1.1, h.tot⟩
  refine ⟨_, _, solidWithin_eq h hc b, wane_val h hc b, ?_⟩
  by_cases hin : (-600 ≤ b.x.a ∧ b.x.a < b.x.b ∧ b.x.b ≤ 600) ∧ (-600 ≤ b.y.a ∧ b.y.a < b.y.b ∧ b.y.b ≤ 600) ∧ (0 ≤ b.z.a ∧ b.z.a < b.z.b ∧ b.z.b ≤ slen l)
  ·obtain ⟨hx, hy, hz⟩ := hin
   have hr : RectOk b.x b.y := ⟨hx, hy⟩
   have hbox : boxOk b := ⟨⟨hx.1, hx.2.2, hx.2.1⟩, ⟨hy.1, hy.2.2, hy.2.1⟩, hz.1, by omega, hz.2.1⟩
   have hp := prod_bd hbox
   have hB := wn_bd (z := b.z) hr l 0 0 (by omega)
   have hW := wood hr hz.2.1 l 0 0 (by omega) fun e he => (h.sec e he).2.1
   have hL := (lz_eq hz.2.1 l 0 fun e he => (h.sec e he).2.1).1
   have hV := vol_lc b.x b.y b.z l 0
   have hL2 : lz b.z l 0 = b.z.b - b.z.a := by
    rw [hL]
    unfold cm
    dsimp only
    omega
   rw [hL2] at hV hW
   rw [across_i hx, across_i hy, wthin_i hz]
   simp only [Bool.and_true, cond_true]
   have e : volN b = area b.x b.y * (b.z.b - b.z.a) := by unfold volN; rw [if_pos hbox]
   rw [e]
   obtain ⟨w1, w2, w3, w4, w5, w6⟩ := hW
   have w6 := w6 rfl
   generalize wn b.x b.y b.z l 0 0 = w at *
   generalize area b.x b.y * (b.z.b - b.z.a) = n at *
   generalize vol b.x b.y b.z l 0 = v at *
   generalize lc b.x b.y b.z l 0 = q at *
   refine ⟨hB.1, hB.2, hvb.1, by omega, ?_⟩
   by_cases hw : w = 1000
   ·refine .inl ⟨hw, .inr ?_⟩
    have : q ≠ 0 := fun h => by have := w6 h; omega
    omega
   ·refine .inr ⟨hw, by omega, ⟨fun h => w6 (by omega), fun h => by have := w5 h; omega⟩, by omega, ?_⟩
    rw [show n - v = q by omega]
    exact w2
  ·have hw : (bif r20_across_g b.x && (r20_across_g b.y && wthin b.z (slen l)) then wn b.x b.y b.z l 0 0 else 1000) = 1000 := by
    cases hx : r20_across_g b.x with
    | false => rfl
    | true =>
     cases hy : r20_across_g b.y with
     | false => rfl
     | true =>
      cases hz : wthin b.z (slen l) with
      | false => rfl
      | true => exact absurd ⟨across_t hx, across_t hy, wthin_t hz⟩ hin
   rw [hw]
   refine ⟨by omega, by omega, hvb.1, by omega, .inl ⟨rfl, ?_⟩⟩
   by_cases hbox : boxOk b
   ·refine .inr ?_
    obtain ⟨hr, h1, h2, h3⟩ := boxOk_rect hbox
    have hA := area_bd hr
    have hzz : slen l < b.z.b := by
     rcases Int.lt_or_le (slen l) b.z.b with q | q
     ·exact q
     ·exact absurd ⟨hr.x, hr.y, h1, h2, q⟩ hin
    have hL := (lz_eq h2 l 0 fun e he => (h.sec e he).2.1).1
    have hV := vol_lc b.x b.y b.z l 0
    have hW := wood hr h2 l 0 0 (by omega) fun e he => (h.sec e he).2.1
    have hlt : lz b.z l 0 < b.z.b - b.z.a := by
     rw [hL]
     unfold cm
     dsimp only
     omega
    have := Int.mul_lt_mul_of_pos_left hlt (show 0 < area b.x b.y by omega)
    unfold volN
    rw [if_pos hbox]
    have := hW.2.2.1
    omega
   ·unfold volN
    rw [if_neg hbox]
    exact .inl rfl
 ·have hwn : worth_Wane_g l b = some 1000 := by
   unfold worth_Wane_g
   rw [solid_check_eq, hc, bind_some', ne_t h0]
   rfl
  have := volN_bd b
  exact ⟨0, 1000, within_bad hc h0 b, hwn, by omega, by omega, by omega, by omega, .inl ⟨rfl, by omega⟩⟩
theorem short30_total (x : Tsawmilllaw30_Log) : ∃ b, l30_Short_g x = some b ∧ (b = true → x.Solid.length ≤ 30 ∧ x.Defects.length ≤ 100) := by
 unfold l30_Short_g
 by_cases h1 : 30 < x.Solid.length
 ·rw [decide_eq_true (by omega)]
  exact ⟨_, rfl, fun h => by simp at h⟩
 rw [decide_eq_false (by omega), cond_false]
 by_cases h2 : 100 < x.Defects.length
 ·rw [decide_eq_true (by omega)]
  exact ⟨_, rfl, fun h => by simp at h⟩
 rw [decide_eq_false (by omega), cond_false]
 have := loopO_foldX (step := fun q : Int => l30_Short_s1 x q) x.Solid (fun e => decide (130 < ((e.Sec.Rows.length : Nat) : Int))) (fun (u : Unit) _ => u) () (fun _ j => (j : Int)) (.inl false) (fun _ => .inr ()) (fun _ _ => True) trivial (fun _ _ _ _ _ => trivial) (fun s j hj _ hb => by
  unfold l30_Short_s1
  rw [lt_nat hj, cond_true, getI_at hj, bind_some', hb, cond_false, W64_succ (by omega)]) (fun s j hj _ hb => by
  unfold l30_Short_s1
  rw [lt_nat hj, cond_true, getI_at hj, bind_some', hb]
  rfl) (fun _ _ => by
  unfold l30_Short_s1
  rw [nlt_nat]
  rfl)
 rw [show ((0 : Nat) : Int) = 0 from rfl] at this
 rw [this, bind_some']
 cases x.Solid.any fun e => decide (130 < ((e.Sec.Rows.length : Nat) : Int))
 ·exact ⟨_, rfl, fun _ => by omega⟩
 ·exact ⟨_, rfl, fun h => by simp at h⟩
end Go.Proofs.YtpoehckffpbfiaaGreat
