/- P2: what functions of the program compute (written by mod.py). -/
import Derived.Test.YtbgoflekklfdjaaP1
import Derived.KernelRfl
namespace Go.Proofs.Ytbgoflekklfdjaa
open Go Go.Ab
set_option linter.unusedSimpArgs false
set_option linter.unusedVariables false
set_option maxRecDepth 20000

def digitB (c : Int) : Bool := decide (48 ≤ c) && decide (c ≤ 57)
def nameAt (s : ByteArray) (j : Nat) : Bool := (decide (97 ≤ byteAt s j) && decide (byteAt s j ≤ 122)) || (decide (j ≠ 0) && (decide (byteAt s j = 95) || digitB (byteAt s j)))
def isNameB (s : ByteArray) : Bool := decide (1 ≤ s.size) && (decide (s.size ≤ 16) && (List.range s.size).all (nameAt s))
theorem r02_digit_eq (c : Int) : r02_digit_g c = digitB c := by unfold r02_digit_g digitB; grind
theorem r02_name_eq {s : ByteArray} : r02_IsName_g s = some (isNameB s) := by
  unfold r02_IsName_g isNameB
  by_cases h1 : s.size < 1
  · rw [decide_eq_true (show ((s.size : Nat) : Int) < 1 by omega), decide_eq_false (show ¬ 1 ≤ s.size by omega)]
    rfl
  by_cases h2 : 16 < s.size
  · rw [decide_eq_false (show ¬ ((s.size : Nat) : Int) < 1 by omega), decide_eq_true (show (16 : Int) < ((s.size : Nat) : Int) by omega), decide_eq_false (show ¬ s.size ≤ 16 by omega)]
    simp
  rw [decide_eq_false (show ¬ ((s.size : Nat) : Int) < 1 by omega), decide_eq_false (show ¬ (16 : Int) < ((s.size : Nat) : Int) by omega), decide_eq_true (show s.size ≤ 16 by omega), decide_eq_true (show 1 ≤ s.size by omega)]
  rw [show ((0 : Int)) = ((0 : Nat) : Int) from rfl, loopO_allN s.size (fun j => ((j : Nat) : Int)) (nameAt s) false (fun j hj => by
    unfold r02_IsName_s1 nameAt
    rw [lt_nat hj, bytO_eq hj, cond_true]
    simp only [bind_some', W64_succ (show j < 9223372036854775807 by omega), r02_digit_eq]
    generalize byteAt s j = c
    unfold digitB
    have e : (((j : Nat) : Int) == 0) = decide (j = 0) := by
      by_cases hj : j = 0
      · subst hj; rfl
      · simp [hj]
    have e2 : (c != 95) = !decide (c = 95) := rfl
    rw [e, e2]
    by_cases a1 : 97 ≤ c <;> by_cases a2 : c ≤ 122 <;> by_cases a3 : j = 0 <;> by_cases a4 : c = 95 <;> by_cases a5 : 48 ≤ c <;> by_cases a6 : c ≤ 57 <;> simp [a1, a2, a3, a4, a5, a6]) (by
    unfold r02_IsName_s1
    rw [nlt_nat]
    rfl)]
  cases (List.range s.size).all (nameAt s) <;> rfl
theorem r34_check1 (s : TSpecies) : r34_Check_g [s] = some (bif !(isNameB s.Name) then 6 else bif !(r34_valid_g s) then 9 else 0) := by
  unfold r34_Check_g
  have e : loopO (fun q => r34_Check_s1 [s] q) 0 = some (bif !(isNameB s.Name) then .inl 6 else bif !(r34_valid_g s) then .inl 9 else .inr ()) := by
    have h0 : r34_Check_s1 [s] 0 = bif !(isNameB s.Name) then some (.inr (.inl 6)) else bif !(r34_valid_g s) then some (.inr (.inl 9)) else some (.inl 1) := by
      unfold r34_Check_s1
      have hi : loopO (fun q => r34_Check_s2 [s] 0 q) 0 = some (Sum.inr ()) := loopO_done (by unfold r34_Check_s2; rfl)
      rw [hi]
      have g : getI [s] 0 = some s := rfl
      simp only [g, bind_some', r02_name_eq]
      generalize isNameB s.Name = a
      generalize r34_valid_g s = b
      cases a <;> cases b <;> rfl
    have h1 : r34_Check_s1 [s] 1 = some (.inr (.inr ())) := by unfold r34_Check_s1; rfl
    cases ha : isNameB s.Name with
    | false => rw [ha] at h0; exact loopO_done h0
    | true =>
      cases hb : r34_valid_g s with
      | false => rw [ha, hb] at h0; exact loopO_done h0
      | true =>
        rw [ha, hb] at h0
        rw [loopO_next h0]
        exact loopO_done h1
  rw [e]
  generalize isNameB s.Name = a
  generalize r34_valid_g s = b
  cases a <;> cases b <;> rfl
def widthB (b : TBoard) : Int := max (spanLen b.Box.x) (spanLen b.Box.y)
theorem width_eq {b : TBoard} (h : b.ok) : r41_Width_g b = widthB b := by
  obtain ⟨_, _, _, _, ⟨hx, hy, hz⟩, _⟩ := h
  unfold r41_Width_g widthB
  rw [r03_len_eq hx, r03_len_eq hy]
theorem board_defects {b : TBoard} (h : b.ok) : b.Defects.length ≤ 9223372036854775807 ∧ Oks b.Defects := by
  obtain ⟨_, _, _, _, _, _, ⟨h1, h2⟩, _⟩ := h
  exact ⟨h1, h2⟩
def knotsB (b : TBoard) : Int := bif decide (widthB b < 1) then 0 else min (W64 (Int.tdiv (W64 (worstD b.Defects 150 * 1000)) (widthB b))) 1000
theorem knots_eq {b : TBoard} (h : b.ok) : strength_Knots_g b = some (knotsB b) := by
  have hd := board_defects h
  have hb := h
  obtain ⟨_, _, _, _, ⟨hx, hy, hz⟩, _⟩ := hb
  unfold strength_Knots_g knotsB widthB
  rw [span_len_eq hx, span_len_eq hy, d_worst_eq 150 hd.1 hd.2]
  by_cases hw : max (spanLen b.Box.x) (spanLen b.Box.y) < 1
  · rw [decide_eq_true hw]; rfl
  · rw [decide_eq_false hw, cond_false, cond_false, bind_some', show (max (spanLen b.Box.x) (spanLen b.Box.y) != 0) = true by simp; omega]
    rfl
theorem rknots_eq {b : TBoard} (h : b.ok) : r41_Knots_g b = some (knotsB b) := by
  have hd := board_defects h
  unfold r41_Knots_g knotsB
  rw [width_eq h, r13_worst_eq 150 hd.1 hd.2]
  by_cases hw : widthB b < 1
  · rw [decide_eq_true hw]; rfl
  · rw [decide_eq_false hw, cond_false, cond_false, bind_some', show (widthB b != 0) = true by simp; omega, Int.min_comm]
    rfl
noncomputable def stiffB (b : TBoard) (s : TSpecies) : Int := max 0 (W64 (Int.tdiv (W64 ((W64 (Int.tdiv (W64 (s.Stiff * (W64 (1000 - (W64 (Int.tdiv (W64 (s.KnotLoss * knotsB b)) 1000)))))) 1000)) * (W64 (10000 - (max 0 (W64 ((moist_Mean_g b.Cell) - 1200))))))) 10000))
theorem mean_eq (c : TCell) : r36_Mean_g c = moist_Mean_g c := rfl
theorem stiff_eq {b : TBoard} (h : b.ok) (s : TSpecies) : strength_Stiffness_g b s = some (stiffB b s) := by
  unfold strength_Stiffness_g
  rw [knots_eq h]
  rfl
theorem rstiff_eq {b : TBoard} (h : b.ok) (s : TSpecies) : r41_Stiffness_g b s = some (stiffB b s) := by
  unfold r41_Stiffness_g
  rw [rknots_eq h]
  rfl
noncomputable def rightB (b : TBoard) (s : TSpecies) : Bool := (checkL b.Defects == 0) && (decide (1 ≤ widthB b) && (decide (widthB b ≤ 1200) && ((r36_Check_g b.Cell == 0) && (isNameB s.Name && r34_valid_g s))))
theorem right_eq {b : TBoard} (h : b.ok) (s : TSpecies) : r41_Right_g b s = some (rightB b s) := by
  have hd := board_defects h
  unfold r41_Right_g rightB
  rw [r13_checkL_eq hd.1, width_eq h, r34_check1]
  simp only [bind_some']
  generalize (checkL b.Defects == 0) = a1
  generalize decide (1 ≤ widthB b) = a2
  generalize decide (widthB b ≤ 1200) = a3
  generalize (r36_Check_g b.Cell == 0) = a4
  generalize isNameB s.Name = a5
  generalize r34_valid_g s = a6
  cases a1 <;> cases a2 <;> cases a3 <;> cases a4 <;> cases a5 <;> cases a6 <;> rfl
theorem aw41 : l41_awake_g = some true := l41_awake_le 300 true (by kernel_rfl)
theorem strengthOf_true (b : TBoard) (s : TSpecies) (hb : b.ok) : l41_StrengthOf_g b s = some true := by
  unfold l41_StrengthOf_g
  rw [aw41, right_eq hb s, knots_eq hb, rknots_eq hb, stiff_eq hb s, rstiff_eq hb s]
  simp only [bind_some', beq_self_eq_true, cond_true]
  generalize l41_few_g b s = a
  generalize rightB b s = c
  cases a <;> cases c <;> rfl
theorem class_eq (n : Int) : strength_Class_g n = some (r41_Class_g n) := by
  unfold strength_Class_g strength_Class_1_g
  rw [show (0 : Int) = ((0 : Nat) : Int) from rfl, loopO_find [(14000 : Int), 11000, 9000, 7000] (fun j => ((j : Nat) : Int)) (fun e => decide (e ≤ n)) (fun e => Sum.inl (if e = 14000 then 1 else if e = 11000 then 2 else if e = 9000 then 3 else 4)) (Sum.inr ()) (by
    intro j hj hp
    unfold strength_Class_1_s1
    rw [lt_nat hj, getI_at hj, cond_true, bind_some', hp, cond_false, W64_succ (by simp at hj; omega)]) (by
    intro j hj hp
    unfold strength_Class_1_s1
    rw [lt_nat hj, getI_at hj, cond_true, bind_some', hp, cond_true, W64_succ (by simp at hj; omega)]
    match j, hj with
    | 0, _ => rfl
    | 1, _ => rfl
    | 2, _ => rfl
    | 3, _ => rfl) (by
    unfold strength_Class_1_s1
    rfl)]
  unfold r41_Class_g
  simp only [List.find?_cons]
  by_cases h1 : 14000 ≤ n
  · simp [h1]
  by_cases h2 : 11000 ≤ n
  · simp [h1, h2]
  by_cases h3 : 9000 ≤ n
  · simp [h1, h2, h3]
  by_cases h4 : 7000 ≤ n
  · simp [h1, h2, h3, h4]
  · simp [h1, h2, h3, h4]
theorem strengthClasses_true (n c : Int) : l41_StrengthClasses_g n c = some true := by
  unfold l41_StrengthClasses_g
  rw [aw41, class_eq]
  have : strength_Name_g c = r41_Name_g c := rfl
  rw [this]
  simp only [bind_some', beq_self_eq_true, cond_true, bEq]
theorem class_range (n : Int) : 0 ≤ r41_Class_g n ∧ r41_Class_g n ≤ 4 := by
  unfold r41_Class_g
  simp only [Bool.cond_decide]
  repeat' split
  all_goals omega
theorem name_inj (x y : Int) (hx : 0 ≤ x ∧ x ≤ 4) (hy : 0 ≤ y ∧ y ≤ 4) : bEq (strength_Name_g x) (strength_Name_g y) = (x == y) := by
  have h1 : x = 0 ∨ x = 1 ∨ x = 2 ∨ x = 3 ∨ x = 4 := by omega
  have h2 : y = 0 ∨ y = 1 ∨ y = 2 ∨ y = 3 ∨ y = 4 := by omega
  rcases h1 with rfl | rfl | rfl | rfl | rfl <;> rcases h2 with rfl | rfl | rfl | rfl | rfl <;> rfl
theorem strengthRanks_true (a b : Int) : l41_StrengthRanks_g a b = some true := by
  unfold l41_StrengthRanks_g
  rw [aw41, class_eq, class_eq]
  simp only [bind_some']
  have hx := class_range (min a b)
  have hy := class_range (max a b)
  have hm : r41_Class_g (min a b) ≠ 0 → r41_Class_g (max a b) ≠ 0 ∧ r41_Class_g (max a b) ≤ r41_Class_g (min a b) := by
    unfold r41_Class_g
    simp only [Bool.cond_decide]
    intro h
    repeat' split
    all_goals (repeat' split at h)
    all_goals omega
  generalize r41_Class_g (min a b) = x at *
  generalize r41_Class_g (max a b) = y at *
  rw [decide_eq_false (show ¬ x < 0 by omega), decide_eq_false (show ¬ 4 < x by omega), decide_eq_false (show ¬ y < 0 by omega), decide_eq_false (show ¬ 4 < y by omega)]
  have hn0 : bEq (strength_Name_g x) (⟨#[]⟩ : ByteArray) = (x == 0) := name_inj x 0 hx (by omega)
  rw [name_inj x y hx hy, hn0]
  simp only [cond_false, beq_self_eq_true, cond_true]
  by_cases h0 : x = 0
  · subst h0; rfl
  · obtain ⟨h1, h2⟩ := hm h0
    rw [show (x != 0) = true by simpa using h0, show (y == 0) = false by simpa using h1, decide_eq_false (show ¬ x < y by omega)]
    rfl

theorem moist_mean_ok {c : TCell} (h : r36_Check_g c = 0) : moist_Mean_g c = Int.tdiv (c.Surf + 2 * c.Core) 3 ∧ 0 ≤ c.Surf ∧ c.Surf ≤ 20000 ∧ 0 ≤ c.Core ∧ c.Core ≤ 20000 ∧ 0 ≤ c.Stress ∧ c.Stress ≤ 1099511627776 := by
  have hr : 0 ≤ c.Surf ∧ c.Surf ≤ 20000 ∧ 0 ≤ c.Core ∧ c.Core ≤ 20000 ∧ 0 ≤ c.Stress ∧ c.Stress ≤ 1099511627776 := by
    unfold r36_Check_g at h
    simp only [Bool.cond_decide] at h
    repeat' split at h
    all_goals omega
  refine ⟨?_, hr⟩
  unfold moist_Mean_g
  rw [show moist_Check_g c = 0 from h]
  simp only [bne_self_eq_false, cond_false]
  have h1 : 0 ≤ (c.Surf + 2 * c.Core).tdiv 3 := Int.tdiv_nonneg (by omega) (by omega)
  rw [W64_eq (n := 2 * c.Core) (by omega) (by omega), W64_eq (n := c.Surf + 2 * c.Core) (by omega) (by omega), W64_eq (by omega) ?_]
  rw [Int.tdiv_eq_ediv_of_nonneg (by omega)]
  omega
theorem moist_of {c : TCell} (h : 0 ≤ c.Surf ∧ c.Surf ≤ 20000 ∧ 0 ≤ c.Core ∧ c.Core ≤ 20000 ∧ 0 ≤ c.Stress ∧ c.Stress ≤ 1099511627776) : r36_Check_g c = 0 := by
  unfold r36_Check_g
  simp only [Bool.cond_decide]
  rw [if_neg (by omega), if_neg (by omega), if_neg (by omega), if_neg (by omega), if_neg (by omega), if_neg (by omega)]
theorem r34_valid_ok {s : TSpecies} (h : r34_valid_g s = true) : 1000 ≤ s.Stiff ∧ s.Stiff ≤ 30000 ∧ 0 ≤ s.KnotLoss ∧ s.KnotLoss ≤ 1000 := by
  unfold r34_valid_g r34_from_g at h
  simp only [Bool.cond_false_left, Bool.cond_false_right, Bool.not_not, Bool.and_eq_true, decide_eq_true_eq] at h
  omega
/-- The stiffness of a valid board, in plain numbers. -/
def stiffA (kn : Int) (s : TSpecies) : Int := s.Stiff * (1000 - s.KnotLoss * kn / 1000) / 1000
def dryQ (m : Int) : Int := max 0 (10000 - max 0 (m - 1200))
def stiffP (kn m : Int) (s : TSpecies) : Int := stiffA kn s * dryQ m / 10000
def knotsP (worst width : Int) : Int := min (worst * 1000 / width) 1000
theorem knotsP_lo {worst width : Int} (h1 : 0 ≤ worst) (h2 : 1 ≤ width) : 0 ≤ knotsP worst width ∧ knotsP worst width ≤ 1000 := by
  have := Int.ediv_nonneg (show 0 ≤ worst * 1000 by omega) (show 0 ≤ width by omega)
  unfold knotsP
  omega
theorem knotsB_valid {b : TBoard} (hd : checkL b.Defects = 0) (hw : 1 ≤ widthB b) : knotsB b = knotsP (worstP b.Defects 150) (widthB b) := by
  have hl := worstP_lo hd 150
  unfold knotsB knotsP
  rw [decide_eq_false (by omega), cond_false, worstD_eq hd (by omega) (by omega), W64_eq (n := worstP b.Defects 150 * 1000) (by omega) (by omega), Int.tdiv_eq_ediv_of_nonneg (by omega)]
  have h1 : 0 ≤ worstP b.Defects 150 * 1000 / widthB b := Int.ediv_nonneg (by omega) (by omega)
  have h2 : worstP b.Defects 150 * 1000 / widthB b ≤ worstP b.Defects 150 * 1000 := Int.ediv_le_self _ (by omega)
  rw [W64_eq (by omega) (by omega)]
theorem mul_lo {a b A B : Int} (ha : 0 ≤ a ∧ a ≤ A) (hb : 0 ≤ b ∧ b ≤ B) : 0 ≤ a * b ∧ a * b ≤ A * B :=
  ⟨Int.mul_nonneg ha.1 hb.1, Int.mul_le_mul ha.2 hb.2 hb.1 (by omega)⟩
theorem stiff_parts {kn m : Int} {s : TSpecies} (hs : 1000 ≤ s.Stiff ∧ s.Stiff ≤ 30000 ∧ 0 ≤ s.KnotLoss ∧ s.KnotLoss ≤ 1000) (hk : 0 ≤ kn ∧ kn ≤ 1000) (hm : 0 ≤ m ∧ m ≤ 20000) :
    (0 ≤ s.KnotLoss * kn ∧ s.KnotLoss * kn ≤ 1000000) ∧ (0 ≤ s.KnotLoss * kn / 1000 ∧ s.KnotLoss * kn / 1000 ≤ 1000) ∧ (0 ≤ s.Stiff * (1000 - s.KnotLoss * kn / 1000) ∧ s.Stiff * (1000 - s.KnotLoss * kn / 1000) ≤ s.Stiff * 1000) ∧ (0 ≤ s.Stiff * (1000 - s.KnotLoss * kn / 1000) / 1000 ∧ s.Stiff * (1000 - s.KnotLoss * kn / 1000) / 1000 ≤ s.Stiff) := by
  have h1 := mul_lo (a := s.KnotLoss) (b := kn) (A := 1000) (B := 1000) ⟨hs.2.2.1, hs.2.2.2⟩ hk
  have h2 : 0 ≤ s.KnotLoss * kn / 1000 ∧ s.KnotLoss * kn / 1000 ≤ 1000 := by omega
  have h3 := mul_lo (a := s.Stiff) (b := 1000 - s.KnotLoss * kn / 1000) (A := s.Stiff) (B := 1000) (by omega) (by omega)
  refine ⟨by omega, h2, h3, ?_⟩
  omega
theorem tdiv_np {a c : Int} (ha : a ≤ 0) (hc : 0 < c) : a ≤ a.tdiv c ∧ a.tdiv c ≤ 0 := by
  have h1 : 0 ≤ (-a) / c := Int.ediv_nonneg (by omega) (by omega)
  have h2 : (-a) / c ≤ -a := Int.ediv_le_self _ (by omega)
  have e : a.tdiv c = -((-a) / c) := by
    rw [← Int.tdiv_eq_ediv_of_nonneg (by omega), Int.neg_tdiv, Int.neg_neg]
  rw [e]
  omega
theorem stiffB_valid {b : TBoard} {s : TSpecies} (hd : checkL b.Defects = 0) (hw : 1 ≤ widthB b) (hc : r36_Check_g b.Cell = 0) (hs : r34_valid_g s = true) :
    stiffB b s = stiffP (knotsB b) (moist_Mean_g b.Cell) s := by
  have hs := r34_valid_ok hs
  obtain ⟨hm, hr⟩ := moist_mean_ok hc
  have hk := knotsP_lo (worstP_lo hd 150).1 hw
  rw [← knotsB_valid hd hw] at hk
  have hm' : 0 ≤ moist_Mean_g b.Cell ∧ moist_Mean_g b.Cell ≤ 20000 := by
    rw [hm, Int.tdiv_eq_ediv_of_nonneg (by omega)]
    omega
  unfold stiffB stiffP stiffA dryQ
  clear hm
  generalize moist_Mean_g b.Cell = m at *
  generalize knotsB b = kn at *
  obtain ⟨p1, p2, p3, p4⟩ := stiff_parts hs hk hm'
  rw [W64_eq (n := s.KnotLoss * kn) (by omega) (by omega), Int.tdiv_eq_ediv_of_nonneg p1.1, W64_eq (n := s.KnotLoss * kn / 1000) (by omega) (by omega), W64_eq (n := 1000 - _) (by omega) (by omega),
    W64_eq (n := s.Stiff * _) (by omega) (by omega), Int.tdiv_eq_ediv_of_nonneg p3.1, W64_eq (n := s.Stiff * _ / 1000) (by omega) (by omega), W64_eq (n := m - 1200) (by omega) (by omega), W64_eq (n := 10000 - _) (by omega) (by omega)]
  generalize s.Stiff * (1000 - s.KnotLoss * kn / 1000) / 1000 = A at *
  have hq : -8800 ≤ 10000 - max 0 (m - 1200) ∧ 10000 - max 0 (m - 1200) ≤ 10000 := by omega
  generalize 10000 - max 0 (m - 1200) = q at *
  by_cases h0 : 0 ≤ q
  · have := mul_lo (a := A) (b := q) (A := 30000) (B := 10000) (by omega) (by omega)
    have h2 : 0 ≤ A * q / 10000 := Int.ediv_nonneg this.1 (by omega)
    rw [W64_eq (n := A * q) (by omega) (by omega), Int.tdiv_eq_ediv_of_nonneg this.1, W64_eq (by omega) (by omega), Int.max_eq_right h2, Int.max_eq_right h0]
  · have := mul_lo (a := A) (b := -q) (A := 30000) (B := 8800) (by omega) (by omega)
    rw [Int.mul_neg] at this
    obtain ⟨h3, h2⟩ := tdiv_np (a := A * q) (c := 10000) (by omega) (by omega)
    rw [W64_eq (n := A * q) (by omega) (by omega), W64_eq (by omega) (by omega), Int.max_eq_left h2, Int.max_eq_left (by omega), Int.mul_zero]
    rfl
theorem stiffA_mono {k k' : Int} {s : TSpecies} (hs : 1000 ≤ s.Stiff ∧ s.Stiff ≤ 30000 ∧ 0 ≤ s.KnotLoss ∧ s.KnotLoss ≤ 1000) (h : k ≤ k') : stiffA k' s ≤ stiffA k s := by
  unfold stiffA
  have h1 : s.KnotLoss * k ≤ s.KnotLoss * k' := Int.mul_le_mul_of_nonneg_left h hs.2.2.1
  have h2 : s.KnotLoss * k / 1000 ≤ s.KnotLoss * k' / 1000 := Int.ediv_le_ediv (by omega) h1
  exact Int.ediv_le_ediv (by omega) (Int.mul_le_mul_of_nonneg_left (by omega) (by omega))
theorem stiffP_mono {k k' m m' : Int} {s : TSpecies} (hs : 1000 ≤ s.Stiff ∧ s.Stiff ≤ 30000 ∧ 0 ≤ s.KnotLoss ∧ s.KnotLoss ≤ 1000) (hk : 0 ≤ k ∧ k' ≤ 1000) (h : k ≤ k') (hm : m ≤ m') : stiffP k' m' s ≤ stiffP k m s := by
  have h1 := stiffA_mono hs h
  have h2 : 0 ≤ stiffA k' s := (stiff_parts hs (kn := k') (m := 0) (by omega) (by omega)).2.2.2.1
  have h3 : 0 ≤ dryQ m' ∧ dryQ m' ≤ dryQ m := by unfold dryQ; omega
  unfold stiffP
  exact Int.ediv_le_ediv (by omega) (Int.mul_le_mul h1 h3.2 h3.1 (by omega))
theorem stiffP_lo {k m : Int} {s : TSpecies} (hs : 1000 ≤ s.Stiff ∧ s.Stiff ≤ 30000 ∧ 0 ≤ s.KnotLoss ∧ s.KnotLoss ≤ 1000) (hk : 0 ≤ k ∧ k ≤ 1000) : 0 ≤ stiffP k m s ∧ stiffP k m s ≤ s.Stiff := by
  have h2 := (stiff_parts hs (kn := k) (m := 0) (by omega) (by omega)).2.2.2
  have h3 : 0 ≤ dryQ m ∧ dryQ m ≤ 10000 := by unfold dryQ; omega
  have := mul_lo (a := stiffA k s) (b := dryQ m) (A := s.Stiff) (B := 10000) h2 h3
  unfold stiffP
  omega
theorem rightB_iff {b : TBoard} {s : TSpecies} : rightB b s = true ↔ checkL b.Defects = 0 ∧ 1 ≤ widthB b ∧ widthB b ≤ 1200 ∧ r36_Check_g b.Cell = 0 ∧ isNameB s.Name = true ∧ r34_valid_g s = true := by
  unfold rightB
  simp only [Bool.and_eq_true, decide_eq_true_eq, beq_iff_eq]
theorem knotsP_mono {v w width : Int} (h : v ≤ w) (hw : 1 ≤ width) : knotsP v width ≤ knotsP w width := by
  have := Int.ediv_le_ediv (show 0 < width by omega) (show v * 1000 ≤ w * 1000 by omega)
  unfold knotsP
  omega
theorem strengthOrder_true (b : TBoard) (s : TSpecies) (d : Df) (hb : b.ok) (hd : d.ok) : l41_StrengthOrder_g b s d = some true := by
  unfold l41_StrengthOrder_g
  rw [aw41, right_eq hb s, knots_eq hb, stiff_eq hb s]
  simp only [bind_some']
  cases hf : l41_few_g b s with
  | false => rfl
  | true =>
    cases hr : rightB b s with
    | false => rfl
    | true =>
      obtain ⟨h1, h2, h3, h4, h5, h6⟩ := rightB_iff.1 hr
      have hs := r34_valid_ok h6
      have hk := knotsP_lo (worstP_lo h1 150).1 h2
      have hkb := knotsB_valid h1 h2
      rw [← hkb] at hk
      have hsb := stiffB_valid h1 h2 h4 h6
      have hsl := stiffP_lo (m := moist_Mean_g b.Cell) hs hk
      rw [← hsb] at hsl
      have hlen := (checkL_iff.1 h1).1
      have ho := board_defects hb
      simp only [cond_false, cond_true, Bool.not_true]
      rw [decide_eq_false (show ¬ stiffB b s < 0 by omega), decide_eq_false (show ¬ s.Stiff < stiffB b s by omega), decide_eq_false (show ¬ knotsB b < 0 by omega), decide_eq_false (show ¬ 1000 < knotsB b by omega)]
      simp only [cond_false]
      rw [appO_eq (by simp; omega) (by simp; omega), bind_some', List.nil_append, appO_eq (by simp; omega) (by simp; omega), bind_some', r13_checkL_eq (by simp; omega)]
      simp only [bind_some']
      -- the board with a further defect
      have hmb : (⟨b.Id, b.Log, b.Species, b.Product, b.Box, b.Volume, b.Defects ++ [d], b.Wane, b.Cell, b.Dried, b.Grade⟩ : TBoard).ok := by
        obtain ⟨q1, q2, q3, q4, q5, q6, q7, q8⟩ := hb
        refine ⟨q1, q2, q3, q4, q5, q6, ⟨by simp; omega, ?_⟩, q8⟩
        intro e he
        rcases List.mem_append.1 he with he | he
        · exact q7.2 e he
        · rw [List.mem_singleton.1 he]; exact hd
      rw [knots_eq hmb, stiff_eq hmb]
      simp only [bind_some']
      -- the moister board
      have hwet : ∀ c : TCell, c.ok → (⟨b.Id, b.Log, b.Species, b.Product, b.Box, b.Volume, b.Defects, b.Wane, c, b.Dried, b.Grade⟩ : TBoard).ok := by
        intro c hc
        obtain ⟨q1, q2, q3, q4, q5, q6, q7, q8, _, q9⟩ := hb
        exact ⟨q1, q2, q3, q4, q5, q6, q7, q8, hc, q9⟩
      obtain ⟨hmean, hcell⟩ := moist_mean_ok h4
      rw [W64_eq (n := b.Cell.Core + 500) (by omega) (by omega), W64_eq (n := b.Cell.Surf + 300) (by omega) (by omega)]
      have hwc : (⟨min 20000 (b.Cell.Surf + 300), min 20000 (b.Cell.Core + 500), b.Cell.Stress⟩ : TCell).ok := by
        refine ⟨?_, ?_, ?_⟩ <;> unfold I64 <;> dsimp only <;> omega
      rw [knots_eq (hwet _ hwc), stiff_eq (hwet _ hwc)]
      simp only [bind_some']
      have hwk : knotsB ⟨b.Id, b.Log, b.Species, b.Product, b.Box, b.Volume, b.Defects, b.Wane, ⟨min 20000 (b.Cell.Surf + 300), min 20000 (b.Cell.Core + 500), b.Cell.Stress⟩, b.Dried, b.Grade⟩ = knotsB b := rfl
      have hwv : r36_Check_g (⟨min 20000 (b.Cell.Surf + 300), min 20000 (b.Cell.Core + 500), b.Cell.Stress⟩ : TCell) = 0 := moist_of (by dsimp only; omega)
      have hwm : moist_Mean_g b.Cell ≤ moist_Mean_g (⟨min 20000 (b.Cell.Surf + 300), min 20000 (b.Cell.Core + 500), b.Cell.Stress⟩ : TCell) := by
        obtain ⟨e1, _⟩ := moist_mean_ok hwv
        rw [e1, hmean]
        dsimp only
        rw [Int.tdiv_eq_ediv_of_nonneg (by omega), Int.tdiv_eq_ediv_of_nonneg (by omega)]
        exact Int.ediv_le_ediv (by omega) (by omega)
      have hws : stiffB ⟨b.Id, b.Log, b.Species, b.Product, b.Box, b.Volume, b.Defects, b.Wane, ⟨min 20000 (b.Cell.Surf + 300), min 20000 (b.Cell.Core + 500), b.Cell.Stress⟩, b.Dried, b.Grade⟩ s ≤ stiffB b s := by
        rw [stiffB_valid (b := ⟨b.Id, b.Log, b.Species, b.Product, b.Box, b.Volume, b.Defects, b.Wane, ⟨min 20000 (b.Cell.Surf + 300), min 20000 (b.Cell.Core + 500), b.Cell.Stress⟩, b.Dried, b.Grade⟩) h1 h2 hwv h6, hsb, hwk]
        exact stiffP_mono hs ⟨hk.1, hk.2⟩ (Int.le_refl _) hwm
      rw [hwk, decide_eq_true hws, beq_self_eq_true]
      simp only [cond_true]
      by_cases hm : checkL (b.Defects ++ [d]) = 0
      · rw [hm]
        simp only [beq_self_eq_true, cond_true]
        have hmk := knotsB_valid (b := ⟨b.Id, b.Log, b.Species, b.Product, b.Box, b.Volume, b.Defects ++ [d], b.Wane, b.Cell, b.Dried, b.Grade⟩) hm h2
        have hmk2 : knotsB b ≤ knotsB ⟨b.Id, b.Log, b.Species, b.Product, b.Box, b.Volume, b.Defects ++ [d], b.Wane, b.Cell, b.Dried, b.Grade⟩ := by
          rw [hmk, hkb]
          exact knotsP_mono (worst_snoc hm 150) h2
        have hmk3 := knotsP_lo (worstP_lo hm 150).1 h2
        have hms : stiffB ⟨b.Id, b.Log, b.Species, b.Product, b.Box, b.Volume, b.Defects ++ [d], b.Wane, b.Cell, b.Dried, b.Grade⟩ s ≤ stiffB b s := by
          rw [stiffB_valid (b := ⟨_, _, _, _, _, _, _, _, _, _, _⟩) hm h2 h4 h6, hsb]
          refine stiffP_mono hs ⟨hk.1, ?_⟩ hmk2 (Int.le_refl _)
          rw [hmk]
          exact hmk3.2
        rw [decide_eq_false (Int.not_lt.2 hms), decide_eq_false (Int.not_lt.2 hmk2), r13_knot_eq]
        simp only [cond_false]
        cases hkn : knotD d with
        | true => rfl
        | false =>
          have : knotsB ⟨b.Id, b.Log, b.Species, b.Product, b.Box, b.Volume, b.Defects ++ [d], b.Wane, b.Cell, b.Dried, b.Grade⟩ = knotsB b := by
            rw [hmk, hkb]
            dsimp only
            rw [worst_snoc_not hm hkn]
            rfl
          rw [this]
          simp
      · rw [show (checkL (b.Defects ++ [d]) == 0) = false by simpa using hm]
        rfl
theorem strengthMoved_true (b : TBoard) (s : TSpecies) (o : TBoard) (hb : b.ok) (ho : o.ok) : l41_StrengthMoved_g b s o = some true := by
  unfold l41_StrengthMoved_g
  rw [aw41, right_eq hb s, knots_eq hb, stiff_eq hb s]
  simp only [bind_some']
  cases hf : l41_few_g b s with
  | false => rfl
  | true =>
    cases hr : rightB b s with
    | false => rfl
    | true =>
      obtain ⟨h1, h2, h3, h4, h5, h6⟩ := rightB_iff.1 hr
      have hbb := hb
      obtain ⟨_, _, _, _, ⟨hx, hy, hz⟩, _, q7, _, q9, _⟩ := hb
      obtain ⟨o1, o2, o3, o4, ⟨_, _, oz⟩, o6, o7, o8, o9, o10, o11⟩ := ho
      have lx := spanLen_lo hx
      have ly := spanLen_lo hy
      rw [r03_len_eq hx, r03_len_eq hy]
      have sx : (⟨0, spanLen b.Box.x⟩ : Sp).ok := ⟨by unfold I64; dsimp only; omega, by unfold I64; dsimp only; omega⟩
      have sy : (⟨0, spanLen b.Box.y⟩ : Sp).ok := ⟨by unfold I64; dsimp only; omega, by unfold I64; dsimp only; omega⟩
      have k1 : (⟨o.Id, o.Log, o.Species, o.Product, ⟨⟨0, spanLen b.Box.x⟩, ⟨0, spanLen b.Box.y⟩, o.Box.z⟩, o.Volume, b.Defects, o.Wane, b.Cell, o.Dried, o.Grade⟩ : TBoard).ok := ⟨o1, o2, o3, o4, ⟨sx, sy, oz⟩, o6, q7, o8, q9, o10, o11⟩
      have k2 : (⟨o.Id, o.Log, o.Species, o.Product, ⟨⟨0, spanLen b.Box.y⟩, ⟨0, spanLen b.Box.x⟩, o.Box.z⟩, o.Volume, b.Defects, o.Wane, b.Cell, o.Dried, o.Grade⟩ : TBoard).ok := ⟨o1, o2, o3, o4, ⟨sy, sx, oz⟩, o6, q7, o8, q9, o10, o11⟩
      rw [knots_eq k1, knots_eq k2, stiff_eq k1]
      simp only [bind_some', cond_false, cond_true, Bool.not_true]
      have len0 : ∀ n : Int, 0 ≤ n → n ≤ 9223372036854775807 → spanLen ⟨0, n⟩ = n := by
        intro n a c
        unfold spanLen spanLenU
        dsimp only
        split <;> omega
      have w1 : widthB ⟨o.Id, o.Log, o.Species, o.Product, ⟨⟨0, spanLen b.Box.x⟩, ⟨0, spanLen b.Box.y⟩, o.Box.z⟩, o.Volume, b.Defects, o.Wane, b.Cell, o.Dried, o.Grade⟩ = widthB b := by
        unfold widthB
        dsimp only
        rw [len0 _ lx.1 lx.2, len0 _ ly.1 ly.2]
      have w2 : widthB ⟨o.Id, o.Log, o.Species, o.Product, ⟨⟨0, spanLen b.Box.y⟩, ⟨0, spanLen b.Box.x⟩, o.Box.z⟩, o.Volume, b.Defects, o.Wane, b.Cell, o.Dried, o.Grade⟩ = widthB b := by
        unfold widthB
        dsimp only
        rw [len0 _ lx.1 lx.2, len0 _ ly.1 ly.2, Int.max_comm]
      have e1 : knotsB ⟨o.Id, o.Log, o.Species, o.Product, ⟨⟨0, spanLen b.Box.x⟩, ⟨0, spanLen b.Box.y⟩, o.Box.z⟩, o.Volume, b.Defects, o.Wane, b.Cell, o.Dried, o.Grade⟩ = knotsB b := by
        unfold knotsB
        rw [w1]
      have e2 : knotsB ⟨o.Id, o.Log, o.Species, o.Product, ⟨⟨0, spanLen b.Box.y⟩, ⟨0, spanLen b.Box.x⟩, o.Box.z⟩, o.Volume, b.Defects, o.Wane, b.Cell, o.Dried, o.Grade⟩ = knotsB b := by
        unfold knotsB
        rw [w2]
      have e3 : stiffB ⟨o.Id, o.Log, o.Species, o.Product, ⟨⟨0, spanLen b.Box.x⟩, ⟨0, spanLen b.Box.y⟩, o.Box.z⟩, o.Volume, b.Defects, o.Wane, b.Cell, o.Dried, o.Grade⟩ s = stiffB b s := by
        unfold stiffB
        rw [e1]
      rw [e1, e2, e3]
      simp

end Go.Proofs.Ytbgoflekklfdjaa
