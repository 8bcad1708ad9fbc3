/- P2: what functions of the program compute (written by mod.py). -/
import Derived.Test.YtjdgaclkcmjjcaaP1
import Derived.KernelRfl
namespace Go.Proofs.Ytjdgaclkcmjjcaa
open Go Go.Ab
set_option linter.unusedSimpArgs false
set_option linter.unusedVariables false
set_option maxRecDepth 20000

/-! the program's checks are the reference's -/
theorem bnot_le (a b : Int) : decide (a ≤ b) = !decide (b < a) := by
  by_cases h : a ≤ b
  · rw [decide_eq_true h, decide_eq_false (by omega)]
    rfl
  · rw [decide_eq_false h, decide_eq_true (by omega)]
    rfl
theorem inRange_eq (e : Sp) : (!(section_inRange_g e)) = (r10_beyond_g e.a || r10_beyond_g e.b) := by
  rw [Bool.eq_iff_iff]
  unfold section_inRange_g r10_beyond_g
  simp only [Bool.cond_eq_ite, Bool.not_eq_true', Bool.or_eq_true, decide_eq_true_eq]
  by_cases h1 : -600 ≤ min e.a e.b
  · rw [if_pos h1, decide_eq_false_iff_not]
    by_cases h2 : e.a < -600 <;> by_cases h3 : e.b < -600 <;> simp [h2, h3] <;> omega
  · rw [if_neg h1]
    by_cases h2 : e.a < -600 <;> by_cases h3 : e.b < -600 <;> simp [h2, h3] <;> omega
theorem section_s1_eq (s : TSection) (v : Int) : section_Check_s1 s v = r10_Check_s1 s v := by
  unfold section_Check_s1 r10_Check_s1
  cases decide (v < ((s.Rows.length : Nat) : Int)) with
  | false => rfl
  | true =>
    rw [cond_true, cond_true]
    cases getI s.Rows v with
    | none => rfl
    | some e =>
      rw [bind_some', bind_some', bind_some', inRange_eq]
      cases r10_beyond_g e.a <;> cases r10_beyond_g e.b <;> rfl
theorem section_s2_eq (s : TSection) (v : Int) : section_Check_s2 s v = r10_Check_s2 s v := by
  unfold section_Check_s2 r10_Check_s2 section_isEmpty_g r10_empty_g
  cases decide (v < ((s.Rows.length : Nat) : Int)) with
  | false => rfl
  | true =>
    rw [cond_true, cond_true]
    cases getI s.Rows v with
    | none => rfl
    | some e => rfl
theorem section_check_eq (s : TSection) : section_Check_g s = r10_Check_g s := by
  unfold section_Check_g r10_Check_g
  have h1 : (fun q => section_Check_s1 s q) = (fun q => r10_Check_s1 s q) := funext fun v => section_s1_eq s v
  have h2 : (fun q => section_Check_s2 s q) = (fun q => r10_Check_s2 s q) := funext fun v => section_s2_eq s v
  rw [h1, h2]
  rfl
theorem solid_s1_eq (l : List TSlice) (n v : Int) : solid_Check_s1 l n v = r11_Check_s1 l n v := by
  unfold solid_Check_s1 r11_Check_s1
  cases decide (v < ((l.length : Nat) : Int)) with
  | false => rfl
  | true =>
    rw [cond_true, cond_true]
    cases getI l v with
    | none => rfl
    | some e =>
      simp only [bind_some']
      rw [section_check_eq]
theorem solid_check_eq (l : List TSlice) : solid_Check_g l = r11_Check_g l := by
  unfold solid_Check_g r11_Check_g
  have h1 : (fun q : Int × Int => solid_Check_s1 l q.1 q.2) = (fun q => r11_Check_s1 l q.1 q.2) := funext fun q => solid_s1_eq l q.1 q.2
  rw [h1]
theorem inside_eq (s : Sp) (low high : Int) (h : ¬ s.b ≤ s.a) : defect_inside_g s low high = r13_in_g s low high := by
  unfold defect_inside_g r13_in_g
  rw [show min s.a s.b = s.a by omega, show max s.a s.b = s.b by omega]
theorem defect_s1_eq (l : List Df) (v : Int) : defect_Check_s1 l v = r13_Check_s1 l v := by
  unfold defect_Check_s1 r13_Check_s1
  cases decide (v < ((l.length : Nat) : Int)) with
  | false => rfl
  | true =>
    rw [cond_true, cond_true]
    cases getI l v with
    | none => rfl
    | some e =>
      simp only [bind_some']
      unfold defect_check_g r13_Empty_g r13_Ranged_g
      simp only [letB_eq, defect_isEmpty_g]
      by_cases hk1 : e.k < 1
      · rw [decide_eq_true hk1]
        rfl
      · rw [decide_eq_false hk1]
        by_cases hk2 : 6 < e.k
        · rw [decide_eq_true hk2]
          rfl
        · rw [decide_eq_false hk2]
          by_cases hx : e.b.x.b ≤ e.b.x.a
          · rw [decide_eq_true hx]
            rfl
          · rw [decide_eq_false hx]
            by_cases hy : e.b.y.b ≤ e.b.y.a
            · rw [decide_eq_true hy]
              rfl
            · rw [decide_eq_false hy]
              by_cases hz : e.b.z.b ≤ e.b.z.a
              · rw [decide_eq_true hz]
                rfl
              · rw [decide_eq_false hz, inside_eq _ _ _ hx, inside_eq _ _ _ hy, inside_eq _ _ _ hz]
                cases r13_in_g e.b.x (-600) 600 <;> cases r13_in_g e.b.y (-600) 600 <;> cases r13_in_g e.b.z 0 20000 <;> rfl
theorem defect_check_eq (l : List Df) : defect_Check_g l = r13_Check_g l := by
  unfold defect_Check_g r13_Check_g
  have h1 : (fun q => defect_Check_s1 l q) = (fun q => r13_Check_s1 l q) := funext fun v => defect_s1_eq l v
  rw [h1]
theorem green_eq (p : TProduct) : product_Green_g p = r19_Green_g p := by
  unfold product_Green_g r19_Green_g product_isSize_g r19_sized_g product_grow_g
  cases decide (1 ≤ p.Thick) <;> cases decide (p.Thick ≤ 600) <;> cases decide (1 ≤ p.Width) <;> cases decide (p.Width ≤ 600) <;> rfl
theorem lengths_s1_eq (p : TProduct) (v : Int) : product_checkNumbers_s1 p v = r19_checkLengths_s1 p v := by
  unfold product_checkNumbers_s1 r19_checkLengths_s1
  cases getI p.Lengths v with
  | none => rfl
  | some e => rfl
theorem lengths_s2_eq (p : TProduct) (v : Int) : product_checkNumbers_s2 p v = r19_checkLengths_s2 p v := by
  unfold product_checkNumbers_s2 r19_checkLengths_s2
  cases getI p.Prices v with
  | none => rfl
  | some e => rfl
theorem length_s1_eq (l : List TSlice) (n v : Int) : solid_Length_s1 l n v = r11_Length_s1 l n v := rfl
theorem solid_length_eq (l : List TSlice) : solid_Length_g l = r11_Length_g l := by
  unfold solid_Length_g r11_Length_g solid_valid_g
  rw [solid_check_eq]
  cases r11_Check_g l with
  | none => rfl
  | some c =>
    simp only [bind_some']
    cases h : (c != 0) with
    | true =>
      rw [cond_true, cond_true, bind_some', loopO_done (y := (0 : Int)) rfl, bind_some']
    | false => rfl

end Go.Proofs.Ytjdgaclkcmjjcaa
