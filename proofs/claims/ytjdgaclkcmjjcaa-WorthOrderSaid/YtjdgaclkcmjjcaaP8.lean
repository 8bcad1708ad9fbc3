/- P8: what functions of the program compute (written by mod.py). -/
import Derived.Test.YtjdgaclkcmjjcaaP7
import Derived.KernelRfl
namespace Go.Proofs.Ytjdgaclkcmjjcaa
open Go Go.Ab
set_option linter.unusedSimpArgs false
set_option linter.unusedVariables false
set_option maxRecDepth 20000

/-! products, prices, touches -/
theorem numbers_total (p : TProduct) : ∃ c, product_checkNumbers_g p = some c ∧ (c = 0 → ProdOk p) := by
  rw [numbers_eq]
  by_cases h1 : p.Thick < 5
  · rw [decide_eq_true h1]
    exact ⟨9, rfl, fun h => by omega⟩
  rw [decide_eq_false h1, cond_false]
  by_cases h2 : 300 < p.Thick
  · rw [decide_eq_true h2]
    exact ⟨9, rfl, fun h => by omega⟩
  rw [decide_eq_false h2, cond_false]
  by_cases h3 : p.Width < p.Thick
  · rw [decide_eq_true h3]
    exact ⟨9, rfl, fun h => by omega⟩
  rw [decide_eq_false h3, cond_false]
  by_cases h4 : 600 < p.Width
  · rw [decide_eq_true h4]
    exact ⟨9, rfl, fun h => by omega⟩
  rw [decide_eq_false h4, cond_false]
  by_cases h5 : p.Allow < 0
  · rw [decide_eq_true h5]
    exact ⟨9, rfl, fun h => by omega⟩
  rw [decide_eq_false h5, cond_false]
  by_cases h6 : 200 < p.Allow
  · rw [decide_eq_true h6]
    exact ⟨9, rfl, fun h => by omega⟩
  rw [decide_eq_false h6, cond_false]
  by_cases h7 : p.Wane < 0
  · rw [decide_eq_true h7]
    exact ⟨9, rfl, fun h => by omega⟩
  rw [decide_eq_false h7, cond_false]
  by_cases h8 : 1000 < p.Wane
  · rw [decide_eq_true h8]
    exact ⟨9, rfl, fun h => by omega⟩
  rw [decide_eq_false h8, cond_false]
  cases decide (600 < (r19_Green_g p).2) with
  | true => exact ⟨9, rfl, fun h => by omega⟩
  | false =>
    obtain ⟨c, hc, hok⟩ := lengths_total p
    refine ⟨c, hc, fun h => ?_⟩
    obtain ⟨a1, a2, a3, a4⟩ := hok h
    exact ⟨by omega, by omega, by omega, by omega, a1, a2, a3, a4⟩
theorem prod_step (p : TProduct) : product_Check_s1 [p] 0 = (ident_IsName_g p.Name).bind fun iv => bif !iv then some (.inr (.inl 6)) else (product_checkNumbers_g p).bind fun cv => bif (cv != 0) then some (.inr (.inl cv)) else some (.inl 1) := by
  unfold product_Check_s1
  show (Option.bind (ident_IsName_g p.Name) fun iv => (bif (!iv) then some (Sum.inr (Sum.inl 6)) else (Option.bind (product_Find_g [] p.Name) (fun fv => (bif fv.2 then some (Sum.inr (Sum.inl 7)) else (Option.bind (product_checkNumbers_g p) (fun cv => (bif (cv != 0) then some (Sum.inr (Sum.inl cv)) else some (Sum.inl 1))))))))) = _
  have hf : product_Find_g [] p.Name = some (0, false) := by
    unfold product_Find_g
    rw [loopO_done (y := .inr ()) rfl]
    rfl
  rw [hf]
  rfl
theorem r19_step (p : TProduct) : r19_Check_s1 [p] 0 = (r02_IsName_g p.Name).bind fun iv => bif !iv then some (.inr (.inl 6)) else (product_checkNumbers_g p).bind fun cv => bif (cv != 0) then some (.inr (.inl cv)) else some (.inl 1) := by
  rw [numbers_eq]
  unfold r19_Check_s1
  rw [show decide ((0 : Int) < (([p].length : Nat) : Int)) = true from rfl, cond_true, show getI [p] 0 = some p from rfl, bind_some']
  cases r02_IsName_g p.Name with
  | none => rfl
  | some iv =>
    rw [bind_some', bind_some']
    cases iv with
    | false => rfl
    | true =>
      rw [show (!true) = false from rfl, cond_false, cond_false, loopO_done (y := .inr ()) rfl, bind_some', Sum.elim_inr, letB_eq]
      cases decide (p.Thick < 5) with
      | true => rfl
      | false =>
      cases decide (300 < p.Thick) with
      | true => rfl
      | false =>
      cases decide (p.Width < p.Thick) with
      | true => rfl
      | false =>
      cases decide (600 < p.Width) with
      | true => rfl
      | false =>
      cases decide (p.Allow < 0) with
      | true => rfl
      | false =>
      cases decide (200 < p.Allow) with
      | true => rfl
      | false =>
      cases decide (p.Wane < 0) with
      | true => rfl
      | false =>
      cases decide (1000 < p.Wane) with
      | true => rfl
      | false =>
      cases decide (600 < (r19_Green_g p).2) with
      | true => rfl
      | false =>
      cases r19_checkLengths_g p with
      | none => rfl
      | some c =>
        simp only [cond_false, bind_some']
        cases (c != 0) <;> rfl
theorem prod_both (p : TProduct) : ∃ c, product_Check_g [p] = some c ∧ r19_Check_g [p] = some c ∧ (c = 0 → ProdOk p) := by
  obtain ⟨b, n1, n2⟩ := name_both p.Name
  obtain ⟨c, hc, hok⟩ := numbers_total p
  have s1 := prod_step p
  have s2 := r19_step p
  rw [n1, hc, bind_some', bind_some'] at s1
  rw [n2, hc, bind_some', bind_some'] at s2
  have e1 : product_Check_s1 [p] 1 = some (.inr (.inr ())) := rfl
  have e2 : r19_Check_s1 [p] 1 = some (.inr (.inr ())) := rfl
  unfold product_Check_g r19_Check_g
  rw [show decide ((16 : Int) < (([p].length : Nat) : Int)) = false from rfl, cond_false, cond_false]
  cases b with
  | false =>
    rw [loopO_done (step := fun q => product_Check_s1 [p] q) s1, loopO_done (step := fun q => r19_Check_s1 [p] q) s2]
    exact ⟨6, rfl, rfl, fun h => by omega⟩
  | true =>
    by_cases h0 : c = 0
    · subst h0
      rw [loopO_next (step := fun q => product_Check_s1 [p] q) s1, loopO_next (step := fun q => r19_Check_s1 [p] q) s2, loopO_done (step := fun q => product_Check_s1 [p] q) e1, loopO_done (step := fun q => r19_Check_s1 [p] q) e2]
      exact ⟨0, rfl, rfl, hok⟩
    · rw [ne_t h0] at s1 s2
      rw [loopO_done (step := fun q => product_Check_s1 [p] q) s1, loopO_done (step := fun q => r19_Check_s1 [p] q) s2]
      exact ⟨c, rfl, rfl, hok⟩
theorem price_s1_eq (p : TProduct) (n v : Int) : product_Price_s1 p n v = r19_Price_s1 p n v := by
  unfold product_Price_s1 r19_Price_s1
  cases decide (v < ((p.Lengths.length : Nat) : Int)) with
  | false => rfl
  | true =>
    cases getI p.Lengths v with
    | none => rfl
    | some e =>
      simp only [cond_true, bind_some', bne]
      cases (e == n) <;> rfl
theorem price_eq (p : TProduct) (n : Int) : product_Price_g p n = r19_Price_g p n := by
  unfold product_Price_g r19_Price_g
  have h1 : (fun q => product_Price_s1 p n q) = (fun q => r19_Price_s1 p n q) := funext fun v => price_s1_eq p n v
  rw [h1]
theorem touches_eq (d : Df) (b : Bx) : defect_Touches_g d b = r13_Touches_g d b := by
  unfold defect_Touches_g r13_Touches_g defect_meet_g r13_Meet_g r13_Empty_g defect_isEmpty_g
  simp only [letB_eq]
  rw [show span_Meet_g = r03_Meet_g from rfl]
  cases decide ((r03_Meet_g d.b.x b.x).b ≤ (r03_Meet_g d.b.x b.x).a) <;> cases decide ((r03_Meet_g d.b.y b.y).b ≤ (r03_Meet_g d.b.y b.y).a) <;> cases decide ((r03_Meet_g d.b.z b.z).b ≤ (r03_Meet_g d.b.z b.z).a) <;> rfl

end Go.Proofs.Ytjdgaclkcmjjcaa
