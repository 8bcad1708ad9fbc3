/- P17: what functions of the program compute (written by mod.py). -/
import Derived.Test.YtjdgaclkcmjjcaaP16
import Derived.KernelRfl
namespace Go.Proofs.Ytjdgaclkcmjjcaa
open Go Go.Ab
set_option linter.unusedSimpArgs false
set_option linter.unusedVariables false
set_option maxRecDepth 20000

/-! more defects, more fines -/
theorem vsum_le {b : Bx} {fine : Int} (hf : 0 ≤ fine) : ∀ (d : List Df) (n : Int), vsum d b fine n ≤ n
  | [], n => Int.le_refl _
  | e :: d, n => by
    have h := vsum_le hf d (vf b fine n e) (b := b)
    have h1 : vf b fine n e ≤ n := by
      unfold vf
      split <;> omega
    exact Int.le_trans h h1
theorem vsum_snoc (d : List Df) (e : Df) (b : Bx) (fine n : Int) : vsum (d ++ [e]) b fine n = vf b fine (vsum d b fine n) e := by
  unfold vsum
  rw [List.foldl_append]
  rfl
theorem vsum_mono {b : Bx} {fine fine' : Int} (hf : fine ≤ fine') : ∀ (d : List Df) (n n' : Int), n' ≤ n → vsum d b fine' n' ≤ vsum d b fine n
  | [], n, n', h => h
  | e :: d, n, n', h => by
    refine vsum_mono hf d _ _ ?_
    unfold vf
    split <;> omega
theorem acc_prc {l : List TSlice} {d : List Df} {p : TProduct} {b : Bx} (h : acc l d p b = true) : (prc p (W64 (b.z.b - b.z.a))).2 = true := by
  unfold acc at h
  simp only [Bool.and_eq_true] at h
  exact h.2.2.2.1
theorem acc_less {l : List TSlice} {d : List Df} {e : Df} {p : TProduct} {b : Bx} (h : acc l (d ++ [e]) p b = true) : acc l d p b = true := by
  unfold acc at h ⊢
  simp only [Bool.and_eq_true, Bool.not_eq_true', List.any_append, Bool.or_eq_false_iff] at h ⊢
  exact ⟨h.1, h.2.1, h.2.2.1, h.2.2.2.1, h.2.2.2.2.1, h.2.2.2.2.2.1.1, h.2.2.2.2.2.2⟩
theorem vld_less {l : List TSlice} {d : List Df} {e : Df} {p : TProduct} (h : vld l (d ++ [e]) p = true) : vld l d p = true := by
  unfold vld at h ⊢
  simp only [Bool.and_eq_true, beq_iff_eq] at h ⊢
  refine ⟨h.1, ?_, h.2.2⟩
  obtain ⟨c, hc, hok⟩ := defect_total d
  obtain ⟨c', hc', hok'⟩ := defect_total (d ++ [e])
  rw [h.2.1] at hc'
  cases hc'
  have h1 := hok'.1 rfl
  have : c = 0 := hok.2 ⟨by have := h1.1; rw [List.length_append] at this; omega, fun x hx => h1.2 x (List.mem_append_left _ hx)⟩
  rw [hc, this]
theorem worthDefects_true (g : Tsawmilllaw20_Given) (b : Bx) (more : Tsawmilllaw20_Given) (hl : LowOk g.Solid) : l20_WorthDefects_g g b more = some true := by
  unfold l20_WorthDefects_g
  obtain ⟨c, hc, hsm⟩ := small_total g
  rw [hc, bind_some', aw20]
  cases c with
  | false => rfl
  | true =>
    have hS := hsm rfl
    simp only [bind_some', Bool.not_true, cond_false]
    by_cases g1 : 64 ≤ g.Defects.length
    · rw [decide_eq_true (by omega)]; rfl
    rw [decide_eq_false (by omega)]
    by_cases g2 : more.Defects.length = 0
    · rw [show (((more.Defects.length : Nat) : Int) == 0) = true by simp [g2]]; rfl
    rw [show (((more.Defects.length : Nat) : Int) == 0) = false by simp; intro h; simp [h] at g2]
    by_cases g3 : 70 < more.Defects.length
    · rw [decide_eq_true (by omega)]; rfl
    rw [decide_eq_false (by omega)]
    simp only [cond_false]
    rw [of_eq hl, bind_some', price_eq, prc_eq (by omega), bind_some']
    have e0 := getI_at (l := more.Defects) (j := 0) (by omega)
    rw [show ((0 : Nat) : Int) = 0 from rfl] at e0
    rw [appO_eq (by simp; omega) (by simp; omega), e0]
    simp only [List.nil_append, bind_some']
    rw [appO_eq (by simp; omega) (by simp; omega)]
    simp only [bind_some']
    rw [of_eq (g := ⟨g.Solid, g.Defects ++ [more.Defects[0]], g.Product, g.Fine⟩) hl b, of_eq (g := ⟨g.Solid, g.Defects, g.Product, more.Fine⟩) hl b]
    simp only [bind_some']
    rcases wo_cases g.Solid g.Defects g.Product b g.Fine with hw | ⟨w1, w2, w3, hw⟩
    · have hw2 : (wo g.Solid (g.Defects ++ [more.Defects[0]]) g.Product b g.Fine).2 = false := by
        rcases wo_cases g.Solid (g.Defects ++ [more.Defects[0]]) g.Product b g.Fine with h | ⟨v1, v2, v3, _⟩
        · rw [h]
        · exfalso
          have : wo g.Solid g.Defects g.Product b g.Fine = (val g.Defects g.Product b g.Fine, true) := by
            unfold wo
            rw [v1, vld_less v2, acc_less v3]
            rfl
          rw [hw] at this
          exact absurd (congrArg Prod.snd this) (by simp)
      rw [hw]
      rw [hw2]
      cases (wo g.Solid g.Defects g.Product b more.Fine).2 <;> rfl
    · have hf := from_t w1
      have hV := vld_t hl w2
      have hpb := prc_bd hV.prod (W64 (b.z.b - b.z.a))
      have hvl := vsum_le (b := b) hf.1 g.Defects (prc g.Product (W64 (b.z.b - b.z.a))).1
      rw [hw, acc_prc w3]
      have k1 : ¬ val g.Defects g.Product b g.Fine < 0 := by unfold val; omega
      have k2 : ¬ (prc g.Product (W64 (b.z.b - b.z.a))).1 < val g.Defects g.Product b g.Fine := by unfold val; omega
      dsimp only
      rw [decide_eq_false k1, decide_eq_false k2]
      simp only [Bool.not_true, cond_false, cond_true, bind_some', Sum.elim_inr]
      have k3 : (bif (wo g.Solid (g.Defects ++ [more.Defects[0]]) g.Product b g.Fine).2 then (bif decide (val g.Defects g.Product b g.Fine < (wo g.Solid (g.Defects ++ [more.Defects[0]]) g.Product b g.Fine).1) then some (Sum.inl false) else some (Sum.inr ())) else some (Sum.inr ()) : Option (Bool ⊕ Unit)) = some (Sum.inr ()) := by
        rcases wo_cases g.Solid (g.Defects ++ [more.Defects[0]]) g.Product b g.Fine with h | ⟨v1, v2, v3, h⟩
        · rw [h]
          rfl
        · rw [h]
          have : ¬ val g.Defects g.Product b g.Fine < val (g.Defects ++ [more.Defects[0]]) g.Product b g.Fine := by
            unfold val
            rw [vsum_snoc]
            unfold vf
            split <;> omega
          dsimp only
          rw [decide_eq_false this]
          rfl
      rw [k3]
      simp only [bind_some', Sum.elim_inr]
      rcases wo_cases g.Solid g.Defects g.Product b more.Fine with h | ⟨v1, v2, v3, h⟩
      · rw [h]
        rfl
      · rw [h]
        by_cases k4 : g.Fine ≤ more.Fine
        · rw [decide_eq_true k4]
          have : ¬ val g.Defects g.Product b g.Fine < val g.Defects g.Product b more.Fine := by
            unfold val
            have := vsum_mono (b := b) k4 g.Defects (prc g.Product (W64 (b.z.b - b.z.a))).1 _ (Int.le_refl _)
            omega
          dsimp only
          rw [decide_eq_false this]
          rfl
        · rw [decide_eq_false k4]
          rfl

end Go.Proofs.Ytjdgaclkcmjjcaa
