/- P12: what functions of the program compute (written by mod.py). -/
import Derived.Test.YtjdgaclkcmjjcaaP11
import Derived.KernelRfl
namespace Go.Proofs.Ytjdgaclkcmjjcaa
open Go Go.Ab
set_option linter.unusedSimpArgs false
set_option linter.unusedVariables false
set_option maxRecDepth 20000

/-! worth on both sides -/
noncomputable def dgood (e : Df) : Bool := !(bif decide (e.k < 1) then true else decide (6 < e.k)) && (!(r13_Empty_g e.b) && r13_Ranged_g e.b)
theorem defect_total (d : List Df) : ∃ c, r13_Check_g d = some c ∧ (c = 0 ↔ d.length ≤ 64 ∧ ∀ e ∈ d, dgood e = true) := by
  unfold r13_Check_g
  by_cases h1 : 64 < d.length
  · rw [decide_eq_true (by omega)]
    exact ⟨4, rfl, by omega⟩
  · rw [decide_eq_false (by omega), cond_false]
    obtain ⟨y, hy, hG⟩ := loopO_inv (step := fun q : Int => r13_Check_s1 d q) (fun q => ∃ k : Nat, k ≤ d.length ∧ q = (k : Int) ∧ ∀ (j : Nat) (hj : j < d.length), j < k → dgood d[j] = true) (fun q => d.length - q.toNat) (fun y => (∃ c, y = .inl c ∧ c ≠ 0 ∧ ∃ e ∈ d, dgood e = false) ∨ (y = .inr () ∧ ∀ e ∈ d, dgood e = true)) (by
      rintro q ⟨k, hk, rfl, ha⟩
      unfold r13_Check_s1
      rcases Nat.lt_or_ge k d.length with hlt | hge
      · rw [lt_nat hlt, cond_true, getI_at hlt]
        simp only [bind_some']
        have hmem := List.getElem_mem hlt
        have hg : dgood d[k] = (!(bif decide (d[k].k < 1) then true else decide (6 < d[k].k)) && (!(r13_Empty_g d[k].b) && r13_Ranged_g d[k].b)) := rfl
        have hv : (bif decide (d[k].k < 1) then some true else some (decide (6 < d[k].k))) = some (bif decide (d[k].k < 1) then true else decide (6 < d[k].k)) := by
          cases decide (d[k].k < 1) <;> rfl
        rw [hv, bind_some', W64_succ (by omega)]
        cases hA : (bif decide (d[k].k < 1) then true else decide (6 < d[k].k)) with
        | true =>
          rw [hA] at hg
          exact .inr ⟨_, rfl, .inl ⟨_, rfl, by omega, _, hmem, hg⟩⟩
        | false =>
          rw [hA] at hg
          cases hB : r13_Empty_g d[k].b with
          | true =>
            rw [hB] at hg
            exact .inr ⟨_, rfl, .inl ⟨_, rfl, by omega, _, hmem, hg⟩⟩
          | false =>
            rw [hB] at hg
            cases hC : r13_Ranged_g d[k].b with
            | false =>
              rw [hC] at hg
              exact .inr ⟨_, rfl, .inl ⟨_, rfl, by omega, _, hmem, hg⟩⟩
            | true =>
              rw [hC] at hg
              refine .inl ⟨_, rfl, ⟨k + 1, by omega, rfl, fun j hj hjk => ?_⟩, by omega⟩
              rcases Nat.lt_or_ge j k with h5 | h5
              · exact ha j hj h5
              · have : j = k := by omega
                subst this
                exact hg
      · have : k = d.length := by omega
        subst this
        rw [nlt_nat]
        refine .inr ⟨_, rfl, .inr ⟨rfl, fun e he => ?_⟩⟩
        obtain ⟨j, hj, rfl⟩ := List.getElem_of_mem he
        exact ha j hj hj) 0 ⟨0, by omega, rfl, fun j _ h => by omega⟩
    rw [hy, bind_some']
    rcases hG with ⟨c, rfl, hc, e, he, hb⟩ | ⟨rfl, hok⟩
    · refine ⟨c, rfl, fun h => absurd h hc, fun h => ?_⟩
      rw [h.2 e he] at hb
      exact absurd hb (by simp)
    · exact ⟨0, rfl, fun _ => ⟨by omega, hok⟩, fun _ => rfl⟩
/-- All three checks pass. -/
noncomputable def vld (l : List TSlice) (d : List Df) (p : TProduct) : Bool := (r11_Check_g l == some 0) && ((r13_Check_g d == some 0) && (r19_Check_g [p] == some 0))
theorem vld_t {l : List TSlice} (hl : LowOk l) {d : List Df} {p : TProduct} (h : vld l d p = true) : Valid l d p := by
  unfold vld at h
  simp only [Bool.and_eq_true, beq_iff_eq] at h
  obtain ⟨h1, h2, h3⟩ := h
  obtain ⟨c1, e1, ok1⟩ := solid_total l hl
  obtain ⟨c2, e2, ok2⟩ := defect_total d
  obtain ⟨c3, _, e3, ok3⟩ := prod_both p
  rw [h1] at e1
  rw [h2] at e2
  rw [h3] at e3
  cases e1
  cases e2
  cases e3
  exact ⟨ok1 rfl, h1, (ok2.1 rfl).1, ok3 rfl⟩
theorem r20_valid_eq {l : List TSlice} (hl : LowOk l) (d : List Df) (p : TProduct) : r20_valid_g l d p = some (vld l d p) := by
  obtain ⟨c1, e1, ok1⟩ := solid_total l hl
  obtain ⟨c2, e2, ok2⟩ := defect_total d
  obtain ⟨c3, _, e3, ok3⟩ := prod_both p
  unfold r20_valid_g vld
  rw [e1, e2, e3]
  simp only [bind_some']
  have hs : ∀ c : Int, (some c == some (0 : Int)) = (c == 0) := fun c => rfl
  rw [hs, hs, hs]
  cases (c1 == 0) <;> cases (c2 == 0) <;> rfl

end Go.Proofs.Ytjdgaclkcmjjcaa
