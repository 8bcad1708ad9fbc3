/- P7: what functions of the program compute (written by mod.py). -/
import Derived.Test.YtjdgaclkcmjjcaaP6
import Derived.KernelRfl
namespace Go.Proofs.Ytjdgaclkcmjjcaa
open Go Go.Ab
set_option linter.unusedSimpArgs false
set_option linter.unusedVariables false
set_option maxRecDepth 20000

/-! names, products, prices, touches -/
noncomputable def nameC (c : Int) : Bool := ident_isSmall_g c || (ident_isDigit_g c || c == 95)
theorem name_both (s : ByteArray) : ∃ b, ident_IsName_g s = some b ∧ r02_IsName_g s = some b := by
  unfold ident_IsName_g r02_IsName_g
  by_cases h1 : s.size < 1
  · rw [decide_eq_true (by omega)]
    exact ⟨false, rfl, rfl⟩
  · rw [decide_eq_false (by omega), cond_false, cond_false]
    by_cases h2 : 16 < s.size
    · rw [decide_eq_true (by omega)]
      exact ⟨false, rfl, rfl⟩
    · rw [decide_eq_false (by omega), cond_false, cond_false]
      have hb : bytO s 0 = some (byteAt s 0) := bytO_eq (n := 0) (by omega)
      have l1 : loopO (fun q => ident_IsName_s1 s q) 1 = some (bif (List.range (s.size - 1)).all (fun j => nameC (byteAt s (j + 1))) then .inr () else .inl false) := by
        refine loopO_allN (step := fun q : Int => ident_IsName_s1 s q) (s.size - 1) (fun j => ((j + 1 : Nat) : Int)) (fun j => nameC (byteAt s (j + 1))) false (fun j hj => ?_) ?_
        · unfold ident_IsName_s1
          rw [lt_nat (by omega), cond_true, bytO_eq (by omega), bind_some', W64_succ (by omega)]
          unfold nameC
          cases ident_isSmall_g (byteAt s (j + 1)) <;> cases ident_isDigit_g (byteAt s (j + 1)) <;> cases h : (byteAt s (j + 1) == 95) <;> simp [bne, h]
        · unfold ident_IsName_s1
          rw [show s.size - 1 + 1 = s.size by omega, nlt_nat]
          rfl
      have l2 : loopO (fun q => r02_IsName_s1 s q) 1 = some (bif (List.range (s.size - 1)).all (fun j => nameC (byteAt s (j + 1))) then .inr () else .inl false) := by
        refine loopO_allN (step := fun q : Int => r02_IsName_s1 s q) (s.size - 1) (fun j => ((j + 1 : Nat) : Int)) (fun j => nameC (byteAt s (j + 1))) false (fun j hj => ?_) ?_
        · unfold r02_IsName_s1
          rw [lt_nat (by omega), cond_true, bytO_eq (by omega)]
          simp only [bind_some']
          rw [W64_succ (by omega), show (((j + 1 : Nat) : Int) == 0) = false by simp; omega]
          unfold nameC ident_isSmall_g ident_isDigit_g r02_digit_g
          cases decide (97 ≤ byteAt s (j + 1)) <;> cases decide (byteAt s (j + 1) ≤ 122) <;> cases decide (48 ≤ byteAt s (j + 1)) <;> cases decide (byteAt s (j + 1) ≤ 57) <;> cases h : (byteAt s (j + 1) == 95) <;> simp [bne, h]
        · unfold r02_IsName_s1
          rw [show s.size - 1 + 1 = s.size by omega, nlt_nat]
          rfl
      rw [hb, bind_some']
      have hs : r02_IsName_s1 s 0 = bif ident_isSmall_g (byteAt s 0) then some (.inl 1) else some (.inr (.inl false)) := by
        unfold r02_IsName_s1
        rw [show decide ((0 : Int) < ((s.size : Nat) : Int)) = true by rw [decide_eq_true_eq]; omega, cond_true, hb]
        simp only [bind_some']
        unfold ident_isSmall_g
        cases decide (97 ≤ byteAt s 0) <;> cases decide (byteAt s 0 ≤ 122) <;> rfl
      cases hc : ident_isSmall_g (byteAt s 0) with
      | false =>
        rw [hc] at hs
        rw [loopO_done hs]
        exact ⟨false, rfl, rfl⟩
      | true =>
        rw [hc] at hs
        rw [loopO_next hs, l1, l2]
        cases (List.range (s.size - 1)).all (fun j => nameC (byteAt s (j + 1))) with
        | false => exact ⟨false, rfl, rfl⟩
        | true => exact ⟨true, rfl, rfl⟩
theorem numbers_eq (p : TProduct) : product_checkNumbers_g p = (bif (decide (p.Thick < 5)) then some 9 else (bif (decide (300 < p.Thick)) then some 9 else (bif (decide (p.Width < p.Thick)) then some 9 else (bif (decide (600 < p.Width)) then some 9 else (bif (decide (p.Allow < 0)) then some 9 else (bif (decide (200 < p.Allow)) then some 9 else (bif (decide (p.Wane < 0)) then some 9 else (bif (decide (1000 < p.Wane)) then some 9 else (bif (decide (600 < (r19_Green_g p).2)) then some 9 else r19_checkLengths_g p))))))))) := by
  unfold product_checkNumbers_g r19_checkLengths_g
  have h1 : (fun q => product_checkNumbers_s1 p q) = (fun q => r19_checkLengths_s1 p q) := funext fun v => lengths_s1_eq p v
  have h2 : (fun q => product_checkNumbers_s2 p q) = (fun q => r19_checkLengths_s2 p q) := funext fun v => lengths_s2_eq p v
  rw [h1, h2, letB_eq, green_eq]
structure ProdOk (p : TProduct) : Prop where
  t : 5 ≤ p.Thick ∧ p.Thick ≤ 300
  w : p.Thick ≤ p.Width ∧ p.Width ≤ 600
  a : 0 ≤ p.Allow ∧ p.Allow ≤ 200
  n : 0 ≤ p.Wane ∧ p.Wane ≤ 1000
  l : p.Lengths.length ≤ 8
  s : p.Prices.length = p.Lengths.length
  r : ∀ (j : Nat) (hj : j < p.Lengths.length), 100 ≤ p.Lengths[j] ∧ p.Lengths[j] ≤ 20000 ∧ ∀ (hi : 0 < j), p.Lengths[j - 1] < p.Lengths[j]
  c : ∀ (j : Nat) (hj : j < p.Prices.length), 0 ≤ p.Prices[j] ∧ p.Prices[j] ≤ 1000000
theorem lengths_total (p : TProduct) : ∃ c, r19_checkLengths_g p = some c ∧ (c = 0 → p.Lengths.length ≤ 8 ∧ p.Prices.length = p.Lengths.length ∧ (∀ (j : Nat) (hj : j < p.Lengths.length), 100 ≤ p.Lengths[j] ∧ p.Lengths[j] ≤ 20000 ∧ ∀ (hi : 0 < j), p.Lengths[j - 1] < p.Lengths[j]) ∧ ∀ (j : Nat) (hj : j < p.Prices.length), 0 ≤ p.Prices[j] ∧ p.Prices[j] ≤ 1000000) := by
  unfold r19_checkLengths_g
  by_cases h0 : p.Lengths.length = 0
  · rw [show ((((p.Lengths.length : Nat) : Int)) == 0) = true by simp [h0]]
    exact ⟨3, rfl, fun h => by omega⟩
  · rw [show ((((p.Lengths.length : Nat) : Int)) == 0) = false by simp; intro h; simp [h] at h0, cond_false]
    by_cases h1 : 8 < p.Lengths.length
    · rw [decide_eq_true (by omega)]
      exact ⟨4, rfl, fun h => by omega⟩
    · rw [decide_eq_false (by omega), cond_false]
      by_cases h2 : p.Prices.length = p.Lengths.length
      · rw [show ((((p.Prices.length : Nat) : Int)) != ((p.Lengths.length : Nat) : Int)) = false by simp [h2], cond_false]
        obtain ⟨y, hy, hG⟩ := loopO_inv (step := fun q : Int => r19_checkLengths_s1 p q) (fun q => ∃ k : Nat, k ≤ p.Lengths.length ∧ q = (k : Int) ∧ ∀ (j : Nat) (hj : j < p.Lengths.length), j < k → 100 ≤ p.Lengths[j] ∧ p.Lengths[j] ≤ 20000 ∧ ∀ (hi : 0 < j), p.Lengths[j - 1] < p.Lengths[j]) (fun q => p.Lengths.length - q.toNat) (fun y => (∃ c, y = .inl c ∧ c ≠ 0) ∨ (y = .inr () ∧ ∀ (j : Nat) (hj : j < p.Lengths.length), 100 ≤ p.Lengths[j] ∧ p.Lengths[j] ≤ 20000 ∧ ∀ (hi : 0 < j), p.Lengths[j - 1] < p.Lengths[j])) (by
          rintro q ⟨k, hk, rfl, ha⟩
          unfold r19_checkLengths_s1
          rcases Nat.lt_or_ge k p.Lengths.length with hlt | hge
          · rw [lt_nat hlt, cond_true, getI_at hlt]
            simp only [bind_some']
            by_cases h3 : p.Lengths[k] < 100
            · rw [decide_eq_true h3]
              exact .inr ⟨_, rfl, .inl ⟨_, rfl, by omega⟩⟩
            · rw [decide_eq_false h3, cond_false]
              by_cases h4 : 20000 < p.Lengths[k]
              · rw [decide_eq_true h4]
                exact .inr ⟨_, rfl, .inl ⟨_, rfl, by omega⟩⟩
              · rw [decide_eq_false h4, cond_false, W64_succ (by omega)]
                have hnext : ∀ (hh : ∀ (hi : 0 < k), p.Lengths[k - 1] < p.Lengths[k]), (∃ x', (some (Sum.inl ((k + 1 : Nat) : Int)) : Option (Int ⊕ (Int ⊕ Unit))) = some (.inl x') ∧ (∃ k : Nat, k ≤ p.Lengths.length ∧ x' = (k : Int) ∧ ∀ (j : Nat) (hj : j < p.Lengths.length), j < k → 100 ≤ p.Lengths[j] ∧ p.Lengths[j] ≤ 20000 ∧ ∀ (hi : 0 < j), p.Lengths[j - 1] < p.Lengths[j]) ∧ p.Lengths.length - x'.toNat < p.Lengths.length - ((k : Int)).toNat) := by
                  intro hh
                  refine ⟨_, rfl, ⟨k + 1, by omega, rfl, fun j hj hjk => ?_⟩, by omega⟩
                  rcases Nat.lt_or_ge j k with h5 | h5
                  · exact ha j hj h5
                  · have : j = k := by omega
                    subst this
                    exact ⟨by omega, by omega, hh⟩
                by_cases h5 : 0 < k
                · have g1 := getI_at (l := p.Lengths) (j := k - 1) (by omega)
                  rw [decide_eq_true (p := (0 : Int) < (k : Int)) (by omega), cond_true, W64_eq (by omega) (by omega), show (k : Int) - 1 = ((k - 1 : Nat) : Int) by omega, g1, bind_some']
                  by_cases h6 : p.Lengths[k] ≤ p.Lengths[k - 1]
                  · rw [decide_eq_true h6]
                    exact .inr ⟨_, rfl, .inl ⟨_, rfl, by omega⟩⟩
                  · rw [decide_eq_false h6]
                    exact .inl (hnext fun _ => by omega)
                · rw [decide_eq_false (p := (0 : Int) < (k : Int)) (by omega)]
                  exact .inl (hnext fun h => absurd h h5)
          · have : k = p.Lengths.length := by omega
            subst this
            rw [nlt_nat]
            exact .inr ⟨_, rfl, .inr ⟨rfl, fun j hj => ha j hj hj⟩⟩) 0 ⟨0, by omega, rfl, fun j _ h => by omega⟩
        rw [hy, bind_some']
        rcases hG with ⟨c, rfl, hc⟩ | ⟨rfl, hok⟩
        · exact ⟨c, rfl, fun h => absurd h hc⟩
        · rw [Sum.elim_inr]
          have hloop := loopO_allN (step := fun q : Int => r19_checkLengths_s2 p q) p.Prices.length (fun j => (j : Int)) (fun j => (p.Prices[j]?).elim true fun e => !(decide (e < 0) || decide (1000000 < e))) (9 : Int) (fun j hj => by
            unfold r19_checkLengths_s2
            rw [lt_nat hj, cond_true, getI_at hj, bind_some', bind_some', W64_succ (by omega), List.getElem?_eq_getElem hj]
            show _ = bif !(decide (p.Prices[j] < 0) || decide (1000000 < p.Prices[j])) then _ else _
            cases decide (p.Prices[j] < 0) <;> cases decide (1000000 < p.Prices[j]) <;> rfl) (by
            unfold r19_checkLengths_s2
            rw [nlt_nat]
            rfl)
          rw [show ((0 : Nat) : Int) = 0 from rfl] at hloop
          rw [hloop, bind_some']
          cases hall : (List.range p.Prices.length).all (fun j => (p.Prices[j]?).elim true fun e => !(decide (e < 0) || decide (1000000 < e))) with
          | false => exact ⟨9, rfl, fun h => by omega⟩
          | true =>
            refine ⟨0, rfl, fun _ => ⟨by omega, h2, hok, fun j hj => ?_⟩⟩
            rw [List.all_eq_true] at hall
            have := hall j (List.mem_range.2 hj)
            rw [List.getElem?_eq_getElem hj] at this
            have h4 : (!(decide (p.Prices[j] < 0) || decide (1000000 < p.Prices[j]))) = true := this
            rw [Bool.not_eq_true', Bool.or_eq_false_iff, decide_eq_false_iff_not, decide_eq_false_iff_not] at h4
            omega
      · rw [show ((((p.Prices.length : Nat) : Int)) != ((p.Lengths.length : Nat) : Int)) = true by simp; omega]
        exact ⟨19, rfl, fun h => by omega⟩

end Go.Proofs.Ytjdgaclkcmjjcaa
