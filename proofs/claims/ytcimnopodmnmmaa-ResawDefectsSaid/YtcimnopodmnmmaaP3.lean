/- P3: what functions of the program compute (written by mod.py). -/
import Derived.Test.YtcimnopodmnmmaaP2
import Derived.KernelRfl
namespace Go.Proofs.Ytcimnopodmnmmaa
open Go Go.Ab
set_option linter.unusedSimpArgs false
set_option linter.unusedVariables false
set_option maxRecDepth 20000
set_option maxHeartbeats 1000000


/-! the program's checks are the reference's -/
theorem green_eq (p : TProduct) : product_Green_g p = r19_Green_g p := by
  unfold product_Green_g r19_Green_g product_isSize_g r19_sized_g product_grow_g
  cases decide (1 ≤ p.Thick) <;> cases decide (p.Thick ≤ 600) <;> cases decide (1 ≤ p.Width) <;> cases decide (p.Width ≤ 600) <;> rfl
theorem lengths_s1_eq (p : TProduct) (v : Int) : product_checkNumbers_s1 p v = r19_checkLengths_s1 p v := by
  unfold product_checkNumbers_s1 r19_checkLengths_s1
  cases getI p.Lengths v with
  | none => rfl
  | some e => rfl
theorem lengths_s2_eq (p : TProduct) (v : Int) : product_checkNumbers_s2 p v = r19_checkLengths_s2 p v := by
  unfold product_checkNumbers_s2 r19_checkLengths_s2
  cases getI p.Prices v with
  | none => rfl
  | some e => rfl

/-! names, products, prices, touches -/
noncomputable def nameC (c : Int) : Bool := ident_isSmall_g c || (ident_isDigit_g c || c == 95)
theorem name_both (s : ByteArray) : ∃ b, ident_IsName_g s = some b ∧ r02_IsName_g s = some b := by
  unfold ident_IsName_g r02_IsName_g
  by_cases h1 : s.size < 1
  · rw [decide_eq_true (by omega)]
    exact ⟨false, rfl, rfl⟩
  · rw [decide_eq_false (by omega), cond_false, cond_false]
    by_cases h2 : 16 < s.size
    · rw [decide_eq_true (by omega)]
      exact ⟨false, rfl, rfl⟩
    · rw [decide_eq_false (by omega), cond_false, cond_false]
      have hb : bytO s 0 = some (byteAt s 0) := bytO_eq (n := 0) (by omega)
      have l1 : loopO (fun q => ident_IsName_s1 s q) 1 = some (bif (List.range (s.size - 1)).all (fun j => nameC (byteAt s (j + 1))) then .inr () else .inl false) := by
        refine loopO_allN (step := fun q : Int => ident_IsName_s1 s q) (s.size - 1) (fun j => ((j + 1 : Nat) : Int)) (fun j => nameC (byteAt s (j + 1))) false (fun j hj => ?_) ?_
        · unfold ident_IsName_s1
          rw [lt_nat (by omega), cond_true, bytO_eq (by omega), bind_some', W64_succ (by omega)]
          unfold nameC
          cases ident_isSmall_g (byteAt s (j + 1)) <;> cases ident_isDigit_g (byteAt s (j + 1)) <;> cases h : (byteAt s (j + 1) == 95) <;> simp [bne, h]
        · unfold ident_IsName_s1
          rw [show s.size - 1 + 1 = s.size by omega, nlt_nat]
          rfl
      have l2 : loopO (fun q => r02_IsName_s1 s q) 1 = some (bif (List.range (s.size - 1)).all (fun j => nameC (byteAt s (j + 1))) then .inr () else .inl false) := by
        refine loopO_allN (step := fun q : Int => r02_IsName_s1 s q) (s.size - 1) (fun j => ((j + 1 : Nat) : Int)) (fun j => nameC (byteAt s (j + 1))) false (fun j hj => ?_) ?_
        · unfold r02_IsName_s1
          rw [lt_nat (by omega), cond_true, bytO_eq (by omega)]
          simp only [bind_some']
          rw [W64_succ (by omega), show (((j + 1 : Nat) : Int) == 0) = false by simp; omega]
          unfold nameC ident_isSmall_g ident_isDigit_g r02_digit_g
          cases decide (97 ≤ byteAt s (j + 1)) <;> cases decide (byteAt s (j + 1) ≤ 122) <;> cases decide (48 ≤ byteAt s (j + 1)) <;> cases decide (byteAt s (j + 1) ≤ 57) <;> cases h : (byteAt s (j + 1) == 95) <;> simp [bne, h]
        · unfold r02_IsName_s1
          rw [show s.size - 1 + 1 = s.size by omega, nlt_nat]
          rfl
      rw [hb, bind_some']
      have hs : r02_IsName_s1 s 0 = bif ident_isSmall_g (byteAt s 0) then some (.inl 1) else some (.inr (.inl false)) := by
        unfold r02_IsName_s1
        rw [show decide ((0 : Int) < ((s.size : Nat) : Int)) = true by rw [decide_eq_true_eq]; omega, cond_true, hb]
        simp only [bind_some']
        unfold ident_isSmall_g
        cases decide (97 ≤ byteAt s 0) <;> cases decide (byteAt s 0 ≤ 122) <;> rfl
      cases hc : ident_isSmall_g (byteAt s 0) with
      | false =>
        rw [hc] at hs
        rw [loopO_done hs]
        exact ⟨false, rfl, rfl⟩
      | true =>
        rw [hc] at hs
        rw [loopO_next hs, l1, l2]
        cases (List.range (s.size - 1)).all (fun j => nameC (byteAt s (j + 1))) with
        | false => exact ⟨false, rfl, rfl⟩
        | true => exact ⟨true, rfl, rfl⟩
theorem numbers_eq (p : TProduct) : product_checkNumbers_g p = (bif (decide (p.Thick < 5)) then some 9 else (bif (decide (300 < p.Thick)) then some 9 else (bif (decide (p.Width < p.Thick)) then some 9 else (bif (decide (600 < p.Width)) then some 9 else (bif (decide (p.Allow < 0)) then some 9 else (bif (decide (200 < p.Allow)) then some 9 else (bif (decide (p.Wane < 0)) then some 9 else (bif (decide (1000 < p.Wane)) then some 9 else (bif (decide (600 < (r19_Green_g p).2)) then some 9 else r19_checkLengths_g p))))))))) := by
  unfold product_checkNumbers_g r19_checkLengths_g
  have h1 : (fun q => product_checkNumbers_s1 p q) = (fun q => r19_checkLengths_s1 p q) := funext fun v => lengths_s1_eq p v
  have h2 : (fun q => product_checkNumbers_s2 p q) = (fun q => r19_checkLengths_s2 p q) := funext fun v => lengths_s2_eq p v
  rw [h1, h2, letB_eq, green_eq]
structure ProdOk (p : TProduct) : Prop where
  t : 5 ≤ p.Thick ∧ p.Thick ≤ 300
  w : p.Thick ≤ p.Width ∧ p.Width ≤ 600
  a : 0 ≤ p.Allow ∧ p.Allow ≤ 200
  n : 0 ≤ p.Wane ∧ p.Wane ≤ 1000
  l : p.Lengths.length ≤ 8
  s : p.Prices.length = p.Lengths.length
  r : ∀ (j : Nat) (hj : j < p.Lengths.length), 100 ≤ p.Lengths[j] ∧ p.Lengths[j] ≤ 20000 ∧ ∀ (hi : 0 < j), p.Lengths[j - 1] < p.Lengths[j]
  c : ∀ (j : Nat) (hj : j < p.Prices.length), 0 ≤ p.Prices[j] ∧ p.Prices[j] ≤ 1000000
theorem lengths_total (p : TProduct) : ∃ c, r19_checkLengths_g p = some c ∧ (c = 0 → p.Lengths.length ≤ 8 ∧ p.Prices.length = p.Lengths.length ∧ (∀ (j : Nat) (hj : j < p.Lengths.length), 100 ≤ p.Lengths[j] ∧ p.Lengths[j] ≤ 20000 ∧ ∀ (hi : 0 < j), p.Lengths[j - 1] < p.Lengths[j]) ∧ ∀ (j : Nat) (hj : j < p.Prices.length), 0 ≤ p.Prices[j] ∧ p.Prices[j] ≤ 1000000) := by
  unfold r19_checkLengths_g
  by_cases h0 : p.Lengths.length = 0
  · rw [show ((((p.Lengths.length : Nat) : Int)) == 0) = true by simp [h0]]
    exact ⟨3, rfl, fun h => by omega⟩
  · rw [show ((((p.Lengths.length : Nat) : Int)) == 0) = false by simp; intro h; simp [h] at h0, cond_false]
    by_cases h1 : 8 < p.Lengths.length
    · rw [decide_eq_true (by omega)]
      exact ⟨4, rfl, fun h => by omega⟩
    · rw [decide_eq_false (by omega), cond_false]
      by_cases h2 : p.Prices.length = p.Lengths.length
      · rw [show ((((p.Prices.length : Nat) : Int)) != ((p.Lengths.length : Nat) : Int)) = false by simp [h2], cond_false]
        obtain ⟨y, hy, hG⟩ := loopO_inv (step := fun q : Int => r19_checkLengths_s1 p q) (fun q => ∃ k : Nat, k ≤ p.Lengths.length ∧ q = (k : Int) ∧ ∀ (j : Nat) (hj : j < p.Lengths.length), j < k → 100 ≤ p.Lengths[j] ∧ p.Lengths[j] ≤ 20000 ∧ ∀ (hi : 0 < j), p.Lengths[j - 1] < p.Lengths[j]) (fun q => p.Lengths.length - q.toNat) (fun y => (∃ c, y = .inl c ∧ c ≠ 0) ∨ (y = .inr () ∧ ∀ (j : Nat) (hj : j < p.Lengths.length), 100 ≤ p.Lengths[j] ∧ p.Lengths[j] ≤ 20000 ∧ ∀ (hi : 0 < j), p.Lengths[j - 1] < p.Lengths[j])) (by
          rintro q ⟨k, hk, rfl, ha⟩
          unfold r19_checkLengths_s1
          rcases Nat.lt_or_ge k p.Lengths.length with hlt | hge
          · rw [lt_nat hlt, cond_true, getI_at hlt]
            simp only [bind_some']
            by_cases h3 : p.Lengths[k] < 100
            · rw [decide_eq_true h3]
              exact .inr ⟨_, rfl, .inl ⟨_, rfl, by omega⟩⟩
            · rw [decide_eq_false h3, cond_false]
              by_cases h4 : 20000 < p.Lengths[k]
              · rw [decide_eq_true h4]
                exact .inr ⟨_, rfl, .inl ⟨_, rfl, by omega⟩⟩
              · rw [decide_eq_false h4, cond_false, W64_succ (by omega)]
                have hnext : ∀ (hh : ∀ (hi : 0 < k), p.Lengths[k - 1] < p.Lengths[k]), (∃ x', (some (Sum.inl ((k + 1 : Nat) : Int)) : Option (Int ⊕ (Int ⊕ Unit))) = some (.inl x') ∧ (∃ k : Nat, k ≤ p.Lengths.length ∧ x' = (k : Int) ∧ ∀ (j : Nat) (hj : j < p.Lengths.length), j < k → 100 ≤ p.Lengths[j] ∧ p.Lengths[j] ≤ 20000 ∧ ∀ (hi : 0 < j), p.Lengths[j - 1] < p.Lengths[j]) ∧ p.Lengths.length - x'.toNat < p.Lengths.length - ((k : Int)).toNat) := by
                  intro hh
                  refine ⟨_, rfl, ⟨k + 1, by omega, rfl, fun j hj hjk => ?_⟩, by omega⟩
                  rcases Nat.lt_or_ge j k with h5 | h5
                  · exact ha j hj h5
                  · have : j = k := by omega
                    subst this
                    exact ⟨by omega, by omega, hh⟩
                by_cases h5 : 0 < k
                · have g1 := getI_at (l := p.Lengths) (j := k - 1) (by omega)
                  rw [decide_eq_true (p := (0 : Int) < (k : Int)) (by omega), cond_true, W64_eq (by omega) (by omega), show (k : Int) - 1 = ((k - 1 : Nat) : Int) by omega, g1, bind_some']
                  by_cases h6 : p.Lengths[k] ≤ p.Lengths[k - 1]
                  · rw [decide_eq_true h6]
                    exact .inr ⟨_, rfl, .inl ⟨_, rfl, by omega⟩⟩
                  · rw [decide_eq_false h6]
                    exact .inl (hnext fun _ => by omega)
                · rw [decide_eq_false (p := (0 : Int) < (k : Int)) (by omega)]
                  exact .inl (hnext fun h => absurd h h5)
          · have : k = p.Lengths.length := by omega
            subst this
            rw [nlt_nat]
            exact .inr ⟨_, rfl, .inr ⟨rfl, fun j hj => ha j hj hj⟩⟩) 0 ⟨0, by omega, rfl, fun j _ h => by omega⟩
        rw [hy, bind_some']
        rcases hG with ⟨c, rfl, hc⟩ | ⟨rfl, hok⟩
        · exact ⟨c, rfl, fun h => absurd h hc⟩
        · rw [Sum.elim_inr]
          have hloop := loopO_allN (step := fun q : Int => r19_checkLengths_s2 p q) p.Prices.length (fun j => (j : Int)) (fun j => (p.Prices[j]?).elim true fun e => !(decide (e < 0) || decide (1000000 < e))) (9 : Int) (fun j hj => by
            unfold r19_checkLengths_s2
            rw [lt_nat hj, cond_true, getI_at hj, bind_some', bind_some', W64_succ (by omega), List.getElem?_eq_getElem hj]
            show _ = bif !(decide (p.Prices[j] < 0) || decide (1000000 < p.Prices[j])) then _ else _
            cases decide (p.Prices[j] < 0) <;> cases decide (1000000 < p.Prices[j]) <;> rfl) (by
            unfold r19_checkLengths_s2
            rw [nlt_nat]
            rfl)
          rw [show ((0 : Nat) : Int) = 0 from rfl] at hloop
          rw [hloop, bind_some']
          cases hall : (List.range p.Prices.length).all (fun j => (p.Prices[j]?).elim true fun e => !(decide (e < 0) || decide (1000000 < e))) with
          | false => exact ⟨9, rfl, fun h => by omega⟩
          | true =>
            refine ⟨0, rfl, fun _ => ⟨by omega, h2, hok, fun j hj => ?_⟩⟩
            rw [List.all_eq_true] at hall
            have := hall j (List.mem_range.2 hj)
            rw [List.getElem?_eq_getElem hj] at this
            have h4 : (!(decide (p.Prices[j] < 0) || decide (1000000 < p.Prices[j]))) = true := this
            rw [Bool.not_eq_true', Bool.or_eq_false_iff, decide_eq_false_iff_not, decide_eq_false_iff_not] at h4
            omega
      · rw [show ((((p.Prices.length : Nat) : Int)) != ((p.Lengths.length : Nat) : Int)) = true by simp; omega]
        exact ⟨19, rfl, fun h => by omega⟩

theorem numbers_total (p : TProduct) : ∃ c, product_checkNumbers_g p = some c ∧ (c = 0 → ProdOk p) := by
  rw [numbers_eq]
  by_cases h1 : p.Thick < 5
  · rw [decide_eq_true h1]
    exact ⟨9, rfl, fun h => by omega⟩
  rw [decide_eq_false h1, cond_false]
  by_cases h2 : 300 < p.Thick
  · rw [decide_eq_true h2]
    exact ⟨9, rfl, fun h => by omega⟩
  rw [decide_eq_false h2, cond_false]
  by_cases h3 : p.Width < p.Thick
  · rw [decide_eq_true h3]
    exact ⟨9, rfl, fun h => by omega⟩
  rw [decide_eq_false h3, cond_false]
  by_cases h4 : 600 < p.Width
  · rw [decide_eq_true h4]
    exact ⟨9, rfl, fun h => by omega⟩
  rw [decide_eq_false h4, cond_false]
  by_cases h5 : p.Allow < 0
  · rw [decide_eq_true h5]
    exact ⟨9, rfl, fun h => by omega⟩
  rw [decide_eq_false h5, cond_false]
  by_cases h6 : 200 < p.Allow
  · rw [decide_eq_true h6]
    exact ⟨9, rfl, fun h => by omega⟩
  rw [decide_eq_false h6, cond_false]
  by_cases h7 : p.Wane < 0
  · rw [decide_eq_true h7]
    exact ⟨9, rfl, fun h => by omega⟩
  rw [decide_eq_false h7, cond_false]
  by_cases h8 : 1000 < p.Wane
  · rw [decide_eq_true h8]
    exact ⟨9, rfl, fun h => by omega⟩
  rw [decide_eq_false h8, cond_false]
  cases decide (600 < (r19_Green_g p).2) with
  | true => exact ⟨9, rfl, fun h => by omega⟩
  | false =>
    obtain ⟨c, hc, hok⟩ := lengths_total p
    refine ⟨c, hc, fun h => ?_⟩
    obtain ⟨a1, a2, a3, a4⟩ := hok h
    exact ⟨by omega, by omega, by omega, by omega, a1, a2, a3, a4⟩


/-! two loops that go together -/
theorem loopO_both {X Y : Type} {s1 s2 : X → Option (X ⊕ Y)} (n : Nat) (st : Nat → X) (Good : Nat → Prop) (Bad : Y → Prop) (fin : Y)
    (h : ∀ j, j < n → (s1 (st j) = some (.inl (st (j + 1))) ∧ s2 (st j) = some (.inl (st (j + 1))) ∧ Good j) ∨ ∃ y, s1 (st j) = some (.inr y) ∧ s2 (st j) = some (.inr y) ∧ Bad y)
    (he : s1 (st n) = some (.inr fin) ∧ s2 (st n) = some (.inr fin)) : ∃ y, loopO s1 (st 0) = some y ∧ loopO s2 (st 0) = some y ∧ ((y = fin ∧ ∀ j, j < n → Good j) ∨ Bad y) := by
  have : ∀ k, k ≤ n → ∃ y, loopO s1 (st (n - k)) = some y ∧ loopO s2 (st (n - k)) = some y ∧ ((y = fin ∧ ∀ j, n - k ≤ j → j < n → Good j) ∨ Bad y) := by
    intro k
    induction k with
    | zero =>
      intro _
      exact ⟨fin, loopO_done he.1, loopO_done he.2, .inl ⟨rfl, fun j h1 h2 => by omega⟩⟩
    | succ k ih =>
      intro hk
      rcases h (n - (k + 1)) (by omega) with ⟨g1, g2, g3⟩ | ⟨y, g1, g2, g3⟩
      · obtain ⟨y, e1, e2, e3⟩ := ih (by omega)
        rw [show n - (k + 1) + 1 = n - k by omega] at g1 g2
        refine ⟨y, by rw [loopO_next g1, e1], by rw [loopO_next g2, e2], e3.imp (fun ⟨hy, e3⟩ => ⟨hy, fun j h1 h2 => ?_⟩) id⟩
        by_cases hj : j = n - (k + 1)
        · rw [hj]
          exact g3
        · exact e3 j (by omega) h2
      · exact ⟨y, loopO_done g1, loopO_done g2, .inr g3⟩
  obtain ⟨y, e1, e2, e3⟩ := this n (Nat.le_refl _)
  rw [Nat.sub_self] at e1 e2 e3
  exact ⟨y, e1, e2, e3.imp (fun ⟨hy, e3⟩ => ⟨hy, fun j hj => e3 j (by omega) hj⟩) id⟩
/-! is a number in a list -/
theorem index_eq {l : List Int} (hl : l.length ≤ 9223372036854775807) (n : Int) : slices_Contains___int_int__g l n = some (l.any fun e => e == n) := by
  unfold slices_Contains___int_int__g slices_Index___int_int__g
  have := loopO_findN (step := fun q : Int => slices_Index___int_int__s1 l n q) l.length (fun j => (j : Int)) (fun j => (l[j]?).elim false fun e => e == n) (fun j => .inl (j : Int)) (.inr ()) (fun j hj hp => by
    rw [List.getElem?_eq_getElem hj] at hp
    have hp' : (l[j] == n) = false := hp
    unfold slices_Index___int_int__s1
    rw [lt_nat hj, cond_true, getI_at hj, bind_some', show (n == l[j]) = false by rw [← hp', Bool.eq_iff_iff]; simp; exact eq_comm, W64_succ (by omega)]
    rfl) (fun j hj hp => by
    rw [List.getElem?_eq_getElem hj] at hp
    have hp' : (l[j] == n) = true := hp
    unfold slices_Index___int_int__s1
    rw [lt_nat hj, cond_true, getI_at hj, bind_some', show (n == l[j]) = true by rw [← hp', Bool.eq_iff_iff]; simp; exact eq_comm]
    rfl) (by
    unfold slices_Index___int_int__s1
    rw [nlt_nat]
    rfl)
  rw [show ((0 : Nat) : Int) = 0 from rfl] at this
  rw [this, bind_some']
  cases hf : (List.range l.length).find? (fun j => (l[j]?).elim false fun e => e == n) with
  | none =>
    rw [List.find?_eq_none] at hf
    have : (l.any fun e => e == n) = false := by
      rw [List.any_eq_false]
      intro e he
      obtain ⟨j, hj, rfl⟩ := List.getElem_of_mem he
      have := hf j (List.mem_range.2 hj)
      rw [List.getElem?_eq_getElem hj] at this
      exact this
    rw [this]
    rfl
  | some j =>
    have h1 := List.find?_some hf
    have h2 := List.mem_range.1 (List.mem_of_find?_eq_some hf)
    rw [List.getElem?_eq_getElem h2] at h1
    have : (l.any fun e => e == n) = true := by
      rw [List.any_eq_true]
      exact ⟨l[j], List.getElem_mem h2, h1⟩
    rw [this]
    show some (decide (0 ≤ (j : Int))) = some true
    rw [decide_eq_true (by omega)]
/-! check letters -/

/-! catalogs -/
theorem find_eq {l : List TProduct} (hl : l.length ≤ 1000000) (name : ByteArray) : ∃ k, product_Find_g l name = some (k, l.any fun q => bEq q.Name name) := by
  unfold product_Find_g
  have := loopO_findN (step := fun q : Int => product_Find_s1 l name q) l.length (fun j => (j : Int)) (fun j => (l[j]?).elim false fun e => bEq e.Name name) (fun j => .inl ((j : Int), true)) (.inr ()) (fun j hj hp => by
    rw [List.getElem?_eq_getElem hj] at hp
    have hp' : bEq l[j].Name name = false := hp
    unfold product_Find_s1
    rw [lt_nat hj, cond_true, getI_at hj, bind_some', hp', W64_succ (by omega)]
    rfl) (fun j hj hp => by
    rw [List.getElem?_eq_getElem hj] at hp
    have hp' : bEq l[j].Name name = true := hp
    unfold product_Find_s1
    rw [lt_nat hj, cond_true, getI_at hj, bind_some', hp']
    rfl) (by
    unfold product_Find_s1
    rw [nlt_nat]
    rfl)
  rw [show ((0 : Nat) : Int) = 0 from rfl] at this
  rw [this, bind_some']
  cases hf : (List.range l.length).find? (fun j => (l[j]?).elim false fun e => bEq e.Name name) with
  | none =>
    rw [List.find?_eq_none] at hf
    have : (l.any fun q => bEq q.Name name) = false := by
      rw [List.any_eq_false]
      intro e he
      obtain ⟨j, hj, rfl⟩ := List.getElem_of_mem he
      have := hf j (List.mem_range.2 hj)
      rw [List.getElem?_eq_getElem hj] at this
      exact this
    rw [this]
    exact ⟨0, rfl⟩
  | some j =>
    have h1 := List.find?_some hf
    have h2 := List.mem_range.1 (List.mem_of_find?_eq_some hf)
    rw [List.getElem?_eq_getElem h2] at h1
    have : (l.any fun q => bEq q.Name name) = true := by
      rw [List.any_eq_true]
      exact ⟨l[j], List.getElem_mem h2, h1⟩
    rw [this]
    exact ⟨_, rfl⟩
theorem r19_s2 {l : List TProduct} (hl : l.length ≤ 1000000) {i : Nat} (hi : i ≤ l.length) (e : TProduct) : loopO (fun q : Int => r19_Check_s2 l (i : Int) e q) 0 = some (bif (l.take i).any (fun q => bEq q.Name e.Name) then .inl (.inl (.inr (.inl 7))) else .inr ()) := by
  have hlen : (l.take i).length = i := by rw [List.length_take]; omega
  have := loopO_foldX (step := fun q : Int => r19_Check_s2 l (i : Int) e q) (l.take i) (fun q => bEq q.Name e.Name) (fun (u : Unit) _ => u) () (fun _ j => (j : Int)) (.inl (.inl (.inr (.inl 7)))) (fun _ => .inr ()) (fun _ _ => True) trivial (fun _ _ _ _ _ => trivial) (fun s j hj _ hb => by
    rw [hlen] at hj
    unfold r19_Check_s2
    rw [List.getElem_take] at hb
    rw [lt_nat hj, cond_true, getI_at (show j < l.length by omega), bind_some', hb, cond_false, W64_succ (by omega)]) (fun s j hj _ hb => by
    rw [hlen] at hj
    unfold r19_Check_s2
    rw [List.getElem_take] at hb
    rw [lt_nat hj, cond_true, getI_at (show j < l.length by omega), bind_some', hb]
    rfl) (fun _ _ => by
    unfold r19_Check_s2
    rw [hlen, nlt_nat]
    rfl)
  exact this
/-- The catalog's check is the same on both sides, and what it says. -/
theorem catalog_both (c : List TProduct) : ∃ e, product_Check_g c = some e ∧ r19_Check_g c = some e ∧ (e = 0 → c.length ≤ 16 ∧ ∀ p ∈ c, ProdOk p) := by
  unfold product_Check_g r19_Check_g
  by_cases h16 : 16 < c.length
  · rw [decide_eq_true (by omega)]
    exact ⟨4, rfl, rfl, fun h => by omega⟩
  · rw [decide_eq_false (by omega), cond_false, cond_false]
    obtain ⟨y, h1, h2, h3⟩ := loopO_both (s1 := fun q => product_Check_s1 c q) (s2 := fun q => r19_Check_s1 c q) c.length (fun j => (j : Int)) (fun j => ∀ hj : j < c.length, ProdOk c[j]) (fun y => ∃ v, y = .inl v ∧ v ≠ 0) (.inr ()) (fun j hj => by
      obtain ⟨b, n1, n2⟩ := name_both c[j].Name
      obtain ⟨k, hf⟩ := find_eq (l := c.take j) (by rw [List.length_take]; omega) c[j].Name
      obtain ⟨v, hv, hok⟩ := numbers_total c[j]
      have hsub : subO c 0 (j : Int) = some (c.take j) := by
        rw [subO_eq (by omega) (by omega) (by omega)]
        simp
      have e1 : product_Check_s1 c (j : Int) = bif b then (bif (c.take j).any (fun q => bEq q.Name c[j].Name) then some (.inr (.inl 7)) else (bif (v != 0) then some (.inr (.inl v)) else some (.inl ((j + 1 : Nat) : Int)))) else some (.inr (.inl 6)) := by
        unfold product_Check_s1
        rw [lt_nat hj, cond_true, getI_at hj, bind_some', n1, bind_some', hsub, bind_some', hf, bind_some', hv, bind_some', W64_succ (by omega)]
        cases b <;> rfl
      have e2 : r19_Check_s1 c (j : Int) = bif b then (bif (c.take j).any (fun q => bEq q.Name c[j].Name) then some (.inr (.inl 7)) else (bif (v != 0) then some (.inr (.inl v)) else some (.inl ((j + 1 : Nat) : Int)))) else some (.inr (.inl 6)) := by
        rw [numbers_eq] at hv
        unfold r19_Check_s1
        rw [lt_nat hj, cond_true, getI_at hj, bind_some', n2, bind_some', r19_s2 (by omega) (by omega), bind_some', W64_succ (by omega)]
        cases b with
        | false => rfl
        | true =>
          cases (c.take j).any (fun q => bEq q.Name c[j].Name) with
          | true => rfl
          | false =>
            rw [show (!true) = false from rfl, cond_false, cond_true, cond_false, cond_false, Sum.elim_inr, letB_eq]
            revert hv
            cases decide (c[j].Thick < 5) with
            | true => intro hv; cases hv; rfl
            | false =>
            cases decide (300 < c[j].Thick) with
            | true => intro hv; cases hv; rfl
            | false =>
            cases decide (c[j].Width < c[j].Thick) with
            | true => intro hv; cases hv; rfl
            | false =>
            cases decide (600 < c[j].Width) with
            | true => intro hv; cases hv; rfl
            | false =>
            cases decide (c[j].Allow < 0) with
            | true => intro hv; cases hv; rfl
            | false =>
            cases decide (200 < c[j].Allow) with
            | true => intro hv; cases hv; rfl
            | false =>
            cases decide (c[j].Wane < 0) with
            | true => intro hv; cases hv; rfl
            | false =>
            cases decide (1000 < c[j].Wane) with
            | true => intro hv; cases hv; rfl
            | false =>
            cases decide (600 < (r19_Green_g c[j]).2) with
            | true => intro hv; cases hv; rfl
            | false =>
              intro hv
              have hv' : r19_checkLengths_g c[j] = some v := hv
              simp only [cond_false]
              rw [hv', bind_some']
              cases (v != 0) <;> rfl
      rw [e1, e2]
      cases b with
      | false => exact .inr ⟨_, rfl, rfl, _, rfl, by omega⟩
      | true =>
        cases (c.take j).any (fun q => bEq q.Name c[j].Name) with
        | true => exact .inr ⟨_, rfl, rfl, _, rfl, by omega⟩
        | false =>
          by_cases h0 : v = 0
          · subst h0
            exact .inl ⟨rfl, rfl, fun _ => hok rfl⟩
          · rw [show (v != 0) = true by simp [h0]]
            exact .inr ⟨_, rfl, rfl, _, rfl, h0⟩) (by
      unfold product_Check_s1 r19_Check_s1
      rw [nlt_nat]
      exact ⟨rfl, rfl⟩)
    rw [show ((0 : Nat) : Int) = 0 from rfl] at h1 h2
    rw [h1, h2, bind_some']
    rcases h3 with ⟨rfl, h3⟩ | ⟨v, rfl, hv⟩
    · refine ⟨0, rfl, rfl, fun _ => ⟨by omega, fun p hp => ?_⟩⟩
      obtain ⟨j, hj, rfl⟩ := List.getElem_of_mem hp
      exact h3 j hj hj
    · exact ⟨v, rfl, rfl, fun h => absurd h hv⟩


def emS (s : Sp) : Bool := decide (s.b ≤ s.a)
def emB (b : Bx) : Bool := emS b.x || (emS b.y || emS b.z)
def insideB (s : Sp) (lo hi : Int) : Bool := decide (lo ≤ min s.a s.b) && decide (max s.a s.b ≤ hi)
/-- The error of a defect. -/
def dcheck (d : Df) : Int :=
  bif decide (d.k < 1) || decide (6 < d.k) then 10
  else bif emB d.b then 19
  else bif !insideB d.b.x (-600) 600 || (!insideB d.b.y (-600) 600 || !insideB d.b.z 0 20000) then 9 else 0
def bmeet (p q : Bx) : Bx := ⟨meet p.x q.x, meet p.y q.y, meet p.z q.z⟩
def zeroB : Bx := ⟨⟨0, 0⟩, ⟨0, 0⟩, ⟨0, 0⟩⟩
def touchB (p q : Bx) : Bool := !emB (bmeet p q)
def mbox (p q : Bx) : Bx := bif touchB p q then bmeet p q else zeroB
def sizeD (d : Df) : Int := max (spanLen d.b.x) (spanLen d.b.y)
def backS (s : Sp) (n : Int) : Sp := ⟨IntKind.i64.wrap (s.a - n), IntKind.i64.wrap (s.b - n)⟩
def knotD (d : Df) : Bool := (d.k == 1) || (d.k == 2)
def insB (s : Sp) (lo hi : Int) : Bool := decide (lo ≤ s.a) && decide (s.b ≤ hi)
def rangedB (b : Bx) : Bool := insB b.x (-600) 600 && (insB b.y (-600) 600 && insB b.z 0 20000)
def boundedS (s : Sp) : Bool := decide (-1099511627776 ≤ s.a) && (decide (s.a ≤ 1099511627776) && (decide (-1099511627776 ≤ s.b) && decide (s.b ≤ 1099511627776)))
def byS (s : Sp) (n : Int) : Sp := ⟨IntKind.i64.wrap (s.a + n), IntKind.i64.wrap (s.b + n)⟩
def moveB (b : Bx) (x y z : Int) : Bx := ⟨byS b.x x, byS b.y y, byS b.z z⟩
def firstNZ {α : Type} (f : α → Int) : List α → Int
  | [] => 0
  | a :: l => if f a = 0 then firstNZ f l else f a
theorem firstNZ_at {α : Type} {f : α → Int} : ∀ {l : List α} {k : Nat} (hk : k < l.length), (∀ d, d ∈ l.take k → f d = 0) → f l[k] ≠ 0 → firstNZ f l = f l[k]
  | a :: l, 0, _, _, h => by
    simp only [List.getElem_cons_zero] at h ⊢
    simp [firstNZ, h]
  | a :: l, k + 1, hk, hz, h => by
    have h0 : f a = 0 := hz a (by simp)
    simp only [List.getElem_cons_succ] at h ⊢
    rw [firstNZ, if_pos h0]
    exact firstNZ_at (by simpa using hk) (fun d hd => hz d (by simp [hd])) h
theorem firstNZ_zero {α : Type} {f : α → Int} : ∀ {l : List α}, (∀ d, d ∈ l → f d = 0) → firstNZ f l = 0
  | [], _ => rfl
  | a :: l, h => by
    rw [firstNZ, if_pos (h a (by simp))]
    exact firstNZ_zero fun d hd => h d (by simp [hd])
theorem firstNZ_all {α : Type} {f : α → Int} : ∀ {l : List α}, firstNZ f l = 0 → ∀ d, d ∈ l → f d = 0
  | [], _, d, hd => by simp at hd
  | a :: l, h, d, hd => by
    rw [firstNZ] at h
    split at h
    · rename_i h0
      rcases List.mem_cons.1 hd with rfl | hd
      · exact h0
      · exact firstNZ_all h d hd
    · rename_i h0; exact absurd h h0
theorem take_zero_succ {α : Type} {f : α → Int} {l : List α} {k : Nat} (hk : k < l.length) (hz : ∀ d, d ∈ l.take k → f d = 0) (h : f l[k] = 0) : ∀ d, d ∈ l.take (k + 1) → f d = 0 := by
  intro d hd
  rw [take_succ_get hk, List.mem_append] at hd
  rcases hd with hd | hd
  · exact hz d hd
  · simp at hd; rw [hd]; exact h
def checkL (l : List Df) : Int := if 64 < l.length then 4 else firstNZ dcheck l
/-- The error of a defect, as the specification says it. -/
def rdcheck (d : Df) : Int := bif decide (d.k < 1) || decide (6 < d.k) then 10 else bif emB d.b then 19 else bif !rangedB d.b then 9 else 0
theorem insideB_eq {s : Sp} (h : emS s = false) (lo hi : Int) : insideB s lo hi = insB s lo hi := by
  unfold emS at h
  have h := of_decide_eq_false h
  unfold insideB insB
  congr 1
  · exact decide_eq_decide.2 (by omega)
  · exact decide_eq_decide.2 (by omega)
theorem dcheck_eq (d : Df) : dcheck d = rdcheck d := by
  unfold dcheck rdcheck
  cases h : emB d.b
  · unfold emB at h
    simp only [Bool.or_eq_false_iff] at h
    rw [insideB_eq h.1, insideB_eq h.2.1, insideB_eq h.2.2]
    simp [rangedB]
  · simp
theorem foldl_take {α β : Type} {f : β → α → β} {a : β} {l : List α} {k : Nat} (hk : k < l.length) : (l.take (k + 1)).foldl f a = f ((l.take k).foldl f a) l[k] := by
  rw [take_succ_get hk, List.foldl_append]
  rfl
def Oks (l : List Df) : Prop := ∀ d, d ∈ l → d.ok
theorem Oks.at {l : List Df} (h : Oks l) {k : Nat} (hk : k < l.length) : (l[k]).ok := h _ (List.getElem_mem hk)
theorem meet_em (s t : Sp) : decide ((meet s t).a < (meet s t).b) = !emS (meet s t) := by
  unfold emS
  by_cases h : (meet s t).a < (meet s t).b
  · simp [h]
  · simp [h, Int.not_lt.1 h]
def backB (b q : Bx) : Bx := ⟨backS b.x q.x.a, backS b.y q.y.a, backS b.z q.z.a⟩
def clipOne (b : Bx) (d : Df) : Option Df := bif touchB d.b b then some ⟨d.k, backB (mbox d.b b) b⟩ else none
def b3 (b : Bx) : Nat → Sp
  | 0 => b.x
  | 1 => b.y
  | _ => b.z
theorem b3_succ {b : Bx} {k : Nat} (hz : ∀ i, i < k → insideB (b3 b i) (-1099511627776) 1099511627776 = true) (h : insideB (b3 b k) (-1099511627776) 1099511627776 = true) : ∀ i, i < k + 1 → insideB (b3 b i) (-1099511627776) 1099511627776 = true := by
  intro i hi
  by_cases e : i = k
  · rw [e]; exact h
  · exact hz i (by omega)
def okB (b : Bx) : Prop := ∀ i, i < 3 → insideB (b3 b i) (-1099511627776) 1099511627776 = true
instance (b : Bx) : Decidable (okB b) := inferInstanceAs (Decidable (∀ i, i < 3 → _))
def clipD (l : List Df) (b : Bx) : List Df := if checkL l = 0 ∧ okB b then l.filterMap (clipOne b) else []
theorem filterMap_take {α β : Type} {f : α → Option β} {l : List α} {k : Nat} (hk : k < l.length) : (l.take (k + 1)).filterMap f = (l.take k).filterMap f ++ (f l[k]).toList := by
  rw [take_succ_get hk, List.filterMap_append]
  cases h : f l[k] <;> simp [h]
theorem checkL_len {l : List Df} (h : checkL l = 0) : l.length ≤ 64 := by
  unfold checkL at h
  split at h
  · cases h
  · omega
theorem bounded_eq (s : Sp) : boundedS s = insideB s (-1099511627776) 1099511627776 := by
  unfold boundedS insideB
  simp only [← Bool.decide_and]
  exact decide_eq_decide.2 (by omega)
theorem okB_iff (b : Bx) : okB b ↔ boundedS b.x = true ∧ boundedS b.y = true ∧ boundedS b.z = true := by
  simp only [bounded_eq]
  constructor
  · intro h
    exact ⟨h 0 (by omega), h 1 (by omega), h 2 (by omega)⟩
  · rintro ⟨h0, h1, h2⟩ i hi
    match i, hi with
    | 0, _ => exact h0
    | 1, _ => exact h1
    | 2, _ => exact h2
theorem by_back {s t : Sp} (h : boundedS t = true) : byS s (IntKind.i64.wrap (0 - t.a)) = backS s t.a := by
  unfold boundedS at h
  simp only [Bool.and_eq_true, decide_eq_true_eq] at h
  rw [w64_id' (by omega) (by omega)]
  unfold byS backS
  rw [Int.zero_sub, ← Int.sub_eq_add_neg, ← Int.sub_eq_add_neg]
theorem move_back {p b : Bx} (h : okB b) : moveB p (IntKind.i64.wrap (0 - b.x.a)) (IntKind.i64.wrap (0 - b.y.a)) (IntKind.i64.wrap (0 - b.z.a)) = backB p b := by
  obtain ⟨h0, h1, h2⟩ := (okB_iff b).1 h
  unfold moveB backB
  rw [by_back h0, by_back h1, by_back h2]
def zeroD : Df := ⟨0, zeroB⟩
theorem eqDf_iff (x y : Df) : eqA (encDf x).cells (encDf y).cells = decide (x = y) := by
  obtain ⟨k, ⟨⟨a, b⟩, ⟨c, d⟩, ⟨e, f⟩⟩⟩ := x
  obtain ⟨k', ⟨⟨a', b'⟩, ⟨c', d'⟩, ⟨e', f'⟩⟩⟩ := y
  show (k == k' && (a == a' && (b == b' && (c == c' && (d == d' && (e == e' && (f == f' && true))))))) = _
  rw [Bool.eq_iff_iff]
  simp [and_assoc]
theorem take_eq_succ {a b : List Df} {k : Nat} (ha : k < a.length) (hb : k < b.length) (h : a.take k = b.take k) (he : a[k] = b[k]) : a.take (k + 1) = b.take (k + 1) := by
  rw [take_succ_get ha, take_succ_get hb, h, he]



/-! what the functions of the packages span and defect, and their references, compute -/
theorem span_size_eq {s : Sp} (h : s.ok) : span_size_g s = spanLenU s := by
  obtain ⟨ha, hb⟩ := h
  unfold I64 at ha hb
  unfold span_size_g spanLenU
  simp only [Bool.cond_decide, WU64, wu64]
  split <;> omega
theorem span_len_eq {s : Sp} (h : s.ok) : span_Len_g s = spanLen s := by
  unfold span_Len_g span_limited_g
  rw [span_size_eq h]
  have := spanLenU_lo h
  unfold spanLen
  rw [W64_eq (by omega) (by omega)]
theorem span_meet_eq (a b : Sp) : span_Meet_g a b = meet a b := by unfold span_Meet_g meet; simp only [Bool.cond_decide]
theorem r03_meet_eq (a b : Sp) : r03_Meet_g a b = meet a b := by unfold r03_Meet_g meet; simp only [Bool.cond_decide]
theorem d_check_eq (d : Df) : defect_check_g d = dcheck d := by
  unfold defect_check_g dcheck letB emB insideB defect_isEmpty_g defect_inside_g emS
  grind
theorem r13_empty_eq (b : Bx) : r13_Empty_g b = emB b := by unfold r13_Empty_g emB emS; grind
theorem r13_ranged_eq (b : Bx) : r13_Ranged_g b = rangedB b := by unfold r13_Ranged_g rangedB insB r13_in_g; grind
theorem firstNZ_find {α : Type} (f : α → Int) : ∀ l : List α, firstNZ f l = (l.find? (fun e => f e != 0)).elim 0 f
  | [] => rfl
  | a :: l => by
    rw [firstNZ, List.find?_cons]
    by_cases h : f a = 0
    · simp [h, firstNZ_find f l]
    · have h' : (f a != 0) = true := by simpa using h
      rw [if_neg h, h']
      rfl
theorem d_checkL_eq {l : List Df} (hl : l.length ≤ 9223372036854775807) : defect_Check_g l = some (checkL l) := by
  unfold defect_Check_g checkL
  by_cases h : 64 < l.length
  · rw [if_pos h, decide_eq_true (by omega), cond_true]
  · have := loopO_find (step := fun q => defect_Check_s1 l q) l (fun j => ((j : Nat) : Int)) (fun e => dcheck e != 0) (fun e => Sum.inl (dcheck e)) (Sum.inr ()) (by
      intro j hj hp
      unfold defect_Check_s1
      rw [lt_nat hj, getI_at hj, cond_true, bind_some', d_check_eq, hp, cond_false, W64_succ (by omega)]) (by
      intro j hj hp
      unfold defect_Check_s1
      rw [lt_nat hj, getI_at hj, cond_true, bind_some', d_check_eq, hp, cond_true]) (by
      unfold defect_Check_s1
      rw [nlt_nat, cond_false])
    rw [show ((0 : Int)) = ((0 : Nat) : Int) from rfl, this, firstNZ_find, if_neg h, decide_eq_false (by omega), cond_false, bind_some']
    cases l.find? (fun e => dcheck e != 0) <;> rfl
theorem r13_checkL_eq {l : List Df} (hl : l.length ≤ 9223372036854775807) : r13_Check_g l = some (checkL l) := by
  unfold r13_Check_g checkL
  by_cases h : 64 < l.length
  · rw [if_pos h, decide_eq_true (by omega), cond_true]
  · have key : ∀ j (hj : j < l.length), r13_Check_s1 l (j : Int) = bif dcheck l[j] != 0 then some (Sum.inr (Sum.inl (dcheck l[j]))) else some (Sum.inl (((j + 1 : Nat)) : Int)) := by
      intro j hj
      unfold r13_Check_s1
      rw [lt_nat hj, getI_at hj, cond_true]
      simp only [bind_some', r13_empty_eq, r13_ranged_eq, W64_succ (show j < 9223372036854775807 by omega), dcheck_eq, rdcheck]
      grind
    have := loopO_find (step := fun q => r13_Check_s1 l q) l (fun j => ((j : Nat) : Int)) (fun e => dcheck e != 0) (fun e => Sum.inl (dcheck e)) (Sum.inr ()) (by
      intro j hj hp
      rw [key j hj, hp, cond_false]) (by
      intro j hj hp
      rw [key j hj, hp, cond_true]) (by
      unfold r13_Check_s1
      rw [nlt_nat, cond_false])
    rw [show ((0 : Int)) = ((0 : Nat) : Int) from rfl, this, firstNZ_find, if_neg h, decide_eq_false (by omega), cond_false, bind_some']
    cases l.find? (fun e => dcheck e != 0) <;> rfl


/-! valid lists of defects, and windows -/
theorem dcheck_ok {d : Df} (h : dcheck d = 0) : 1 ≤ d.k ∧ d.k ≤ 6 ∧ d.b.x.a < d.b.x.b ∧ d.b.y.a < d.b.y.b ∧ d.b.z.a < d.b.z.b ∧ -600 ≤ d.b.x.a ∧ d.b.x.b ≤ 600 ∧ -600 ≤ d.b.y.a ∧ d.b.y.b ≤ 600 ∧ 0 ≤ d.b.z.a ∧ d.b.z.b ≤ 20000 := by
  rw [dcheck_eq] at h
  unfold rdcheck at h
  cases h1 : (decide (d.k < 1) || decide (6 < d.k)) with
  | true => rw [h1] at h; cases h
  | false =>
    cases h2 : emB d.b with
    | true => rw [h1, h2] at h; cases h
    | false =>
      cases h3 : rangedB d.b with
      | false => rw [h1, h2, h3] at h; cases h
      | true =>
        unfold emB emS at h2
        unfold rangedB insB at h3
        simp only [Bool.or_eq_false_iff, Bool.and_eq_true, decide_eq_false_iff_not, decide_eq_true_eq] at h1 h2 h3
        omega
theorem dcheck_of {d : Df} (h : 1 ≤ d.k ∧ d.k ≤ 6 ∧ d.b.x.a < d.b.x.b ∧ d.b.y.a < d.b.y.b ∧ d.b.z.a < d.b.z.b ∧ -600 ≤ d.b.x.a ∧ d.b.x.b ≤ 600 ∧ -600 ≤ d.b.y.a ∧ d.b.y.b ≤ 600 ∧ 0 ≤ d.b.z.a ∧ d.b.z.b ≤ 20000) : dcheck d = 0 := by
  rw [dcheck_eq]
  unfold rdcheck emB emS rangedB insB
  grind
theorem checkL_iff {l : List Df} : checkL l = 0 ↔ l.length ≤ 64 ∧ ∀ d ∈ l, dcheck d = 0 := by
  unfold checkL
  constructor
  · intro h
    split at h
    · cases h
    · exact ⟨by omega, firstNZ_all h⟩
  · rintro ⟨h1, h2⟩
    rw [if_neg (by omega)]
    exact firstNZ_zero h2
theorem em_meet {s t : Sp} : (!emS (meet s t)) = decide (max s.a t.a < min s.b t.b) := by
  unfold emS meet
  by_cases h : min s.b t.b ≤ max s.a t.a
  · rw [if_pos h, decide_eq_false (show ¬ max s.a t.a < min s.b t.b by omega)]
    rfl
  · rw [if_neg h, decide_eq_true (show max s.a t.a < min s.b t.b by omega)]
    dsimp only
    rw [decide_eq_false h]
    rfl
/-- What a defect counts in a window. -/

theorem d_meet_eq (p q : Bx) : defect_meet_g p q = (mbox p q, touchB p q) := by
  unfold defect_meet_g
  simp only [letB, span_meet_eq, defect_isEmpty_g]
  have e : ∀ s : Sp, decide (s.b ≤ s.a) = emS s := fun _ => rfl
  simp only [e]
  unfold mbox touchB emB bmeet zeroB
  dsimp only
  cases emS (meet p.x q.x) <;> cases emS (meet p.y q.y) <;> cases emS (meet p.z q.z) <;> rfl
theorem r13_meet_eq (p q : Bx) : r13_Meet_g p q = bmeet p q := by
  unfold r13_Meet_g bmeet
  simp only [letB, r03_meet_eq]
theorem r13_touches_eq (d : Df) (b : Bx) : r13_Touches_g d b = touchB d.b b := by
  unfold r13_Touches_g touchB
  simp only [letB, r13_meet_eq, r13_empty_eq]
theorem d_inside_eq (s : Sp) (lo hi : Int) : defect_inside_g s lo hi = insideB s lo hi := by
  unfold defect_inside_g insideB
  simp only [Bool.cond_false_right]
theorem b3_all (b : Bx) : ((List.range 3).all fun j => insideB (b3 b j) (-1099511627776) 1099511627776) = decide (okB b) := by
  rw [Bool.eq_iff_iff, List.all_eq_true, decide_eq_true_eq]
  unfold okB
  constructor
  · intro h i hi
    exact h i (List.mem_range.2 hi)
  · intro h i hi
    exact h i (List.mem_range.1 hi)
theorem foldl_opt {α β : Type} (g : α → Option β) : ∀ (l : List α) (s : List β), l.foldl (fun s e => s ++ (g e).toList) s = s ++ l.filterMap g
  | [], s => by simp
  | a :: l, s => by
    rw [List.foldl_cons, foldl_opt g l]
    cases h : g a <;> simp [h]
theorem d_clip_eq {l : List Df} (b : Bx) (hl : l.length ≤ 9223372036854775807) : defect_Clip_g l b = some (clipD l b) := by
  unfold defect_Clip_g clipD
  rw [d_checkL_eq hl, bind_some']
  by_cases hc : checkL l = 0
  · have hlen := checkL_len hc
    rw [show (checkL l != 0) = false by simp [hc], cond_false]
    rw [show (0 : Int) = ((0 : Nat) : Int) from rfl, loopO_allN 3 (fun j => ((j : Nat) : Int)) (fun j => insideB (b3 b j) (-1099511627776) 1099511627776) ([] : List Df) (by
      intro j hj
      unfold defect_Clip_s1
      rw [decide_eq_true (show (j : Int) < 3 by omega), cond_true, show getI [b.x, b.y, b.z] (j : Int) = some (b3 b j) by
        match j, hj with
        | 0, _ => rfl
        | 1, _ => rfl
        | 2, _ => rfl, bind_some', d_inside_eq, W64_succ (by omega)]
      cases insideB (b3 b j) (-1099511627776) 1099511627776 <;> rfl) (by rfl), b3_all]
    by_cases hb : okB b
    · rw [if_pos ⟨hc, hb⟩, decide_eq_true hb]
      simp only [cond_true, bind_some', Sum.elim_inr]
      rw [loopO_foldI l (fun s e => s ++ (clipOne b e).toList) [] (fun s j => (s, ((j : Nat) : Int))) id (fun j s => s.length ≤ j) (by simp) (by
        intro j s hj hs
        have : (clipOne b l[j]).toList.length ≤ 1 := by cases clipOne b l[j] <;> simp
        rw [List.length_append]
        omega) (by
        intro s j hj hs
        simp only [defect_Clip_s2]
        rw [lt_nat hj, getI_at hj, cond_true, bind_some', d_meet_eq, W64_succ (by omega)]
        simp only [letB]
        unfold clipOne
        cases ht : touchB l[j].b b with
        | false => simp
        | true =>
          simp only [cond_true]
          rw [appO_eq (by simp; omega) (by simp; omega)]
          rfl) (by
        intro s hs
        simp only [defect_Clip_s2]
        rw [nlt_nat]
        rfl), foldl_opt]
      simp
    · rw [if_neg (fun h => hb h.2), decide_eq_false hb]
      rfl
  · rw [show (checkL l != 0) = true by simpa using hc, cond_true, if_neg (fun h => hc h.1)]
theorem r13_bounded_eq (s : Sp) : r13_bounded_g s = boundedS s := by
  unfold r13_bounded_g boundedS
  simp only [Bool.cond_false_right]
theorem r13_move_eq (b : Bx) (x y z : Int) : r13_Move_g b x y z = moveB b x y z := rfl
theorem r13_clip_eq {l : List Df} (b : Bx) (hl : l.length ≤ 9223372036854775807) : r13_Clip_g l b = some (clipD l b) := by
  unfold r13_Clip_g clipD
  rw [r13_checkL_eq hl, bind_some', r13_bounded_eq, r13_bounded_eq, r13_bounded_eq]
  by_cases hc : checkL l = 0
  · have hlen := checkL_len hc
    rw [show (checkL l != 0) = false by simp [hc], cond_false]
    by_cases hb : okB b
    · obtain ⟨h0, h1, h2⟩ := (okB_iff b).1 hb
      rw [if_pos ⟨hc, hb⟩, h0, h1, h2]
      simp only [Bool.not_true, cond_false]
      rw [show (([] : List Df), (0 : Int)) = (([] : List Df), ((0 : Nat) : Int)) from rfl, loopO_foldI l (fun s e => s ++ (clipOne b e).toList) [] (fun s j => (s, ((j : Nat) : Int))) id (fun j s => s.length ≤ j) (by simp) (by
        intro j s hj hs
        have : (clipOne b l[j]).toList.length ≤ 1 := by cases clipOne b l[j] <;> simp
        rw [List.length_append]
        omega) (by
        intro s j hj hs
        simp only [r13_Clip_s1]
        rw [lt_nat hj, getI_at hj, cond_true, bind_some', r13_touches_eq, W64_succ (by omega)]
        simp only [letB, bind_some', r13_meet_eq, r13_move_eq]
        have mb := move_back (p := bmeet l[j].b b) hb
        simp only [W64]
        rw [mb]
        unfold clipOne mbox
        cases ht : touchB l[j].b b with
        | false => simp
        | true =>
          simp only [cond_true]
          rw [appO_eq (by simp; omega) (by simp; omega)]
          rfl) (by
        intro s hs
        simp only [r13_Clip_s1]
        rw [nlt_nat]
        rfl), foldl_opt]
      simp
    · rw [if_neg (fun h => hb h.2)]
      have : ¬ (boundedS b.x = true ∧ boundedS b.y = true ∧ boundedS b.z = true) := fun h => hb ((okB_iff b).2 h)
      cases hx : boundedS b.x with
      | false => rfl
      | true =>
        cases hy : boundedS b.y with
        | false => rfl
        | true =>
          cases hz : boundedS b.z with
          | false => rfl
          | true => exact absurd ⟨hx, hy, hz⟩ this
  · rw [show (checkL l != 0) = true by simpa using hc, cond_true, if_neg (fun h => hc h.1)]
theorem eqV_df (x y : Df) : eqV encDf x y = decide (x = y) := eqDf_iff x y
def sub1 (s : Sp) (n : Int) : Sp := ⟨s.a - n, s.b - n⟩
/-- Two spans have a common part. -/
def tch (s t : Sp) : Prop := max s.a t.a < min s.b t.b
instance (s t : Sp) : Decidable (tch s t) := inferInstanceAs (Decidable (_ < _))
def tchB (p q : Bx) : Prop := tch p.x q.x ∧ tch p.y q.y ∧ tch p.z q.z
instance (p q : Bx) : Decidable (tchB p q) := inferInstanceAs (Decidable (_ ∧ _))
/-- The common part, from the beginning of the second one on. -/
def cut1 (s t : Sp) : Sp := ⟨max s.a t.a - t.a, min s.b t.b - t.a⟩
def cutB (p q : Bx) : Bx := ⟨cut1 p.x q.x, cut1 p.y q.y, cut1 p.z q.z⟩
theorem touchB_iff (p q : Bx) : touchB p q = decide (tchB p q) := by
  unfold touchB emB bmeet
  simp only [Bool.not_or, em_meet]
  unfold tchB tch
  rw [Bool.eq_iff_iff]
  simp only [Bool.and_eq_true, decide_eq_true_eq]
  exact decide_eq_true_iff.symm
theorem back_meet {s t : Sp} (h : tch s t) (ht : insideB t (-1099511627776) 1099511627776 = true) (hs : -20000 ≤ s.a ∧ s.b ≤ 20000) : backS (meet s t) t.a = cut1 s t := by
  unfold tch at h
  unfold insideB at ht
  simp only [Bool.and_eq_true, decide_eq_true_eq] at ht
  unfold meet backS cut1
  rw [if_neg (by omega), w64_id' (by dsimp only; omega) (by dsimp only; omega), w64_id' (by dsimp only; omega) (by dsimp only; omega)]
theorem clipOne_eq {b : Bx} {d : Df} (hb : okB b) (hd : dcheck d = 0) : clipOne b d = if tchB d.b b then some ⟨d.k, cutB d.b b⟩ else none := by
  have hv := dcheck_ok hd
  unfold clipOne mbox
  rw [touchB_iff]
  by_cases h : tchB d.b b
  · rw [decide_eq_true h, cond_true, if_pos h, cond_true]
    unfold backB bmeet cutB
    dsimp only
    rw [back_meet h.1 (hb 0 (by omega)) (by omega), back_meet h.2.1 (hb 1 (by omega)) (by omega), back_meet h.2.2 (hb 2 (by omega)) (by omega)]
  · rw [decide_eq_false h, cond_false, if_neg h]
/-- A box that is in range, not empty, and not too wide. -/
theorem okB_of {b : Bx} (hx : -1099511627776 ≤ min b.x.a b.x.b ∧ max b.x.a b.x.b ≤ 1099511627776) (hy : -1099511627776 ≤ min b.y.a b.y.b ∧ max b.y.a b.y.b ≤ 1099511627776) (hz : -1099511627776 ≤ min b.z.a b.z.b ∧ max b.z.a b.z.b ≤ 1099511627776) : okB b := by
  intro i hi
  match i, hi with
  | 0, _ => simp [b3, insideB, hx]
  | 1, _ => simp [b3, insideB, hy]
  | 2, _ => simp [b3, insideB, hz]
theorem filterMap_id {α : Type} {f : α → Option α} : ∀ {l : List α}, (∀ d ∈ l, f d = some d) → l.filterMap f = l
  | [], _ => rfl
  | a :: l, h => by
    rw [List.filterMap_cons_some (h a (by simp)), filterMap_id fun d hd => h d (by simp [hd])]
theorem filterMap_eq {α β : Type} {f g : α → Option β} : ∀ {l : List α}, (∀ d ∈ l, f d = g d) → l.filterMap f = l.filterMap g
  | [], _ => rfl
  | a :: l, h => by
    have e := filterMap_eq (l := l) fun d hd => h d (by simp [hd])
    cases hg : g a with
    | none => rw [List.filterMap_cons_none hg, List.filterMap_cons_none (by rw [h a (by simp)]; exact hg), e]
    | some b => rw [List.filterMap_cons_some hg, List.filterMap_cons_some (by rw [h a (by simp)]; exact hg), e]
theorem clip_mem {l : List Df} {b : Bx} (hc : checkL l = 0) (hb : okB b) {d : Df} (h : d ∈ l.filterMap (clipOne b)) : ∃ e ∈ l, tchB e.b b ∧ d = ⟨e.k, cutB e.b b⟩ := by
  obtain ⟨e, he, hd⟩ := List.mem_filterMap.1 h
  rw [clipOne_eq hb ((checkL_iff.1 hc).2 e he)] at hd
  split at hd
  · rename_i ht
    cases hd
    exact ⟨e, he, ht, rfl⟩
  · cases hd

end Go.Proofs.Ytcimnopodmnmmaa
