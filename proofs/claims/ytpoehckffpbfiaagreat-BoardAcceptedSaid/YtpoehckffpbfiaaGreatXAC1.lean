/- C1: what functions of the program compute (written by mod.py). -/
import Derived.Test.YtpoehckffpbfiaaGreatXAB3
import Derived.KernelRfl
namespace Go.Proofs.YtpoehckffpbfiaaGreat
open Go Go.Ab
set_option linter.unusedSimpArgs false
set_option linter.unusedVariables false
set_option linter.unusedSectionVars false
set_option maxRecDepth 20000
set_option maxHeartbeats 1000000
theorem inRange_eq (e : Sp) : (!(section_inRange_g e)) = (r10_beyond_g e.a || r10_beyond_g e.b) := by
  rw [Bool.eq_iff_iff]
  unfold section_inRange_g r10_beyond_g
  simp only [Bool.cond_eq_ite, Bool.not_eq_true', Bool.or_eq_true, decide_eq_true_eq]
  by_cases h1 : -600 ≤ min e.a e.b
  · rw [if_pos h1, decide_eq_false_iff_not]
    by_cases h2 : e.a < -600 <;> by_cases h3 : e.b < -600 <;> simp [h2, h3] <;> omega
  · rw [if_neg h1]
    by_cases h2 : e.a < -600 <;> by_cases h3 : e.b < -600 <;> simp [h2, h3] <;> omega
theorem section_s1_eq (s : TSection) (v : Int) : section_Check_s1 s v = r10_Check_s1 s v := by
  unfold section_Check_s1 r10_Check_s1
  cases decide (v < ((s.Rows.length : Nat) : Int)) with
  | false => rfl
  | true =>
    rw [cond_true, cond_true]
    cases getI s.Rows v with
    | none => rfl
    | some e =>
      rw [bind_some', bind_some', bind_some', inRange_eq]
      cases r10_beyond_g e.a <;> cases r10_beyond_g e.b <;> rfl
theorem section_s2_eq (s : TSection) (v : Int) : section_Check_s2 s v = r10_Check_s2 s v := by
  unfold section_Check_s2 r10_Check_s2 section_isEmpty_g r10_empty_g
  cases decide (v < ((s.Rows.length : Nat) : Int)) with
  | false => rfl
  | true =>
    rw [cond_true, cond_true]
    cases getI s.Rows v with
    | none => rfl
    | some e => rfl
theorem section_check_eq (s : TSection) : section_Check_g s = r10_Check_g s := by
  unfold section_Check_g r10_Check_g
  have h1 : (fun q => section_Check_s1 s q) = (fun q => r10_Check_s1 s q) := funext fun v => section_s1_eq s v
  have h2 : (fun q => section_Check_s2 s q) = (fun q => r10_Check_s2 s q) := funext fun v => section_s2_eq s v
  rw [h1, h2]
  rfl
theorem solid_s1_eq (l : List TSlice) (n v : Int) : solid_Check_s1 l n v = r11_Check_s1 l n v := by
  unfold solid_Check_s1 r11_Check_s1
  cases decide (v < ((l.length : Nat) : Int)) with
  | false => rfl
  | true =>
    rw [cond_true, cond_true]
    cases getI l v with
    | none => rfl
    | some e =>
      simp only [bind_some']
      rw [section_check_eq]
theorem solid_check_eq (l : List TSlice) : solid_Check_g l = r11_Check_g l := by
  unfold solid_Check_g r11_Check_g
  have h1 : (fun q : Int × Int => solid_Check_s1 l q.1 q.2) = (fun q => r11_Check_s1 l q.1 q.2) := funext fun q => solid_s1_eq l q.1 q.2
  rw [h1]
theorem inside_eq (s : Sp) (low high : Int) (h : ¬ s.b ≤ s.a) : defect_inside_g s low high = r13_in_g s low high := by
  unfold defect_inside_g r13_in_g
  rw [show min s.a s.b = s.a by omega, show max s.a s.b = s.b by omega]
theorem defect_s1_eq (l : List Df) (v : Int) : defect_Check_s1 l v = r13_Check_s1 l v := by
  unfold defect_Check_s1 r13_Check_s1
  cases decide (v < ((l.length : Nat) : Int)) with
  | false => rfl
  | true =>
    rw [cond_true, cond_true]
    cases getI l v with
    | none => rfl
    | some e =>
      simp only [bind_some']
      unfold defect_check_g r13_Empty_g r13_Ranged_g
      simp only [letB_eq, defect_isEmpty_g]
      by_cases hk1 : e.k < 1
      · rw [decide_eq_true hk1]
        rfl
      · rw [decide_eq_false hk1]
        by_cases hk2 : 6 < e.k
        · rw [decide_eq_true hk2]
          rfl
        · rw [decide_eq_false hk2]
          by_cases hx : e.b.x.b ≤ e.b.x.a
          · rw [decide_eq_true hx]
            rfl
          · rw [decide_eq_false hx]
            by_cases hy : e.b.y.b ≤ e.b.y.a
            · rw [decide_eq_true hy]
              rfl
            · rw [decide_eq_false hy]
              by_cases hz : e.b.z.b ≤ e.b.z.a
              · rw [decide_eq_true hz]
                rfl
              · rw [decide_eq_false hz, inside_eq _ _ _ hx, inside_eq _ _ _ hy, inside_eq _ _ _ hz]
                cases r13_in_g e.b.x (-600) 600 <;> cases r13_in_g e.b.y (-600) 600 <;> cases r13_in_g e.b.z 0 20000 <;> rfl
theorem defect_check_eq (l : List Df) : defect_Check_g l = r13_Check_g l := by
  unfold defect_Check_g r13_Check_g
  have h1 : (fun q => defect_Check_s1 l q) = (fun q => r13_Check_s1 l q) := funext fun v => defect_s1_eq l v
  rw [h1]
theorem green_eq (p : TProduct) : product_Green_g p = r19_Green_g p := by
  unfold product_Green_g r19_Green_g product_isSize_g r19_sized_g product_grow_g
  cases decide (1 ≤ p.Thick) <;> cases decide (p.Thick ≤ 600) <;> cases decide (1 ≤ p.Width) <;> cases decide (p.Width ≤ 600) <;> rfl
theorem lengths_s1_eq (p : TProduct) (v : Int) : product_checkNumbers_s1 p v = r19_checkLengths_s1 p v := by
  unfold product_checkNumbers_s1 r19_checkLengths_s1
  cases getI p.Lengths v with
  | none => rfl
  | some e => rfl
theorem lengths_s2_eq (p : TProduct) (v : Int) : product_checkNumbers_s2 p v = r19_checkLengths_s2 p v := by
  unfold product_checkNumbers_s2 r19_checkLengths_s2
  cases getI p.Prices v with
  | none => rfl
  | some e => rfl
theorem solid_length_eq (l : List TSlice) : solid_Length_g l = r11_Length_g l := by
  unfold solid_Length_g r11_Length_g solid_valid_g
  rw [solid_check_eq]
  cases r11_Check_g l with
  | none => rfl
  | some c =>
    simp only [bind_some']
    cases h : (c != 0) with
    | true =>
      rw [cond_true, cond_true, bind_some', loopO_done (y := (0 : Int)) rfl, bind_some']
    | false => rfl
noncomputable def nameC (c : Int) : Bool := ident_isSmall_g c || (ident_isDigit_g c || c == 95)
theorem name_both (s : ByteArray) : ∃ b, ident_IsName_g s = some b ∧ r02_IsName_g s = some b := by
  unfold ident_IsName_g r02_IsName_g
  by_cases h1 : s.size < 1
  · rw [decide_eq_true (by omega)]
    exact ⟨false, rfl, rfl⟩
  · rw [decide_eq_false (by omega), cond_false, cond_false]
    by_cases h2 : 16 < s.size
    · rw [decide_eq_true (by omega)]
      exact ⟨false, rfl, rfl⟩
    · rw [decide_eq_false (by omega), cond_false, cond_false]
      have hb : bytO s 0 = some (byteAt s 0) := bytO_eq (n := 0) (by omega)
      have l1 : loopO (fun q => ident_IsName_s1 s q) 1 = some (bif (List.range (s.size - 1)).all (fun j => nameC (byteAt s (j + 1))) then .inr () else .inl false) := by
        refine loopO_allN (step := fun q : Int => ident_IsName_s1 s q) (s.size - 1) (fun j => ((j + 1 : Nat) : Int)) (fun j => nameC (byteAt s (j + 1))) false (fun j hj => ?_) ?_
        · unfold ident_IsName_s1
          rw [lt_nat (by omega), cond_true, bytO_eq (by omega), bind_some', W64_succ (by omega)]
          unfold nameC
          cases ident_isSmall_g (byteAt s (j + 1)) <;> cases ident_isDigit_g (byteAt s (j + 1)) <;> cases h : (byteAt s (j + 1) == 95) <;> simp [bne, h]
        · unfold ident_IsName_s1
          rw [show s.size - 1 + 1 = s.size by omega, nlt_nat]
          rfl
      have l2 : loopO (fun q => r02_IsName_s1 s q) 1 = some (bif (List.range (s.size - 1)).all (fun j => nameC (byteAt s (j + 1))) then .inr () else .inl false) := by
        refine loopO_allN (step := fun q : Int => r02_IsName_s1 s q) (s.size - 1) (fun j => ((j + 1 : Nat) : Int)) (fun j => nameC (byteAt s (j + 1))) false (fun j hj => ?_) ?_
        · unfold r02_IsName_s1
          rw [lt_nat (by omega), cond_true, bytO_eq (by omega)]
          simp only [bind_some']
          rw [W64_succ (by omega), show (((j + 1 : Nat) : Int) == 0) = false by simp; omega]
          unfold nameC ident_isSmall_g ident_isDigit_g r02_digit_g
          cases decide (97 ≤ byteAt s (j + 1)) <;> cases decide (byteAt s (j + 1) ≤ 122) <;> cases decide (48 ≤ byteAt s (j + 1)) <;> cases decide (byteAt s (j + 1) ≤ 57) <;> cases h : (byteAt s (j + 1) == 95) <;> simp [bne, h]
        · unfold r02_IsName_s1
          rw [show s.size - 1 + 1 = s.size by omega, nlt_nat]
          rfl
      rw [hb, bind_some']
      have hs : r02_IsName_s1 s 0 = bif ident_isSmall_g (byteAt s 0) then some (.inl 1) else some (.inr (.inl false)) := by
        unfold r02_IsName_s1
        rw [show decide ((0 : Int) < ((s.size : Nat) : Int)) = true by rw [decide_eq_true_eq]; omega, cond_true, hb]
        simp only [bind_some']
        unfold ident_isSmall_g
        cases decide (97 ≤ byteAt s 0) <;> cases decide (byteAt s 0 ≤ 122) <;> rfl
      cases hc : ident_isSmall_g (byteAt s 0) with
      | false =>
        rw [hc] at hs
        rw [loopO_done hs]
        exact ⟨false, rfl, rfl⟩
      | true =>
        rw [hc] at hs
        rw [loopO_next hs, l1, l2]
        cases (List.range (s.size - 1)).all (fun j => nameC (byteAt s (j + 1))) with
        | false => exact ⟨false, rfl, rfl⟩
        | true => exact ⟨true, rfl, rfl⟩
theorem numbers_eq (p : TProduct) : product_checkNumbers_g p = (bif (decide (p.Thick < 5)) then some 9 else (bif (decide (300 < p.Thick)) then some 9 else (bif (decide (p.Width < p.Thick)) then some 9 else (bif (decide (600 < p.Width)) then some 9 else (bif (decide (p.Allow < 0)) then some 9 else (bif (decide (200 < p.Allow)) then some 9 else (bif (decide (p.Wane < 0)) then some 9 else (bif (decide (1000 < p.Wane)) then some 9 else (bif (decide (600 < (r19_Green_g p).2)) then some 9 else r19_checkLengths_g p))))))))) := by
  unfold product_checkNumbers_g r19_checkLengths_g
  have h1 : (fun q => product_checkNumbers_s1 p q) = (fun q => r19_checkLengths_s1 p q) := funext fun v => lengths_s1_eq p v
  have h2 : (fun q => product_checkNumbers_s2 p q) = (fun q => r19_checkLengths_s2 p q) := funext fun v => lengths_s2_eq p v
  rw [h1, h2, letB_eq, green_eq]
structure ProdOk (p : TProduct) : Prop where
  t : 5 ≤ p.Thick ∧ p.Thick ≤ 300
  w : p.Thick ≤ p.Width ∧ p.Width ≤ 600
  a : 0 ≤ p.Allow ∧ p.Allow ≤ 200
  n : 0 ≤ p.Wane ∧ p.Wane ≤ 1000
  l : p.Lengths.length ≤ 8
  s : p.Prices.length = p.Lengths.length
  r : ∀ (j : Nat) (hj : j < p.Lengths.length), 100 ≤ p.Lengths[j] ∧ p.Lengths[j] ≤ 20000 ∧ ∀ (hi : 0 < j), p.Lengths[j - 1] < p.Lengths[j]
  c : ∀ (j : Nat) (hj : j < p.Prices.length), 0 ≤ p.Prices[j] ∧ p.Prices[j] ≤ 1000000
theorem lengths_total (p : TProduct) : ∃ c, r19_checkLengths_g p = some c ∧ (c = 0 → p.Lengths.length ≤ 8 ∧ p.Prices.length = p.Lengths.length ∧ (∀ (j : Nat) (hj : j < p.Lengths.length), 100 ≤ p.Lengths[j] ∧ p.Lengths[j] ≤ 20000 ∧ ∀ (hi : 0 < j), p.Lengths[j - 1] < p.Lengths[j]) ∧ ∀ (j : Nat) (hj : j < p.Prices.length), 0 ≤ p.Prices[j] ∧ p.Prices[j] ≤ 1000000) := by
  unfold r19_checkLengths_g
  by_cases h0 : p.Lengths.length = 0
  · rw [show ((((p.Lengths.length : Nat) : Int)) == 0) = true by simp [h0]]
    exact ⟨3, rfl, fun h => by omega⟩
  · rw [show ((((p.Lengths.length : Nat) : Int)) == 0) = false by simp; intro h; simp [h] at h0, cond_false]
    by_cases h1 : 8 < p.Lengths.length
    · rw [decide_eq_true (by omega)]
      exact ⟨4, rfl, fun h => by omega⟩
    · rw [decide_eq_false (by omega), cond_false]
      by_cases h2 : p.Prices.length = p.Lengths.length
      · rw [show ((((p.Prices.length : Nat) : Int)) != ((p.Lengths.length : Nat) : Int)) = false by simp [h2], cond_false]
        obtain ⟨y, hy, hG⟩ := loopO_inv (step := fun q : Int => r19_checkLengths_s1 p q) (fun q => ∃ k : Nat, k ≤ p.Lengths.length ∧ q = (k : Int) ∧ ∀ (j : Nat) (hj : j < p.Lengths.length), j < k → 100 ≤ p.Lengths[j] ∧ p.Lengths[j] ≤ 20000 ∧ ∀ (hi : 0 < j), p.Lengths[j - 1] < p.Lengths[j]) (fun q => p.Lengths.length - q.toNat) (fun y => (∃ c, y = .inl c ∧ c ≠ 0) ∨ (y = .inr () ∧ ∀ (j : Nat) (hj : j < p.Lengths.length), 100 ≤ p.Lengths[j] ∧ p.Lengths[j] ≤ 20000 ∧ ∀ (hi : 0 < j), p.Lengths[j - 1] < p.Lengths[j])) (by
          rintro q ⟨k, hk, rfl, ha⟩
          unfold r19_checkLengths_s1
          rcases Nat.lt_or_ge k p.Lengths.length with hlt | hge
          · rw [lt_nat hlt, cond_true, getI_at hlt]
            simp only [bind_some']
            by_cases h3 : p.Lengths[k] < 100
            · rw [decide_eq_true h3]
              exact .inr ⟨_, rfl, .inl ⟨_, rfl, by omega⟩⟩
            · rw [decide_eq_false h3, cond_false]
              by_cases h4 : 20000 < p.Lengths[k]
              · rw [decide_eq_true h4]
                exact .inr ⟨_, rfl, .inl ⟨_, rfl, by omega⟩⟩
              · rw [decide_eq_false h4, cond_false, W64_succ (by omega)]
                have hnext : ∀ (hh : ∀ (hi : 0 < k), p.Lengths[k - 1] < p.Lengths[k]), (∃ x', (some (Sum.inl ((k + 1 : Nat) : Int)) : Option (Int ⊕ (Int ⊕ Unit))) = some (.inl x') ∧ (∃ k : Nat, k ≤ p.Lengths.length ∧ x' = (k : Int) ∧ ∀ (j : Nat) (hj : j < p.Lengths.length), j < k → 100 ≤ p.Lengths[j] ∧ p.Lengths[j] ≤ 20000 ∧ ∀ (hi : 0 < j), p.Lengths[j - 1] < p.Lengths[j]) ∧ p.Lengths.length - x'.toNat < p.Lengths.length - ((k : Int)).toNat) := by
                  intro hh
                  refine ⟨_, rfl, ⟨k + 1, by omega, rfl, fun j hj hjk => ?_⟩, by omega⟩
                  rcases Nat.lt_or_ge j k with h5 | h5
                  · exact ha j hj h5
                  · have : j = k := by omega
                    subst this
                    exact ⟨by omega, by omega, hh⟩
                by_cases h5 : 0 < k
                · have g1 := getI_at (l := p.Lengths) (j := k - 1) (by omega)
                  rw [decide_eq_true (p := (0 : Int) < (k : Int)) (by omega), cond_true, W64_eq (by omega) (by omega), show (k : Int) - 1 = ((k - 1 : Nat) : Int) by omega, g1, bind_some']
                  by_cases h6 : p.Lengths[k] ≤ p.Lengths[k - 1]
                  · rw [decide_eq_true h6]
                    exact .inr ⟨_, rfl, .inl ⟨_, rfl, by omega⟩⟩
                  · rw [decide_eq_false h6]
                    exact .inl (hnext fun _ => by omega)
                · rw [decide_eq_false (p := (0 : Int) < (k : Int)) (by omega)]
                  exact .inl (hnext fun h => absurd h h5)
          · have : k = p.Lengths.length := by omega
            subst this
            rw [nlt_nat]
            exact .inr ⟨_, rfl, .inr ⟨rfl, fun j hj => ha j hj hj⟩⟩) 0 ⟨0, by omega, rfl, fun j _ h => by omega⟩
        rw [hy, bind_some']
        rcases hG with ⟨c, rfl, hc⟩ | ⟨rfl, hok⟩
        · exact ⟨c, rfl, fun h => absurd h hc⟩
        · rw [Sum.elim_inr]
          have hloop := loopO_allN (step := fun q : Int => r19_checkLengths_s2 p q) p.Prices.length (fun j => (j : Int)) (fun j => (p.Prices[j]?).elim true fun e => !(decide (e < 0) || decide (1000000 < e))) (9 : Int) (fun j hj => by
            unfold r19_checkLengths_s2
            rw [lt_nat hj, cond_true, getI_at hj, bind_some', bind_some', W64_succ (by omega), List.getElem?_eq_getElem hj]
            show _ = bif !(decide (p.Prices[j] < 0) || decide (1000000 < p.Prices[j])) then _ else _
            cases decide (p.Prices[j] < 0) <;> cases decide (1000000 < p.Prices[j]) <;> rfl) (by
            unfold r19_checkLengths_s2
            rw [nlt_nat]
            rfl)
          rw [show ((0 : Nat) : Int) = 0 from rfl] at hloop
          rw [hloop, bind_some']
          cases hall : (List.range p.Prices.length).all (fun j => (p.Prices[j]?).elim true fun e => !(decide (e < 0) || decide (1000000 < e))) with
          | false => exact ⟨9, rfl, fun h => by omega⟩
          | true =>
            refine ⟨0, rfl, fun _ => ⟨by omega, h2, hok, fun j hj => ?_⟩⟩
            rw [List.all_eq_true] at hall
            have := hall j (List.mem_range.2 hj)
            rw [List.getElem?_eq_getElem hj] at this
            have h4 : (!(decide (p.Prices[j] < 0) || decide (1000000 < p.Prices[j]))) = true := this
            rw [Bool.not_eq_true', Bool.or_eq_false_iff, decide_eq_false_iff_not, decide_eq_false_iff_not] at h4
            omega
      · rw [show ((((p.Prices.length : Nat) : Int)) != ((p.Lengths.length : Nat) : Int)) = true by simp; omega]
        exact ⟨19, rfl, fun h => by omega⟩
theorem numbers_total (p : TProduct) : ∃ c, product_checkNumbers_g p = some c ∧ (c = 0 → ProdOk p) := by
  rw [numbers_eq]
  by_cases h1 : p.Thick < 5
  · rw [decide_eq_true h1]
    exact ⟨9, rfl, fun h => by omega⟩
  rw [decide_eq_false h1, cond_false]
  by_cases h2 : 300 < p.Thick
  · rw [decide_eq_true h2]
    exact ⟨9, rfl, fun h => by omega⟩
  rw [decide_eq_false h2, cond_false]
  by_cases h3 : p.Width < p.Thick
  · rw [decide_eq_true h3]
    exact ⟨9, rfl, fun h => by omega⟩
  rw [decide_eq_false h3, cond_false]
  by_cases h4 : 600 < p.Width
  · rw [decide_eq_true h4]
    exact ⟨9, rfl, fun h => by omega⟩
  rw [decide_eq_false h4, cond_false]
  by_cases h5 : p.Allow < 0
  · rw [decide_eq_true h5]
    exact ⟨9, rfl, fun h => by omega⟩
  rw [decide_eq_false h5, cond_false]
  by_cases h6 : 200 < p.Allow
  · rw [decide_eq_true h6]
    exact ⟨9, rfl, fun h => by omega⟩
  rw [decide_eq_false h6, cond_false]
  by_cases h7 : p.Wane < 0
  · rw [decide_eq_true h7]
    exact ⟨9, rfl, fun h => by omega⟩
  rw [decide_eq_false h7, cond_false]
  by_cases h8 : 1000 < p.Wane
  · rw [decide_eq_true h8]
    exact ⟨9, rfl, fun h => by omega⟩
  rw [decide_eq_false h8, cond_false]
  cases decide (600 < (r19_Green_g p).2) with
  | true => exact ⟨9, rfl, fun h => by omega⟩
  | false =>
    obtain ⟨c, hc, hok⟩ := lengths_total p
    refine ⟨c, hc, fun h => ?_⟩
    obtain ⟨a1, a2, a3, a4⟩ := hok h
    exact ⟨by omega, by omega, by omega, by omega, a1, a2, a3, a4⟩
theorem prod_step (p : TProduct) : product_Check_s1 [p] 0 = (ident_IsName_g p.Name).bind fun iv => bif !iv then some (.inr (.inl 6)) else (product_checkNumbers_g p).bind fun cv => bif (cv != 0) then some (.inr (.inl cv)) else some (.inl 1) := by
  unfold product_Check_s1
  show (Option.bind (ident_IsName_g p.Name) fun iv => (bif (!iv) then some (Sum.inr (Sum.inl 6)) else (Option.bind (product_Find_g [] p.Name) (fun fv => (bif fv.2 then some (Sum.inr (Sum.inl 7)) else (Option.bind (product_checkNumbers_g p) (fun cv => (bif (cv != 0) then some (Sum.inr (Sum.inl cv)) else some (Sum.inl 1))))))))) = _
  have hf : product_Find_g [] p.Name = some (0, false) := by
    unfold product_Find_g
    rw [loopO_done (y := .inr ()) rfl]
    rfl
  rw [hf]
  rfl
theorem r19_step (p : TProduct) : r19_Check_s1 [p] 0 = (r02_IsName_g p.Name).bind fun iv => bif !iv then some (.inr (.inl 6)) else (product_checkNumbers_g p).bind fun cv => bif (cv != 0) then some (.inr (.inl cv)) else some (.inl 1) := by
  rw [numbers_eq]
  unfold r19_Check_s1
  rw [show decide ((0 : Int) < (([p].length : Nat) : Int)) = true from rfl, cond_true, show getI [p] 0 = some p from rfl, bind_some']
  cases r02_IsName_g p.Name with
  | none => rfl
  | some iv =>
    rw [bind_some', bind_some']
    cases iv with
    | false => rfl
    | true =>
      rw [show (!true) = false from rfl, cond_false, cond_false, loopO_done (y := .inr ()) rfl, bind_some', Sum.elim_inr, letB_eq]
      cases decide (p.Thick < 5) with
      | true => rfl
      | false =>
      cases decide (300 < p.Thick) with
      | true => rfl
      | false =>
      cases decide (p.Width < p.Thick) with
      | true => rfl
      | false =>
      cases decide (600 < p.Width) with
      | true => rfl
      | false =>
      cases decide (p.Allow < 0) with
      | true => rfl
      | false =>
      cases decide (200 < p.Allow) with
      | true => rfl
      | false =>
      cases decide (p.Wane < 0) with
      | true => rfl
      | false =>
      cases decide (1000 < p.Wane) with
      | true => rfl
      | false =>
      cases decide (600 < (r19_Green_g p).2) with
      | true => rfl
      | false =>
      cases r19_checkLengths_g p with
      | none => rfl
      | some c =>
        simp only [cond_false, bind_some']
        cases (c != 0) <;> rfl
theorem prod_both (p : TProduct) : ∃ c, product_Check_g [p] = some c ∧ r19_Check_g [p] = some c ∧ (c = 0 → ProdOk p) := by
  obtain ⟨b, n1, n2⟩ := name_both p.Name
  obtain ⟨c, hc, hok⟩ := numbers_total p
  have s1 := prod_step p
  have s2 := r19_step p
  rw [n1, hc, bind_some', bind_some'] at s1
  rw [n2, hc, bind_some', bind_some'] at s2
  have e1 : product_Check_s1 [p] 1 = some (.inr (.inr ())) := rfl
  have e2 : r19_Check_s1 [p] 1 = some (.inr (.inr ())) := rfl
  unfold product_Check_g r19_Check_g
  rw [show decide ((16 : Int) < (([p].length : Nat) : Int)) = false from rfl, cond_false, cond_false]
  cases b with
  | false =>
    rw [loopO_done (step := fun q => product_Check_s1 [p] q) s1, loopO_done (step := fun q => r19_Check_s1 [p] q) s2]
    exact ⟨6, rfl, rfl, fun h => by omega⟩
  | true =>
    by_cases h0 : c = 0
    · subst h0
      rw [loopO_next (step := fun q => product_Check_s1 [p] q) s1, loopO_next (step := fun q => r19_Check_s1 [p] q) s2, loopO_done (step := fun q => product_Check_s1 [p] q) e1, loopO_done (step := fun q => r19_Check_s1 [p] q) e2]
      exact ⟨0, rfl, rfl, hok⟩
    · rw [ne_t h0] at s1 s2
      rw [loopO_done (step := fun q => product_Check_s1 [p] q) s1, loopO_done (step := fun q => r19_Check_s1 [p] q) s2]
      exact ⟨c, rfl, rfl, hok⟩
noncomputable def r19_Price_s1 (p : TProduct) (length : Int) (i : Int) : Option (Int ⊕ ((Int × Bool) ⊕ Unit)) :=
 (bif (decide (i < ((p.Lengths.length : Nat) : Int))) then (Option.bind (getI p.Lengths i) (fun e => (bif (e == length) then (bif (decide (((p.Prices.length : Nat) : Int) ≤ i)) then some (Sum.inr (Sum.inl (0, false))) else (Option.bind (getI p.Prices i) (fun e1 => some (Sum.inr (Sum.inl (e1, true)))))) else some (Sum.inl (W64 (i + 1)))))) else some (Sum.inr (Sum.inr ())))
theorem price_s1_eq (p : TProduct) (n v : Int) : product_Price_s1 p n v = r19_Price_s1 p n v := by
  unfold product_Price_s1 r19_Price_s1
  cases decide (v < ((p.Lengths.length : Nat) : Int)) with
  | false => rfl
  | true =>
    cases getI p.Lengths v with
    | none => rfl
    | some e =>
      simp only [cond_true, bind_some', bne]
      cases (e == n) <;> rfl
noncomputable def r19_Price_g (p : TProduct) (length : Int) : Option (Int × Bool) :=
 (Option.bind ((loopO (fun q => r19_Price_s1 p length q) 0) : Option ((Int × Bool) ⊕ Unit)) (Sum.elim (fun q => some q) (fun _ => some (0, false))))
theorem price_eq (p : TProduct) (n : Int) : product_Price_g p n = r19_Price_g p n := by
  unfold product_Price_g r19_Price_g
  have h1 : (fun q => product_Price_s1 p n q) = (fun q => r19_Price_s1 p n q) := funext fun v => price_s1_eq p n v
  rw [h1]
theorem touches_eq (d : Df) (b : Bx) : defect_Touches_g d b = r13_Touches_g d b := by
  unfold defect_Touches_g r13_Touches_g defect_meet_g r13_Meet_g r13_Empty_g defect_isEmpty_g
  simp only [letB_eq]
  rw [show span_Meet_g = r03_Meet_g from rfl]
  cases decide ((r03_Meet_g d.b.x b.x).b ≤ (r03_Meet_g d.b.x b.x).a) <;> cases decide ((r03_Meet_g d.b.y b.y).b ≤ (r03_Meet_g d.b.y b.y).a) <;> cases decide ((r03_Meet_g d.b.z b.z).b ≤ (r03_Meet_g d.b.z b.z).a) <;> rfl
theorem loopO_both {X Y : Type} {s1 s2 : X → Option (X ⊕ Y)} (n : Nat) (st : Nat → X) (Good : Nat → Prop) (Bad : Y → Prop) (fin : Y)
    (h : ∀ j, j < n → (s1 (st j) = some (.inl (st (j + 1))) ∧ s2 (st j) = some (.inl (st (j + 1))) ∧ Good j) ∨ ∃ y, s1 (st j) = some (.inr y) ∧ s2 (st j) = some (.inr y) ∧ Bad y)
    (he : s1 (st n) = some (.inr fin) ∧ s2 (st n) = some (.inr fin)) : ∃ y, loopO s1 (st 0) = some y ∧ loopO s2 (st 0) = some y ∧ ((y = fin ∧ ∀ j, j < n → Good j) ∨ Bad y) := by
  have : ∀ k, k ≤ n → ∃ y, loopO s1 (st (n - k)) = some y ∧ loopO s2 (st (n - k)) = some y ∧ ((y = fin ∧ ∀ j, n - k ≤ j → j < n → Good j) ∨ Bad y) := by
    intro k
    induction k with
    | zero =>
      intro _
      exact ⟨fin, loopO_done he.1, loopO_done he.2, .inl ⟨rfl, fun j h1 h2 => by omega⟩⟩
    | succ k ih =>
      intro hk
      rcases h (n - (k + 1)) (by omega) with ⟨g1, g2, g3⟩ | ⟨y, g1, g2, g3⟩
      · obtain ⟨y, e1, e2, e3⟩ := ih (by omega)
        rw [show n - (k + 1) + 1 = n - k by omega] at g1 g2
        refine ⟨y, by rw [loopO_next g1, e1], by rw [loopO_next g2, e2], e3.imp (fun ⟨hy, e3⟩ => ⟨hy, fun j h1 h2 => ?_⟩) id⟩
        by_cases hj : j = n - (k + 1)
        · rw [hj]
          exact g3
        · exact e3 j (by omega) h2
      · exact ⟨y, loopO_done g1, loopO_done g2, .inr g3⟩
  obtain ⟨y, e1, e2, e3⟩ := this n (Nat.le_refl _)
  rw [Nat.sub_self] at e1 e2 e3
  exact ⟨y, e1, e2, e3.imp (fun ⟨hy, e3⟩ => ⟨hy, fun j hj => e3 j (by omega) hj⟩) id⟩
theorem index_eq {l : List Int} (hl : l.length ≤ 9223372036854775807) (n : Int) : slices_Contains___int_int__g l n = some (l.any fun e => e == n) := by
  unfold slices_Contains___int_int__g slices_Index___int_int__g
  have := loopO_findN (step := fun q : Int => slices_Index___int_int__s1 l n q) l.length (fun j => (j : Int)) (fun j => (l[j]?).elim false fun e => e == n) (fun j => .inl (j : Int)) (.inr ()) (fun j hj hp => by
    rw [List.getElem?_eq_getElem hj] at hp
    have hp' : (l[j] == n) = false := hp
    unfold slices_Index___int_int__s1
    rw [lt_nat hj, cond_true, getI_at hj, bind_some', show (n == l[j]) = false by rw [← hp', Bool.eq_iff_iff]; simp; exact eq_comm, W64_succ (by omega)]
    rfl) (fun j hj hp => by
    rw [List.getElem?_eq_getElem hj] at hp
    have hp' : (l[j] == n) = true := hp
    unfold slices_Index___int_int__s1
    rw [lt_nat hj, cond_true, getI_at hj, bind_some', show (n == l[j]) = true by rw [← hp', Bool.eq_iff_iff]; simp; exact eq_comm]
    rfl) (by
    unfold slices_Index___int_int__s1
    rw [nlt_nat]
    rfl)
  rw [show ((0 : Nat) : Int) = 0 from rfl] at this
  rw [this, bind_some']
  cases hf : (List.range l.length).find? (fun j => (l[j]?).elim false fun e => e == n) with
  | none =>
    rw [List.find?_eq_none] at hf
    have : (l.any fun e => e == n) = false := by
      rw [List.any_eq_false]
      intro e he
      obtain ⟨j, hj, rfl⟩ := List.getElem_of_mem he
      have := hf j (List.mem_range.2 hj)
      rw [List.getElem?_eq_getElem hj] at this
      exact this
    rw [this]
    rfl
  | some j =>
    have h1 := List.find?_some hf
    have h2 := List.mem_range.1 (List.mem_of_find?_eq_some hf)
    rw [List.getElem?_eq_getElem h2] at h1
    have : (l.any fun e => e == n) = true := by
      rw [List.any_eq_true]
      exact ⟨l[j], List.getElem_mem h2, h1⟩
    rw [this]
    show some (decide (0 ≤ (j : Int))) = some true
    rw [decide_eq_true (by omega)]
def lf (s : ByteArray) (m : Int) (i : Nat) : Int := (m + ((i : Int) + 1) * byteAt s i) % 23
theorem byteAt_lt (s : ByteArray) (i : Nat) : 0 ≤ byteAt s i ∧ byteAt s i < 256 := by
  unfold byteAt
  have := UInt8.toNat_lt ((s.data[i]?).getD 0)
  omega
theorem lf_bd (s : ByteArray) (m : Int) (i : Nat) : 0 ≤ lf s m i ∧ lf s m i < 23 := by
  unfold lf
  omega
theorem mul_bd {i : Nat} (hi : i ≤ 20) {c : Int} (hc : 0 ≤ c ∧ c < 256) : 0 ≤ ((i : Int) + 1) * c ∧ ((i : Int) + 1) * c ≤ 5376 := by
  have h1 := Int.mul_nonneg (show 0 ≤ (i : Int) + 1 by omega) hc.1
  have h2 := Int.mul_le_mul (a := (i : Int) + 1) (c := 21) (b := c) (d := 256) (by omega) (by omega) (by omega) (by omega)
  omega
noncomputable def letr (s : ByteArray) : Int := 65 + (List.range s.size).foldl (lf s) 0
theorem letr_bd {s : ByteArray} : 0 ≤ (List.range s.size).foldl (lf s) 0 ∧ (List.range s.size).foldl (lf s) 0 < 23 := by
  have : ∀ (l : List Nat) (m : Int), 0 ≤ m ∧ m < 23 → 0 ≤ l.foldl (lf s) m ∧ l.foldl (lf s) m < 23 := by
    intro l
    induction l with
    | nil => intro m h; exact h
    | cons a l ih => intro m _; exact ih _ (lf_bd s m a)
  exact this _ 0 (by omega)
theorem WU8_def (n : Int) : WU8 n = n % 256 := by
  unfold WU8
  simp [IntKind.wrap, IntKind.signed, IntKind.bits]
theorem letter_eq {s : ByteArray} (hs : s.size ≤ 20) : ident_Letter_g s = some (letr s) ∧ r02_Letter_g s = some (letr s) := by
  have hb := letr_bd (s := s)
  constructor
  · unfold ident_Letter_g
    have := loopO_foldI (step := fun q : Int × Int => ident_Letter_s1 s q.1 q.2) (List.range s.size) (lf s) 0 (fun m j => (m, (j : Int))) (fun m => m) (fun _ m => 0 ≤ m ∧ m < 23) (by omega) (fun j m hj _ => lf_bd _ _ _) (fun m j hj hm => by
      rw [List.length_range] at hj
      rw [List.getElem_range]
      have hc := byteAt_lt s j
      have hmb := mul_bd (i := j) (by omega) hc
      unfold ident_Letter_s1 lf
      dsimp only
      rw [lt_nat hj, cond_true, bytO_eq hj, bind_some', W64_eq (n := byteAt s j) (by omega) (by omega), W64_eq (n := (j : Int) + 1) (by omega) (by omega), W64_eq (n := ((j : Int) + 1) * _) (by omega) (by omega), W64_eq (n := m + _) (by omega) (by omega), Int.tmod_eq_emod_of_nonneg (by omega)]
      rfl) (fun m _ => by
      unfold ident_Letter_s1
      dsimp only
      rw [List.length_range, nlt_nat]
      rfl)
    rw [show (((0 : Int)), ((0 : Nat) : Int)) = ((0 : Int), (0 : Int)) from rfl] at this
    rw [this, bind_some', WU8_def, WU8_def]
    unfold letr
    congr 1
    omega
  · unfold r02_Letter_g
    have := loopO_foldI (step := fun q : Int × Int => r02_Letter_s1 s q.1 q.2) (List.range s.size) (lf s) 0 (fun m j => (m, (j : Int))) (fun m => m) (fun _ m => 0 ≤ m ∧ m < 23) (by omega) (fun j m hj _ => lf_bd _ _ _) (fun m j hj hm => by
      rw [List.length_range] at hj
      rw [List.getElem_range]
      have hc := byteAt_lt s j
      have hmb := mul_bd (i := j) (by omega) hc
      unfold r02_Letter_s1 lf
      dsimp only
      rw [lt_nat hj, cond_true, bytO_eq hj, bind_some', W64_eq (n := byteAt s j) (by omega) (by omega), W64_eq (n := (j : Int) + 1) (by omega) (by omega), Int.tmod_eq_emod_of_nonneg (a := (j : Int) + 1) (by omega), Int.emod_eq_of_lt (a := (j : Int) + 1) (by omega) (by omega), W64_eq (n := ((j : Int) + 1) * _) (by omega) (by omega), W64_eq (n := m + _) (by omega) (by omega), Int.tmod_eq_emod_of_nonneg (by omega)]
      rfl) (fun m _ => by
      unfold r02_Letter_s1
      dsimp only
      rw [List.length_range, nlt_nat]
      rfl)
    rw [show (((0 : Int)), ((0 : Nat) : Int)) = ((0 : Int), (0 : Int)) from rfl] at this
    rw [this, bind_some', W64_eq (by omega) (by omega), WU8_def]
    unfold letr
    congr 1
    omega
noncomputable def digs (s : ByteArray) : Bool := (List.range 6).all fun j => ident_isDigit_g (byteAt s (j + 1))
theorem parts0 : ident_parts_g = [(⟨0, 1, 160, 10⟩ : Tident_part), (⟨1, 7, 78, 5⟩ : Tident_part)] := rfl
theorem split_parts {s : ByteArray} (hs : s.size = 8) : loopO (fun q => ident_Split_s1 s ident_parts_g q) 0 = some (bif ident_isCapital_g (byteAt s 0) then (bif digs s then .inr () else .inl (0, 0, 5)) else .inl (0, 0, 10)) := by
  have i0 : loopO (fun q => ident_Split_s2 s (⟨0, 1, 160, 10⟩ : Tident_part) q) 0 = some (bif ident_isCapital_g (byteAt s 0) then .inr () else .inl (.inr (.inl (0, 0, 10)))) := by
    have hb : bytO s 0 = some (byteAt s 0) := bytO_eq (n := 0) (by omega)
    have st0 : ident_Split_s2 s (⟨0, 1, 160, 10⟩ : Tident_part) 0 = bif ident_isCapital_g (byteAt s 0) then some (.inl 1) else some (.inr (.inl (.inr (.inl (0, 0, 10))))) := by
      unfold ident_Split_s2
      dsimp only
      rw [show decide ((0 : Int) < 1) = true from rfl, cond_true, hb, bind_some']
      cases ident_isCapital_g (byteAt s 0) <;> rfl
    cases hc : ident_isCapital_g (byteAt s 0) with
    | false =>
      rw [hc] at st0
      rw [loopO_done st0]
      rfl
    | true =>
      rw [hc] at st0
      rw [loopO_next st0, loopO_done (y := .inr ()) rfl]
      rfl
  have i1 : loopO (fun q => ident_Split_s2 s (⟨1, 7, 78, 5⟩ : Tident_part) q) 1 = some (bif digs s then .inr () else .inl (.inr (.inl (0, 0, 5)))) := by
    refine loopO_allN (step := fun q : Int => ident_Split_s2 s (⟨1, 7, 78, 5⟩ : Tident_part) q) 6 (fun j => ((j + 1 : Nat) : Int)) (fun j => ident_isDigit_g (byteAt s (j + 1))) (.inr (.inl (0, 0, 5))) (fun j hj => ?_) rfl
    unfold ident_Split_s2
    dsimp only
    rw [decide_eq_true (by omega), cond_true, bytO_eq (by omega), bind_some', W64_succ (by omega)]
    cases ident_isDigit_g (byteAt s (j + 1)) <;> rfl
  have s0 : ident_Split_s1 s ident_parts_g 0 = bif ident_isCapital_g (byteAt s 0) then some (.inl 1) else some (.inr (.inl (0, 0, 10))) := by
    unfold ident_Split_s1
    rw [parts0]
    show Option.bind (loopO (fun q => ident_Split_s2 s (⟨0, 1, 160, 10⟩ : Tident_part) q) 0) _ = _
    rw [i0]
    cases ident_isCapital_g (byteAt s 0) <;> rfl
  have s1 : ident_Split_s1 s ident_parts_g 1 = bif digs s then some (.inl 2) else some (.inr (.inl (0, 0, 5))) := by
    unfold ident_Split_s1
    rw [parts0]
    show Option.bind (loopO (fun q => ident_Split_s2 s (⟨1, 7, 78, 5⟩ : Tident_part) q) 1) _ = _
    rw [i1]
    cases digs s <;> rfl
  cases hc : ident_isCapital_g (byteAt s 0) with
  | false =>
    rw [hc] at s0
    rw [loopO_done s0]
    rfl
  | true =>
    rw [hc] at s0
    rw [loopO_next s0]
    cases hd : digs s with
    | false =>
      rw [hd] at s1
      rw [loopO_done s1]
      rfl
    | true =>
      rw [hd] at s1
      rw [loopO_next s1, loopO_done (y := .inr ()) rfl]
      rfl
theorem split_both (s : ByteArray) : ∃ k n n' e, ident_Split_g s = some (k, n, e) ∧ r02_Split_g s = some (k, n', e) := by
  unfold ident_Split_g r02_Split_g
  by_cases h8 : s.size = 8
  · rw [show (((s.size : Nat) : Int) != 8) = false by simp [h8], cond_false, cond_false, letB_eq, split_parts h8, bind_some']
    have hb0 : bytO s 0 = some (byteAt s 0) := bytO_eq (n := 0) (by omega)
    have hb7 : bytO s 7 = some (byteAt s 7) := bytO_eq (n := 7) (by omega)
    rw [hb0, bind_some', hb7]
    have hsub : ssubO s 0 7 = some (s.extract 0 7) := ssubO_eq (by omega) (by omega) (by omega)
    have hle := letter_eq (s := s.extract 0 7) (by rw [ByteArray.size_extract]; omega)
    rw [hsub]
    simp only [bind_some']
    rw [hle.1, hle.2]
    simp only [bind_some']
    have hr : loopO (fun q : Int × Int => r02_Split_s1 s q.1 q.2) (0, 1) = some (bif (List.range 6).any (fun j => !r02_digit_g (byteAt s (j + 1))) then .inl (0, 0, 5) else .inr ((List.range 6).foldl (fun n j => W64 (W64 (10 * n) + W64 (WU8 (byteAt s (j + 1) - 48)))) 0)) := by
      refine loopO_foldX (step := fun q : Int × Int => r02_Split_s1 s q.1 q.2) (List.range 6) (fun j => !r02_digit_g (byteAt s (j + 1))) (fun n j => W64 (W64 (10 * n) + W64 (WU8 (byteAt s (j + 1) - 48)))) 0 (fun n j => (n, ((j + 1 : Nat) : Int))) (.inl (0, 0, 5)) (fun n => .inr n) (fun _ _ => True) trivial (fun _ _ _ _ _ => trivial) (fun n j hj _ hb => ?_) (fun n j hj _ hb => ?_) (fun n _ => rfl)
      · rw [List.length_range] at hj
        rw [List.getElem_range] at hb ⊢
        unfold r02_Split_s1
        dsimp only
        rw [decide_eq_true (by omega), cond_true, bytO_eq (by omega), bind_some', hb, cond_false, bind_some', W64_succ (by omega)]
      · rw [List.length_range] at hj
        rw [List.getElem_range] at hb
        unfold r02_Split_s1
        dsimp only
        rw [decide_eq_true (by omega), cond_true, bytO_eq (by omega), bind_some', hb]
        rfl
    have hn : ∃ n, loopO (fun q : Int × Int => ident_Split_s3 s q.1 q.2) (0, 1) = some n := by
      have := loopO_fold (step := fun q : Int × Int => ident_Split_s3 s q.1 q.2) (List.range 6) (fun n j => W64 (W64 (n * 10) + W64 (WU8 (byteAt s (j + 1) - 48)))) 0 (fun n j => (n, ((j + 1 : Nat) : Int))) (fun n => n) (fun n j hj => by
        rw [List.length_range] at hj
        rw [List.getElem_range]
        unfold ident_Split_s3
        dsimp only
        rw [decide_eq_true (by omega), cond_true, bytO_eq (by omega), bind_some', W64_succ (by omega)]) (fun n => rfl)
      exact ⟨_, this⟩
    obtain ⟨n, hn⟩ := hn
    rw [hr, hn]
    have hd : (List.range 6).any (fun j => !r02_digit_g (byteAt s (j + 1))) = !digs s := by
      unfold digs
      rw [List.not_all_eq_any_not]
      rfl
    rw [hd, show r02_capital_g (byteAt s 0) = ident_isCapital_g (byteAt s 0) from rfl]
    cases ident_isCapital_g (byteAt s 0) with
    | false => exact ⟨_, _, _, _, rfl, rfl⟩
    | true =>
      cases digs s with
      | false => exact ⟨_, _, _, _, rfl, rfl⟩
      | true =>
        simp only [Bool.not_true, cond_true, cond_false, bind_some', Sum.elim_inr]
        by_cases hl : letr (s.extract 0 7) = byteAt s 7
        · rw [show (letr (s.extract 0 7) != byteAt s 7) = false by simp [hl], show (byteAt s 7 != letr (s.extract 0 7)) = false by simp [hl]]
          exact ⟨_, _, _, _, rfl, rfl⟩
        · rw [show (letr (s.extract 0 7) != byteAt s 7) = true by simp [hl], show (byteAt s 7 != letr (s.extract 0 7)) = true by simp; exact fun h => hl h.symm]
          exact ⟨_, 0, 0, _, rfl, rfl⟩
  · rw [show (((s.size : Nat) : Int) != 8) = true by simp; omega]
    exact ⟨_, _, _, _, rfl, rfl⟩
theorem is_both (s : ByteArray) (kind : Int) : ∃ b, ident_Is_g s kind = some b ∧ r02_Is_g s kind = some b := by
  obtain ⟨k, n, n', e, h1, h2⟩ := split_both s
  unfold ident_Is_g r02_Is_g
  rw [h1, h2, bind_some', bind_some']
  cases h : (e == 0) with
  | true => exact ⟨k == kind, by simp [h], by simp [h]⟩
  | false => exact ⟨false, by simp [h], by simp [h]⟩
theorem find_eq {l : List TProduct} (hl : l.length ≤ 1000000) (name : ByteArray) : ∃ k, product_Find_g l name = some (k, l.any fun q => bEq q.Name name) := by
  unfold product_Find_g
  have := loopO_findN (step := fun q : Int => product_Find_s1 l name q) l.length (fun j => (j : Int)) (fun j => (l[j]?).elim false fun e => bEq e.Name name) (fun j => .inl ((j : Int), true)) (.inr ()) (fun j hj hp => by
    rw [List.getElem?_eq_getElem hj] at hp
    have hp' : bEq l[j].Name name = false := hp
    unfold product_Find_s1
    rw [lt_nat hj, cond_true, getI_at hj, bind_some', hp', W64_succ (by omega)]
    rfl) (fun j hj hp => by
    rw [List.getElem?_eq_getElem hj] at hp
    have hp' : bEq l[j].Name name = true := hp
    unfold product_Find_s1
    rw [lt_nat hj, cond_true, getI_at hj, bind_some', hp']
    rfl) (by
    unfold product_Find_s1
    rw [nlt_nat]
    rfl)
  rw [show ((0 : Nat) : Int) = 0 from rfl] at this
  rw [this, bind_some']
  cases hf : (List.range l.length).find? (fun j => (l[j]?).elim false fun e => bEq e.Name name) with
  | none =>
    rw [List.find?_eq_none] at hf
    have : (l.any fun q => bEq q.Name name) = false := by
      rw [List.any_eq_false]
      intro e he
      obtain ⟨j, hj, rfl⟩ := List.getElem_of_mem he
      have := hf j (List.mem_range.2 hj)
      rw [List.getElem?_eq_getElem hj] at this
      exact this
    rw [this]
    exact ⟨0, rfl⟩
  | some j =>
    have h1 := List.find?_some hf
    have h2 := List.mem_range.1 (List.mem_of_find?_eq_some hf)
    rw [List.getElem?_eq_getElem h2] at h1
    have : (l.any fun q => bEq q.Name name) = true := by
      rw [List.any_eq_true]
      exact ⟨l[j], List.getElem_mem h2, h1⟩
    rw [this]
    exact ⟨_, rfl⟩
theorem r19_s2 {l : List TProduct} (hl : l.length ≤ 1000000) {i : Nat} (hi : i ≤ l.length) (e : TProduct) : loopO (fun q : Int => r19_Check_s2 l (i : Int) e q) 0 = some (bif (l.take i).any (fun q => bEq q.Name e.Name) then .inl (.inl (.inr (.inl 7))) else .inr ()) := by
  have hlen : (l.take i).length = i := by rw [List.length_take]; omega
  have := loopO_foldX (step := fun q : Int => r19_Check_s2 l (i : Int) e q) (l.take i) (fun q => bEq q.Name e.Name) (fun (u : Unit) _ => u) () (fun _ j => (j : Int)) (.inl (.inl (.inr (.inl 7)))) (fun _ => .inr ()) (fun _ _ => True) trivial (fun _ _ _ _ _ => trivial) (fun s j hj _ hb => by
    rw [hlen] at hj
    unfold r19_Check_s2
    rw [List.getElem_take] at hb
    rw [lt_nat hj, cond_true, getI_at (show j < l.length by omega), bind_some', hb, cond_false, W64_succ (by omega)]) (fun s j hj _ hb => by
    rw [hlen] at hj
    unfold r19_Check_s2
    rw [List.getElem_take] at hb
    rw [lt_nat hj, cond_true, getI_at (show j < l.length by omega), bind_some', hb]
    rfl) (fun _ _ => by
    unfold r19_Check_s2
    rw [hlen, nlt_nat]
    rfl)
  exact this
theorem catalog_both (c : List TProduct) : ∃ e, product_Check_g c = some e ∧ r19_Check_g c = some e ∧ (e = 0 → c.length ≤ 16 ∧ ∀ p ∈ c, ProdOk p) := by
  unfold product_Check_g r19_Check_g
  by_cases h16 : 16 < c.length
  · rw [decide_eq_true (by omega)]
    exact ⟨4, rfl, rfl, fun h => by omega⟩
  · rw [decide_eq_false (by omega), cond_false, cond_false]
    obtain ⟨y, h1, h2, h3⟩ := loopO_both (s1 := fun q => product_Check_s1 c q) (s2 := fun q => r19_Check_s1 c q) c.length (fun j => (j : Int)) (fun j => ∀ hj : j < c.length, ProdOk c[j]) (fun y => ∃ v, y = .inl v ∧ v ≠ 0) (.inr ()) (fun j hj => by
      obtain ⟨b, n1, n2⟩ := name_both c[j].Name
      obtain ⟨k, hf⟩ := find_eq (l := c.take j) (by rw [List.length_take]; omega) c[j].Name
      obtain ⟨v, hv, hok⟩ := numbers_total c[j]
      have hsub : subO c 0 (j : Int) = some (c.take j) := by
        rw [subO_eq (by omega) (by omega) (by omega)]
        simp
      have e1 : product_Check_s1 c (j : Int) = bif b then (bif (c.take j).any (fun q => bEq q.Name c[j].Name) then some (.inr (.inl 7)) else (bif (v != 0) then some (.inr (.inl v)) else some (.inl ((j + 1 : Nat) : Int)))) else some (.inr (.inl 6)) := by
        unfold product_Check_s1
        rw [lt_nat hj, cond_true, getI_at hj, bind_some', n1, bind_some', hsub, bind_some', hf, bind_some', hv, bind_some', W64_succ (by omega)]
        cases b <;> rfl
      have e2 : r19_Check_s1 c (j : Int) = bif b then (bif (c.take j).any (fun q => bEq q.Name c[j].Name) then some (.inr (.inl 7)) else (bif (v != 0) then some (.inr (.inl v)) else some (.inl ((j + 1 : Nat) : Int)))) else some (.inr (.inl 6)) := by
        rw [numbers_eq] at hv
        unfold r19_Check_s1
        rw [lt_nat hj, cond_true, getI_at hj, bind_some', n2, bind_some', r19_s2 (by omega) (by omega), bind_some', W64_succ (by omega)]
        cases b with
        | false => rfl
        | true =>
          cases (c.take j).any (fun q => bEq q.Name c[j].Name) with
          | true => rfl
          | false =>
            rw [show (!true) = false from rfl, cond_false, cond_true, cond_false, cond_false, Sum.elim_inr, letB_eq]
            revert hv
            cases decide (c[j].Thick < 5) with
            | true => intro hv; cases hv; rfl
            | false =>
            cases decide (300 < c[j].Thick) with
            | true => intro hv; cases hv; rfl
            | false =>
            cases decide (c[j].Width < c[j].Thick) with
            | true => intro hv; cases hv; rfl
            | false =>
            cases decide (600 < c[j].Width) with
            | true => intro hv; cases hv; rfl
            | false =>
            cases decide (c[j].Allow < 0) with
            | true => intro hv; cases hv; rfl
            | false =>
            cases decide (200 < c[j].Allow) with
            | true => intro hv; cases hv; rfl
            | false =>
            cases decide (c[j].Wane < 0) with
            | true => intro hv; cases hv; rfl
            | false =>
            cases decide (1000 < c[j].Wane) with
            | true => intro hv; cases hv; rfl
            | false =>
            cases decide (600 < (r19_Green_g c[j]).2) with
            | true => intro hv; cases hv; rfl
            | false =>
              intro hv
              have hv' : r19_checkLengths_g c[j] = some v := hv
              simp only [cond_false]
              rw [hv', bind_some']
              cases (v != 0) <;> rfl
      rw [e1, e2]
      cases b with
      | false => exact .inr ⟨_, rfl, rfl, _, rfl, by omega⟩
      | true =>
        cases (c.take j).any (fun q => bEq q.Name c[j].Name) with
        | true => exact .inr ⟨_, rfl, rfl, _, rfl, by omega⟩
        | false =>
          by_cases h0 : v = 0
          · subst h0
            exact .inl ⟨rfl, rfl, fun _ => hok rfl⟩
          · rw [show (v != 0) = true by simp [h0]]
            exact .inr ⟨_, rfl, rfl, _, rfl, h0⟩) (by
      unfold product_Check_s1 r19_Check_s1
      rw [nlt_nat]
      exact ⟨rfl, rfl⟩)
    rw [show ((0 : Nat) : Int) = 0 from rfl] at h1 h2
    rw [h1, h2, bind_some']
    rcases h3 with ⟨rfl, h3⟩ | ⟨v, rfl, hv⟩
    · refine ⟨0, rfl, rfl, fun _ => ⟨by omega, fun p hp => ?_⟩⟩
      obtain ⟨j, hj, rfl⟩ := List.getElem_of_mem hp
      exact h3 j hj hj
    · exact ⟨v, rfl, rfl, fun h => absurd h hv⟩
end Go.Proofs.YtpoehckffpbfiaaGreat
