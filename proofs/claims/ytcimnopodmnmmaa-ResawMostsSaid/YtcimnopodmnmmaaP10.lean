/- P10: what functions of the program compute (written by mod.py). -/
import Derived.Test.YtcimnopodmnmmaaP9
import Derived.KernelRfl
namespace Go.Proofs.Ytcimnopodmnmmaa
open Go Go.Ab
set_option linter.unusedSimpArgs false
set_option linter.unusedVariables false
set_option linter.unusedSectionVars false
set_option maxRecDepth 20000
set_option maxHeartbeats 1000000

/-! the program's answer -/
noncomputable def vcnt (f : Nat → Int) (m : Nat) : Nat := (List.range m).foldl (fun c j => if f c < f j then j else c) 0
theorem vcnt_succ (f : Nat → Int) (m : Nat) : vcnt f (m + 1) = if f (vcnt f m) < f m then m else vcnt f m := by
  unfold vcnt
  rw [List.range_succ, List.foldl_append]
  rfl
theorem vcnt_le (f : Nat → Int) : ∀ m : Nat, vcnt f (m + 1) ≤ m ∧ f 0 ≤ f (vcnt f (m + 1)) ∧ ∀ j, j ≤ m → f j ≤ f (vcnt f (m + 1)) ∧ (f j = f (vcnt f (m + 1)) → vcnt f (m + 1) ≤ j) := by
  intro m
  induction m with
  | zero =>
    have h0 : vcnt f 1 = 0 := by
      rw [vcnt_succ]
      show (if f (vcnt f 0) < f 0 then 0 else vcnt f 0) = 0
      have : vcnt f 0 = 0 := rfl
      rw [this]
      split <;> rfl
    rw [h0]
    exact ⟨by omega, Int.le_refl _, fun j hj => by
      have : j = 0 := by omega
      subst this
      exact ⟨Int.le_refl _, fun _ => Nat.le_refl _⟩⟩
  | succ m ih =>
    obtain ⟨h1, h2, h3⟩ := ih
    rw [vcnt_succ f (m + 1)]
    by_cases h : f (vcnt f (m + 1)) < f (m + 1)
    · rw [if_pos h]
      refine ⟨by omega, by omega, fun j hj => ?_⟩
      rcases Nat.lt_or_ge j (m + 1) with hj' | hj'
      · have := (h3 j (by omega)).1
        exact ⟨by omega, fun he => by omega⟩
      · have : j = m + 1 := by omega
        subst this
        exact ⟨Int.le_refl _, fun _ => Nat.le_refl _⟩
    · rw [if_neg h]
      refine ⟨by omega, h2, fun j hj => ?_⟩
      rcases Nat.lt_or_ge j (m + 1) with hj' | hj'
      · exact h3 j (by omega)
      · have : j = m + 1 := by omega
        subst this
        exact ⟨by omega, fun _ => by omega⟩
def okP (sizes prices : List Int) (j : Nat) : Bool := ((sizes[j]?).elim true fun s => !decide (s < 1) && !decide (600 < s)) && ((prices[j]?).elim true fun p => !decide (p < 0) && !decide (1000000 < p))
theorem rng_of {sizes prices : List Int} (hl : prices.length = sizes.length) (h : (List.range sizes.length).all (okP sizes prices) = true) : Rng (sizes.zip prices) := by
  intro q hq
  obtain ⟨j, hj, rfl⟩ := List.getElem_of_mem hq
  rw [List.length_zip] at hj
  rw [List.all_eq_true] at h
  have := h j (List.mem_range.2 (by omega))
  unfold okP at this
  rw [List.getElem?_eq_getElem (show j < sizes.length by omega), List.getElem?_eq_getElem (show j < prices.length by omega)] at this
  simp only [Option.elim, Bool.and_eq_true, Bool.not_eq_true', decide_eq_false_iff_not] at this
  rw [List.getElem_zip]
  dsimp only
  omega
theorem chk_loop1 {sizes prices : List Int} (hl : prices.length = sizes.length) (hs : sizes.length ≤ 32) : loopO (fun q => resaw_Most_s1 sizes prices q) 0 = some (bif (List.range sizes.length).all (okP sizes prices) then .inr () else .inl ([], 0, 9)) := by
  refine loopO_allN (step := fun q : Int => resaw_Most_s1 sizes prices q) sizes.length (fun j => (j : Int)) (okP sizes prices) ([], 0, 9) (fun j hj => ?_) ?_
  · show resaw_Most_s1 sizes prices (j : Int) = _
    have hj2 : j < prices.length := by omega
    unfold resaw_Most_s1 okP
    rw [lt_nat hj, cond_true, getI_at hj, bind_some', getI_at hj2, bind_some', bind_some', W64_succ (by omega), List.getElem?_eq_getElem hj, List.getElem?_eq_getElem hj2]
    dsimp only [Option.elim]
    cases decide (sizes[j] < 1) <;> cases decide (600 < sizes[j]) <;> cases decide (prices[j] < 0) <;> cases decide (1000000 < prices[j]) <;> rfl
  · show resaw_Most_s1 sizes prices (sizes.length : Int) = _
    unfold resaw_Most_s1
    rw [nlt_nat]
    rfl
theorem chk_loop2 {sizes prices : List Int} (hl : prices.length = sizes.length) (hs : sizes.length ≤ 32) : loopO (fun q => r27_Most_s1 sizes prices q) 0 = some (bif (List.range sizes.length).all (okP sizes prices) then .inr () else .inl ([], 0, 9)) := by
  refine loopO_allN (step := fun q : Int => r27_Most_s1 sizes prices q) sizes.length (fun j => (j : Int)) (okP sizes prices) ([], 0, 9) (fun j hj => ?_) ?_
  · show r27_Most_s1 sizes prices (j : Int) = _
    have hj2 : j < prices.length := by omega
    unfold r27_Most_s1 okP
    rw [lt_nat hj, cond_true, getI_at hj, bind_some', bind_some', getI_at hj2, bind_some', bind_some', W64_succ (by omega), List.getElem?_eq_getElem hj, List.getElem?_eq_getElem hj2]
    dsimp only [Option.elim]
    cases decide (sizes[j] < 1) <;> cases decide (600 < sizes[j]) <;> cases decide (prices[j] < 0) <;> cases decide (1000000 < prices[j]) <;> rfl
  · show r27_Most_s1 sizes prices (sizes.length : Int) = _
    unfold r27_Most_s1
    rw [nlt_nat]
    rfl
noncomputable def nBest (k : Int) (L : List (Int × Int)) (M : Nat) : Nat := vcnt (fun n => bst k n L (M : Int)) 9
noncomputable def listBest (k : Int) (L : List (Int × Int)) (M : Nat) : List Int := (pick k (nBest k L M + L.length + 1) L (nBest k L M) (M : Int) 0).map fun i : Nat => (i : Int)
/-- What Most answers. -/
noncomputable def mst (t k : Int) (sizes prices : List Int) : List Int × Int × Int :=
  bif !(resaw_isSaw_g t k) then ([], 0, 9) else bif ((sizes.length : Nat) : Int) == 0 then ([], 0, 3) else bif decide (32 < ((sizes.length : Nat) : Int)) then ([], 0, 4) else bif ((prices.length : Nat) : Int) != ((sizes.length : Nat) : Int) then ([], 0, 19) else bif !((List.range sizes.length).all (okP sizes prices)) then ([], 0, 9) else
    (listBest k (sizes.zip prices) (t + k).toNat, bst k (nBest k (sizes.zip prices) (t + k).toNat) (sizes.zip prices) (t + k), 0)
section
variable {k : Int} {sizes prices : List Int} {M : Nat} (hk : 0 ≤ k ∧ k ≤ 20) (hM : M ≤ 10000) (hl : prices.length = sizes.length) (hs : sizes.length ≤ 32) (hR : Rng (sizes.zip prices))
include hk hM hl hs hR
omit hk hl hs hR in
theorem arT_get {n i : Nat} {r : Int} (hn : n ≤ 8) (h0 : 0 ≤ r) (h1 : r ≤ (M : Int)) : ∃ row, getI (arT k (sizes.zip prices) M i).1 (n : Int) = some row ∧ getI row r = some (bst k n ((sizes.zip prices).drop i) r) :=
  ⟨_, by rw [arT_val, tab_at _ (by omega)], row_get h0 h1⟩
theorem back_loop : ∀ (f n i : Nat) (room : Int) (out : List Int), n + (sizes.length - i) < f → n ≤ 8 → out.length + n ≤ 8 → 0 ≤ room → room ≤ (M : Int) → 0 ≤ bst k n ((sizes.zip prices).drop i) room →
    loopO (fun q : Int × Int × List Int × Int => resaw_Most_s3 k sizes prices (tab (sizes.length + 1) (arT k (sizes.zip prices) M)) q.1 q.2.1 q.2.2.1 q.2.2.2) (room, (n : Int), out, (i : Int)) = some (out ++ (pick k f ((sizes.zip prices).drop i) n room i).map fun a : Nat => (a : Int)) := by
  intro f
  induction f with
  | zero => intro n i room out h; omega
  | succ f ih =>
    intro n i room out hf hn ho h0 h1 hb
    cases n with
    | zero =>
      have hp : pick k (f + 1) ((sizes.zip prices).drop i) 0 room i = [] := by
        cases (sizes.zip prices).drop i <;> rfl
      rw [hp]
      refine loopO_done ?_
      show resaw_Most_s3 k sizes prices _ room ((0 : Nat) : Int) out (i : Int) = _
      unfold resaw_Most_s3
      rw [decide_eq_false (by omega), cond_false]
      simp
    | succ n =>
      rcases Nat.lt_or_ge i sizes.length with hi | hi
      · have hz := zip_at hk hM hl hs hR hi
        have hq := hR (sizes[i], prices[i]) (List.mem_of_mem_drop (i := i) (by rw [hz]; exact List.mem_cons_self ..))
        dsimp only at hq
        have hpk : pick k (f + 1) ((sizes.zip prices).drop i) (n + 1) room i = if 0 ≤ room - sizes[i] - k ∧ 0 ≤ bst k n ((sizes.zip prices).drop i) (room - sizes[i] - k) ∧ bst k n ((sizes.zip prices).drop i) (room - sizes[i] - k) + prices[i] = bst k (n + 1) ((sizes.zip prices).drop i) room then i :: pick k f ((sizes.zip prices).drop i) n (room - sizes[i] - k) i else pick k f ((sizes.zip prices).drop (i + 1)) (n + 1) room (i + 1) := by
          rw [hz]
          rfl
        have hc := bst_cons k n (sizes[i], prices[i]) ((sizes.zip prices).drop (i + 1)) room
        rw [← hz] at hc
        dsimp only at hc
        have hbd := bst_bd k n ((sizes.zip prices).drop i) (room - sizes[i] - k) (fun q hq => hR q (List.mem_of_mem_drop hq))
        have hskip : ¬ (0 ≤ room - sizes[i] - k ∧ 0 ≤ bst k n ((sizes.zip prices).drop i) (room - sizes[i] - k) ∧ bst k n ((sizes.zip prices).drop i) (room - sizes[i] - k) + prices[i] = bst k (n + 1) ((sizes.zip prices).drop i) room) → resaw_Most_s3 k sizes prices (tab (sizes.length + 1) (arT k (sizes.zip prices) M)) room ((n + 1 : Nat) : Int) out (i : Int) = some (.inl (room, ((n + 1 : Nat) : Int), out, ((i + 1 : Nat) : Int))) → loopO (fun q : Int × Int × List Int × Int => resaw_Most_s3 k sizes prices (tab (sizes.length + 1) (arT k (sizes.zip prices) M)) q.1 q.2.1 q.2.2.1 q.2.2.2) (room, ((n + 1 : Nat) : Int), out, (i : Int)) = some (out ++ (pick k (f + 1) ((sizes.zip prices).drop i) (n + 1) room i).map fun a : Nat => (a : Int)) := by
          intro hn' hstep
          have he : bst k (n + 1) ((sizes.zip prices).drop i) room = bst k (n + 1) ((sizes.zip prices).drop (i + 1)) room := by
            rw [hc]
            by_cases hh : 0 ≤ room - sizes[i] - k ∧ 0 ≤ bst k n ((sizes.zip prices).drop i) (room - sizes[i] - k)
            · rw [if_pos hh] at hc ⊢
              have : ¬ bst k n ((sizes.zip prices).drop i) (room - sizes[i] - k) + prices[i] = bst k (n + 1) ((sizes.zip prices).drop i) room := fun h' => hn' ⟨hh.1, hh.2, h'⟩
              omega
            · rw [if_neg hh]
          rw [hpk, if_neg hn', loopO_next hstep]
          exact ih (n + 1) (i + 1) room out (by omega) hn ho h0 h1 (by rw [← he]; exact hb)
        obtain ⟨r1, ra, rb⟩ := arT_get (k := k) (sizes := sizes) (prices := prices) hM (i := i) (n := n + 1) hn h0 h1
        have hstep0 : resaw_Most_s3 k sizes prices (tab (sizes.length + 1) (arT k (sizes.zip prices) M)) room ((n + 1 : Nat) : Int) out (i : Int) = if 0 ≤ room - sizes[i] - k ∧ 0 ≤ bst k n ((sizes.zip prices).drop i) (room - sizes[i] - k) ∧ bst k n ((sizes.zip prices).drop i) (room - sizes[i] - k) + prices[i] = bst k (n + 1) ((sizes.zip prices).drop i) room then some (.inl (room - sizes[i] - k, (n : Int), out ++ [(i : Int)], (i : Int))) else some (.inl (room, ((n + 1 : Nat) : Int), out, ((i + 1 : Nat) : Int))) := by
          unfold resaw_Most_s3
          rw [decide_eq_true (by omega), cond_true, getI_at hi, bind_some', W64_eq (n := room - sizes[i]) (by omega) (by omega), W64_eq (n := room - sizes[i] - k) (by omega) (by omega), W64_eq (n := ((n + 1 : Nat) : Int) - 1) (by omega) (by omega), show ((n + 1 : Nat) : Int) - 1 = (n : Int) by omega, W64_succ (by omega), tab_at _ (show i < sizes.length + 1 by omega)]
          by_cases e0 : 0 ≤ room - sizes[i] - k
          · obtain ⟨r2, rc, rd⟩ := arT_get (k := k) (sizes := sizes) (prices := prices) hM (i := i) (n := n) (r := room - sizes[i] - k) (by omega) e0 (by omega)
            rw [decide_eq_true e0, cond_true]
            simp only [bind_some', rc, rd, ra, rb, getI_at (show i < prices.length by omega)]
            by_cases e1 : 0 ≤ bst k n ((sizes.zip prices).drop i) (room - sizes[i] - k)
            · rw [decide_eq_true e1, cond_true, W64_eq (by omega) (by omega)]
              by_cases e2 : bst k n ((sizes.zip prices).drop i) (room - sizes[i] - k) + prices[i] = bst k (n + 1) ((sizes.zip prices).drop i) room
              · rw [show (bst k n ((sizes.zip prices).drop i) (room - sizes[i] - k) + prices[i] == bst k (n + 1) ((sizes.zip prices).drop i) room) = true by simpa using e2, cond_true, if_pos ⟨e0, e1, e2⟩, appO_eq (by simp; omega) (by simp; omega), bind_some']
              · rw [show (bst k n ((sizes.zip prices).drop i) (room - sizes[i] - k) + prices[i] == bst k (n + 1) ((sizes.zip prices).drop i) room) = false by simpa using e2, cond_false, if_neg (fun h => e2 h.2.2)]
            · rw [decide_eq_false e1, cond_false, if_neg (fun h => e1 h.2.1)]
          · rw [decide_eq_false e0, cond_false, if_neg (fun h => e0 h.1)]
        by_cases hh : 0 ≤ room - sizes[i] - k ∧ 0 ≤ bst k n ((sizes.zip prices).drop i) (room - sizes[i] - k) ∧ bst k n ((sizes.zip prices).drop i) (room - sizes[i] - k) + prices[i] = bst k (n + 1) ((sizes.zip prices).drop i) room
        · rw [if_pos hh] at hstep0
          rw [hpk, if_pos hh, loopO_next hstep0]
          have := ih n i (room - sizes[i] - k) (out ++ [(i : Int)]) (by omega) (by omega) (by simp; omega) hh.1 (by omega) hh.2.1
          rw [this]
          simp
        · rw [if_neg hh] at hstep0
          exact hskip hh hstep0
      · rw [List.drop_eq_nil_of_le (by rw [List.length_zip]; omega), bst_nil] at hb
        omega
theorem cnt_pick {t : Int} (ht : t + k = (M : Int)) (ht2 : 0 ≤ t) : loopO (fun q : Int × Int => resaw_Most_s2 t k (tab (sizes.length + 1) (arT k (sizes.zip prices) M)) q.1 q.2) (0, 0) = some ((nBest k (sizes.zip prices) M : Nat) : Int) := by
  have hv : ∀ j, j ≤ 9 → vcnt (fun n => bst k n (sizes.zip prices) (M : Int)) j ≤ 8 := by
    intro j hj
    cases j with
    | zero => exact Nat.zero_le _
    | succ j => exact Nat.le_trans (vcnt_le _ j).1 (by omega)
  refine loopO_upto (step := fun q : Int × Int => resaw_Most_s2 t k (tab (sizes.length + 1) (arT k (sizes.zip prices) M)) q.1 q.2) (fun j => (((vcnt (fun n => bst k n (sizes.zip prices) (M : Int)) j : Nat) : Int), (j : Int))) 9 (fun j hj => ?_) ?_
  · show resaw_Most_s2 t k _ ((vcnt _ j : Nat) : Int) (j : Int) = _
    unfold resaw_Most_s2
    obtain ⟨r1, ra, rb⟩ := arT_get (k := k) (sizes := sizes) (prices := prices) hM (i := 0) (n := j) (r := (M : Int)) (by omega) (by omega) (by omega)
    obtain ⟨r2, rc, rd⟩ := arT_get (k := k) (sizes := sizes) (prices := prices) hM (i := 0) (n := vcnt (fun n => bst k n (sizes.zip prices) (M : Int)) j) (r := (M : Int)) (hv j (by omega)) (by omega) (by omega)
    have hg : getI (tab (sizes.length + 1) (arT k (sizes.zip prices) M)) 0 = some (arT k (sizes.zip prices) M 0) := tab_at (j := 0) _ (by omega)
    rw [decide_eq_true (by omega), cond_true, hg, W64_eq (n := t + k) (by omega) (by omega), ht, W64_succ (by omega)]
    simp only [bind_some', ra, rb, rc, rd, List.drop_zero]
    rw [vcnt_succ]
    by_cases h : bst k (vcnt (fun n => bst k n (sizes.zip prices) (M : Int)) j) (sizes.zip prices) (M : Int) < bst k j (sizes.zip prices) (M : Int)
    · rw [decide_eq_true h, cond_true, if_pos h]
    · rw [decide_eq_false h, cond_false, if_neg h]
  · show resaw_Most_s2 t k _ _ ((9 : Nat) : Int) = _
    unfold resaw_Most_s2
    rw [decide_eq_false (by omega), cond_false]
    rfl
end
theorem nBest_ok {k : Int} (L : List (Int × Int)) (M : Nat) : nBest k L M ≤ 8 ∧ 0 ≤ bst k (nBest k L M) L (M : Int) ∧ ∀ j, j ≤ 8 → bst k j L (M : Int) ≤ bst k (nBest k L M) L (M : Int) ∧ (bst k j L (M : Int) = bst k (nBest k L M) L (M : Int) → nBest k L M ≤ j) := by
  obtain ⟨h1, h2, h3⟩ := vcnt_le (fun n => bst k n L (M : Int)) 8
  exact ⟨h1, h2, h3⟩
theorem most_eq1 (t k : Int) (sizes prices : List Int) : resaw_Most_g t k sizes prices = some (mst t k sizes prices) := by
  unfold resaw_Most_g mst
  cases hsw : resaw_isSaw_g t k with
  | false => rfl
  | true =>
    have hS := saw_ok hsw
    rw [Bool.not_true, cond_false, cond_false]
    cases h0 : (((sizes.length : Nat) : Int) == 0) with
    | true => rfl
    | false =>
      rw [cond_false, cond_false]
      by_cases h32 : 32 < ((sizes.length : Nat) : Int)
      · rw [decide_eq_true h32]
        rfl
      · rw [decide_eq_false h32, cond_false, cond_false]
        cases hp : (((prices.length : Nat) : Int) != ((sizes.length : Nat) : Int)) with
        | true => rfl
        | false =>
          have hl : prices.length = sizes.length := by
            simp at hp
            omega
          rw [cond_false, cond_false, chk_loop1 hl (by omega), bind_some']
          cases ha : (List.range sizes.length).all (okP sizes prices) with
          | false => rfl
          | true =>
            have hR := rng_of hl ha
            rw [cond_true, Bool.not_true, cond_false]
            have hT : t + k = (((t + k).toNat : Nat) : Int) := by omega
            have hM : (t + k).toNat ≤ 10000 := by omega
            have hk : 0 ≤ k ∧ k ≤ 20 := hS.2.2
            obtain ⟨n1, n2, n3⟩ := nBest_ok (k := k) (sizes.zip prices) (t + k).toNat
            have hg : getI (tab (sizes.length + 1) (arT k (sizes.zip prices) (t + k).toNat)) 0 = some (arT k (sizes.zip prices) (t + k).toNat 0) := tab_at (j := 0) _ (by omega)
            obtain ⟨r1, ra, rb⟩ := arT_get (k := k) (sizes := sizes) (prices := prices) hM (i := 0) (n := nBest k (sizes.zip prices) (t + k).toNat) (r := (((t + k).toNat : Nat) : Int)) n1 (by omega) (by omega)
            have hb := back_loop hk hM hl (by omega) hR (nBest k (sizes.zip prices) (t + k).toNat + (sizes.zip prices).length + 1) (nBest k (sizes.zip prices) (t + k).toNat) 0 (((t + k).toNat : Nat) : Int) [] (by rw [List.length_zip]; omega) n1 (by simpa using n1) (by omega) (by omega) n2
            show Option.bind (resaw_sums_g (W64 (t + k)) k sizes prices) _ = _
            rw [W64_eq (n := t + k) (by omega) (by omega)]
            have hsum := sums_eq hk hM hl (by omega) hR
            rw [← hT] at hsum hb rb
            rw [hsum, bind_some', cnt_pick hk hM hl (by omega) hR hT (by omega), bind_some', hg, bind_some', ra, bind_some', rb, bind_some']
            have hb' := hb
            rw [show ((0 : Nat) : Int) = 0 from rfl] at hb'
            rw [hb', bind_some', List.drop_zero]
            unfold listBest
            rw [← hT]
            rfl

end Go.Proofs.Ytcimnopodmnmmaa
