/- P12: what functions of the program compute (written by mod.py). -/
import Derived.Test.YtcimnopodmnmmaaP11
import Derived.KernelRfl
namespace Go.Proofs.Ytcimnopodmnmmaa
open Go Go.Ab
set_option linter.unusedSimpArgs false
set_option linter.unusedVariables false
set_option linter.unusedSectionVars false
set_option maxRecDepth 20000
set_option maxHeartbeats 1000000

/-! ResawMore -/
theorem all_of {sizes prices : List Int} (hl : prices.length = sizes.length) (hR : Rng (sizes.zip prices)) : (List.range sizes.length).all (okP sizes prices) = true := by
  rw [List.all_eq_true]
  intro j hj
  have hj' := List.mem_range.1 hj
  have hz : j < (sizes.zip prices).length := by rw [List.length_zip]; omega
  have := hR _ (List.getElem_mem hz)
  rw [List.getElem_zip] at this
  dsimp only at this
  unfold okP
  rw [List.getElem?_eq_getElem hj', List.getElem?_eq_getElem (show j < prices.length by omega)]
  simp
  omega
theorem mst_of {t k : Int} {sizes prices : List Int} (hsw : 1 ≤ t ∧ t ≤ 600 ∧ 0 ≤ k ∧ k ≤ 20) (h0 : sizes.length ≠ 0) (h32 : sizes.length ≤ 32) (hl : prices.length = sizes.length) : (Rng (sizes.zip prices) → mst t k sizes prices = (listBest k (sizes.zip prices) (t + k).toNat, bst k (nBest k (sizes.zip prices) (t + k).toNat) (sizes.zip prices) (t + k), 0)) ∧ (¬ Rng (sizes.zip prices) → mst t k sizes prices = ([], 0, 9)) := by
  have hsw' : resaw_isSaw_g t k = true := by
    unfold resaw_isSaw_g
    rw [decide_eq_true hsw.1, decide_eq_true hsw.2.1, decide_eq_true hsw.2.2.1, decide_eq_true hsw.2.2.2]
    rfl
  unfold mst
  rw [hsw', Bool.not_true, cond_false, show (((sizes.length : Nat) : Int) == 0) = false by rw [beq_eq_false_iff_ne]; omega, cond_false, decide_eq_false (by omega), cond_false, show (((prices.length : Nat) : Int) != ((sizes.length : Nat) : Int)) = false by simp [hl], cond_false]
  constructor
  · intro hR
    rw [all_of hl hR]
    rfl
  · intro hR
    have : (List.range sizes.length).all (okP sizes prices) = false := by
      cases h : (List.range sizes.length).all (okP sizes prices) with
      | false => rfl
      | true => exact absurd (rng_of hl h) hR
    rw [this]
    rfl
theorem szs_k {k j : Int} {L : List (Int × Int)} : ∀ (is : List Nat), (∀ i ∈ is, i < L.length) → szs k L is = szs j L is + (k - j) * (is.length : Int)
  | [], _ => by simp [szs]
  | i :: is, h => by
    have := szs_k (k := k) (j := j) is (fun a ha => h a (List.mem_cons_of_mem _ ha))
    have hi := h i (List.mem_cons_self ..)
    rw [szs_cons, szs_cons, this, List.getElem?_eq_getElem hi, List.length_cons]
    dsimp only [Option.elim]
    push_cast
    rw [Int.mul_add]
    omega
theorem szs_app {k : Int} {L M : List (Int × Int)} : ∀ (is : List Nat), (∀ i ∈ is, i < L.length) → szs k (L ++ M) is = szs k L is ∧ prs (L ++ M) is = prs L is
  | [], _ => by simp [szs, prs]
  | i :: is, h => by
    have := szs_app (k := k) (L := L) (M := M) is (fun a ha => h a (List.mem_cons_of_mem _ ha))
    have hi := h i (List.mem_cons_self ..)
    rw [szs_cons, szs_cons, prs_cons, prs_cons, this.1, this.2, List.getElem?_append_left hi]
    exact ⟨rfl, rfl⟩
/-- A problem in which the other's best list fits is at least as good. -/
theorem better {t k t' k' : Int} {L L' : List (Int × Int)} (ht : 0 ≤ t + k) (ht' : 0 ≤ t' + k') (hk' : 0 ≤ k') (hR' : Rng L') (hfit : ∀ is : List Nat, (∀ i ∈ is, i < L.length) → 1 ≤ is.length → szs k L is ≤ t + k → (∀ i ∈ is, i < L'.length) ∧ szs k' L' is ≤ t' + k' ∧ prs L' is = prs L is) :
    bst k (nBest k L (t + k).toNat) L (t + k) ≤ bst k' (nBest k' L' (t' + k').toNat) L' (t' + k') := by
  have hT : t + k = (((t + k).toNat : Nat) : Int) := by omega
  have hT' : t' + k' = (((t' + k').toNat : Nat) : Int) := by omega
  obtain ⟨n1, n2, n3⟩ := nBest_ok (k := k) L (t + k).toNat
  obtain ⟨m1, m2, m3⟩ := nBest_ok (k := k') L' (t' + k').toNat
  rw [← hT] at n2 n3
  rw [← hT'] at m2 m3
  obtain ⟨p1, p2, p3, p4, p5⟩ := pick_ok (k := k) (L := L) (nBest k L (t + k).toNat + L.length + 1) (nBest k L (t + k).toNat) (t + k) 0 (by omega) (by simpa using n2) ht
  rw [List.drop_zero] at p1 p2 p3 p4 p5
  generalize nBest k L (t + k).toNat = n at *
  generalize pick k (n + L.length + 1) L n (t + k) 0 = is at *
  rcases Nat.eq_zero_or_pos n with h0 | h0
  · subst h0
    rw [bst_zero]
    exact m2
  · obtain ⟨f1, f2, f3⟩ := hfit is (fun i hi => (p2 i hi).2) (by omega) p4
    have hb := bst_best hk' hR' f1 f2
    have := (m3 is.length (by omega)).1
    omega
theorem resawMore_true (x : Tsawmilllaw27_Parts) (more : Int × Int × Int × Int) : l27_ResawMore_g x more = some true := by
  unfold l27_ResawMore_g
  rw [aw27]
  cases hlt : l27_light_g x with
  | false => rfl
  | true =>
    have hth : x.Thick ≤ 200 := by
      unfold l27_light_g at hlt
      simp only [Bool.cond_false_right, Bool.and_eq_true, decide_eq_true_eq] at hlt
      exact hlt.2.1
    rw [Bool.not_true, cond_false]
    by_cases h1 : more.1 < 0
    · rw [decide_eq_true h1]
      rfl
    by_cases h2 : 100 < more.1
    · rw [decide_eq_false h1, decide_eq_true h2]
      rfl
    by_cases h3 : more.2.1 < 0
    · rw [decide_eq_false h1, decide_eq_false h2, decide_eq_true h3]
      rfl
    by_cases h4 : x.Kerf < more.2.1
    · rw [decide_eq_false h1, decide_eq_false h2, decide_eq_false h3, decide_eq_true h4]
      rfl
    by_cases h5 : 5 < ((x.Sizes.length : Nat) : Int)
    · rw [decide_eq_false h1, decide_eq_false h2, decide_eq_false h3, decide_eq_false h4, decide_eq_true h5]
      rfl
    rw [decide_eq_false h1, decide_eq_false h2, decide_eq_false h3, decide_eq_false h4, decide_eq_false h5]
    simp only [cond_false, most_eq1, bind_some']
    rcases mst_cases x.Thick x.Kerf x.Sizes x.Prices with ⟨e, he, hm⟩ | ⟨hsw, h0, h32, hp, hR, hm⟩
    · rw [hm]
      dsimp only
      rw [ne_t he]
      rfl
    · have hzl : (x.Sizes.zip x.Prices).length = x.Sizes.length := by rw [List.length_zip]; omega
      have hz2 : (x.Sizes ++ [more.2.2.1]).zip (x.Prices ++ [more.2.2.2]) = x.Sizes.zip x.Prices ++ [(more.2.2.1, more.2.2.2)] := by
        rw [List.zip_append hp.symm]
        rfl
      rw [W64_eq (n := x.Thick + more.1) (by omega) (by omega), appO_eq (by simp; omega) (by simp; omega), bind_some', List.nil_append, appO_eq (by simp; omega) (by simp; omega), bind_some', appO_eq (by simp; omega) (by simp; omega), bind_some', List.nil_append, appO_eq (by simp; omega) (by simp; omega), bind_some']
      rw [hm, (mst_of (t := x.Thick + more.1) (k := x.Kerf) (by omega) h0 h32 hp).1 hR, (mst_of (t := x.Thick) (k := more.2.1) (by omega) h0 h32 hp).1 hR]
      have b1 := better (t := x.Thick) (k := x.Kerf) (t' := x.Thick + more.1) (k' := x.Kerf) (L := x.Sizes.zip x.Prices) (by omega) (by omega) (by omega) hR (fun is hi _ hs => ⟨hi, by omega, rfl⟩)
      have b2 := better (t := x.Thick) (k := x.Kerf) (t' := x.Thick) (k' := more.2.1) (L := x.Sizes.zip x.Prices) (by omega) (by omega) (by omega) hR (fun is hi hn hs => ⟨hi, by
        have := szs_k (k := x.Kerf) (j := more.2.1) is hi
        have hm : (x.Kerf - more.2.1) * 1 ≤ (x.Kerf - more.2.1) * (is.length : Int) := Int.mul_le_mul_of_nonneg_left (by omega) (by omega)
        omega, rfl⟩)
      dsimp only
      rw [ne_f, cond_false, show ((0 : Int) == 0) = true from rfl, cond_true, decide_eq_true b1, cond_true, cond_true, decide_eq_true b2, cond_true]
      by_cases hR3 : Rng (x.Sizes.zip x.Prices ++ [(more.2.2.1, more.2.2.2)])
      · have b3 := better (t := x.Thick) (k := x.Kerf) (t' := x.Thick) (k' := x.Kerf) (L := x.Sizes.zip x.Prices) (by omega) (by omega) (by omega) hR3 (fun is hi hn hs => ⟨fun i h => by
          have := hi i h
          rw [List.length_append]
          omega, by rw [(szs_app is hi).1]; exact hs, (szs_app (k := x.Kerf) is hi).2⟩)
        rw [(mst_of (t := x.Thick) (k := x.Kerf) (sizes := x.Sizes ++ [more.2.2.1]) (prices := x.Prices ++ [more.2.2.2]) hsw (by simp) (by simp; omega) (by simp [hp])).1 (by rw [hz2]; exact hR3), hz2]
        dsimp only
        rw [show ((0 : Int) == 0) = true from rfl, cond_true, decide_eq_true b3]
        rfl
      · rw [(mst_of (t := x.Thick) (k := x.Kerf) (sizes := x.Sizes ++ [more.2.2.1]) (prices := x.Prices ++ [more.2.2.2]) hsw (by simp) (by simp; omega) (by simp [hp])).2 (by rw [hz2]; exact hR3)]
        rfl

end Go.Proofs.Ytcimnopodmnmmaa
