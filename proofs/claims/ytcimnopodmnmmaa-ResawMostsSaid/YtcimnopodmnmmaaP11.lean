/- P11: what functions of the program compute (written by mod.py). -/
import Derived.Test.YtcimnopodmnmmaaP10
import Derived.KernelRfl
namespace Go.Proofs.Ytcimnopodmnmmaa
open Go Go.Ab
set_option linter.unusedSimpArgs false
set_option linter.unusedVariables false
set_option linter.unusedSectionVars false
set_option maxRecDepth 20000
set_option maxHeartbeats 1000000

/-! ResawBest -/
theorem mst_cases (t k : Int) (sizes prices : List Int) : (∃ e, e ≠ 0 ∧ mst t k sizes prices = ([], 0, e)) ∨ ((1 ≤ t ∧ t ≤ 600 ∧ 0 ≤ k ∧ k ≤ 20) ∧ sizes.length ≠ 0 ∧ sizes.length ≤ 32 ∧ prices.length = sizes.length ∧ Rng (sizes.zip prices) ∧ mst t k sizes prices = (listBest k (sizes.zip prices) (t + k).toNat, bst k (nBest k (sizes.zip prices) (t + k).toNat) (sizes.zip prices) (t + k), 0)) := by
  unfold mst
  cases hsw : resaw_isSaw_g t k with
  | false => exact .inl ⟨9, by omega, rfl⟩
  | true =>
    rw [Bool.not_true, cond_false]
    cases h0 : (((sizes.length : Nat) : Int) == 0) with
    | true => exact .inl ⟨3, by omega, rfl⟩
    | false =>
      have h0' : sizes.length ≠ 0 := by
        intro h
        rw [h] at h0
        exact absurd h0 (by decide)
      rw [cond_false]
      by_cases h32 : 32 < ((sizes.length : Nat) : Int)
      · rw [decide_eq_true h32]
        exact .inl ⟨4, by omega, rfl⟩
      · rw [decide_eq_false h32, cond_false]
        cases hp : (((prices.length : Nat) : Int) != ((sizes.length : Nat) : Int)) with
        | true => exact .inl ⟨19, by omega, rfl⟩
        | false =>
          have hl : prices.length = sizes.length := by
            simp at hp
            omega
          cases ha : (List.range sizes.length).all (okP sizes prices) with
          | false => exact .inl ⟨9, by omega, rfl⟩
          | true => exact .inr ⟨saw_ok hsw, h0', by omega, hl, rng_of hl ha, rfl⟩
def badI (sizes : List Int) (e : Int) : Bool := decide (e < 0) || decide (((sizes.length : Nat) : Int) ≤ e)
def sumF (sizes prices : List Int) (s : List Int × Int) (e : Int) : List Int × Int := (s.1 ++ [(sizes[e.toNat]?).getD 0], s.2 + (prices[e.toNat]?).getD 0)
theorem sum_eq (x : Tsawmilllaw27_Parts) (hp : x.Prices.length = x.Sizes.length) (hR : Rng (x.Sizes.zip x.Prices)) {l : List Int} (hl : l.length ≤ 100) : l27_sum_g x l = some (bif l.any (badI x.Sizes) then ([], 0, false) else ((l.foldl (sumF x.Sizes x.Prices) ([], 0)).1, (l.foldl (sumF x.Sizes x.Prices) ([], 0)).2, true)) := by
  unfold l27_sum_g
  have hpr : ∀ j (hj : j < x.Prices.length), 0 ≤ x.Prices[j] ∧ x.Prices[j] ≤ 1000000 := by
    intro j hj
    have hz : j < (x.Sizes.zip x.Prices).length := by rw [List.length_zip]; omega
    have := hR _ (List.getElem_mem hz)
    rw [List.getElem_zip] at this
    dsimp only at this
    omega
  have := loopO_foldX (step := fun q : List Int × Int × Int => l27_sum_s1 x l q.1 q.2.1 q.2.2) l (badI x.Sizes) (sumF x.Sizes x.Prices) ([], 0) (fun s j => (s.1, s.2, (j : Int))) (.inl ([], 0, false)) (fun s => (.inr (s.1, s.2) : (List Int × Int × Bool) ⊕ (List Int × Int))) (fun j s => s.1.length = j ∧ 0 ≤ s.2 ∧ s.2 ≤ 1000000 * (j : Int)) ⟨rfl, by omega, by omega⟩ (fun j s hj hb hI => by
    unfold badI at hb
    simp only [Bool.or_eq_false_iff, decide_eq_false_iff_not] at hb
    have hx : l[j].toNat < x.Prices.length := by omega
    have := hpr _ hx
    unfold sumF
    rw [List.getElem?_eq_getElem hx]
    simp only [Option.getD_some, List.length_append, List.length_singleton]
    push_cast
    omega) (fun s j hj hI hb => by
    unfold badI at hb
    simp only [Bool.or_eq_false_iff, decide_eq_false_iff_not] at hb
    have hx : l[j].toNat < x.Prices.length := by omega
    have hy : l[j].toNat < x.Sizes.length := by omega
    have h1 := hpr _ hx
    have g1 : getI x.Sizes l[j] = some x.Sizes[l[j].toNat] := by
      have := getI_at hy
      rw [show ((l[j].toNat : Nat) : Int) = l[j] by omega] at this
      exact this
    have g2 : getI x.Prices l[j] = some x.Prices[l[j].toNat] := by
      have := getI_at hx
      rw [show ((l[j].toNat : Nat) : Int) = l[j] by omega] at this
      exact this
    show l27_sum_s1 x l s.1 s.2 (j : Int) = _
    unfold l27_sum_s1
    rw [lt_nat hj, cond_true, getI_at hj]
    simp only [bind_some']
    rw [decide_eq_false hb.1, cond_false, decide_eq_false hb.2, cond_false, decide_eq_false (by omega), cond_false, g1, bind_some', appO_eq (by simp; omega) (by simp; omega), bind_some', g2, bind_some', W64_succ (by omega), W64_eq (by omega) (by omega)]
    unfold sumF
    rw [List.getElem?_eq_getElem hx, List.getElem?_eq_getElem hy]
    rfl) (fun s j hj hI hb => by
    show l27_sum_s1 x l s.1 s.2 (j : Int) = _
    unfold l27_sum_s1
    unfold badI at hb
    rw [lt_nat hj, cond_true, getI_at hj]
    simp only [bind_some']
    cases hc : decide (l[j] < 0) with
    | true => rfl
    | false =>
      rw [hc, Bool.false_or] at hb
      rw [cond_false, hb]
      rfl) (fun s hI => by
    show l27_sum_s1 x l s.1 s.2 _ = _
    unfold l27_sum_s1
    rw [nlt_nat]
    rfl)
  rw [show (([] : List Int), (0 : Int), (0 : Int)) = (([] : List Int), (0 : Int), ((0 : Nat) : Int)) from rfl, this, bind_some']
  cases l.any (badI x.Sizes) <;> rfl
theorem sumF_fold (sizes prices : List Int) : ∀ (l : List Int) (s : List Int × Int), l.foldl (sumF sizes prices) s = (s.1 ++ l.map (fun e => (sizes[e.toNat]?).getD 0), s.2 + (l.map (fun e => (prices[e.toNat]?).getD 0)).sum) := by
  intro l
  induction l with
  | nil => intro s; simp
  | cons e l ih =>
    intro s
    rw [List.foldl_cons, ih, List.map_cons, List.map_cons, List.sum_cons]
    unfold sumF
    dsimp only
    rw [List.append_assoc, Int.add_assoc]
    rfl
section
variable {sizes prices : List Int} (hp : prices.length = sizes.length)
include hp
theorem zip_get {i : Nat} (hi : i < sizes.length) : (sizes.zip prices)[i]? = some ((sizes[i]?).getD 0, (prices[i]?).getD 0) := by
  rw [List.getElem?_eq_getElem (by rw [List.length_zip]; omega), List.getElem_zip, List.getElem?_eq_getElem hi, List.getElem?_eq_getElem (by omega)]
  rfl
theorem tot_szs (k : Int) : ∀ (is : List Nat), (∀ i ∈ is, i < sizes.length) → tot k (is.map fun i => (sizes[i]?).getD 0) = szs k (sizes.zip prices) is - k
  | [], _ => by simp [tot, szs]
  | i :: is, h => by
    have := tot_szs k is (fun a ha => h a (List.mem_cons_of_mem _ ha))
    rw [List.map_cons, tot, szs_cons, zip_get hp (h i (List.mem_cons_self ..)), this]
    dsimp only [Option.elim]
    omega
theorem prs_sum : ∀ (is : List Nat), (∀ i ∈ is, i < sizes.length) → (is.map fun i => (prices[i]?).getD 0).sum = prs (sizes.zip prices) is
  | [], _ => by simp [prs]
  | i :: is, h => by
    have := prs_sum is (fun a ha => h a (List.mem_cons_of_mem _ ha))
    rw [List.map_cons, List.sum_cons, prs_cons, zip_get hp (h i (List.mem_cons_self ..)), this]
    rfl
end
theorem szs_mem {k : Int} (hk : 0 ≤ k) {L : List (Int × Int)} (hR : Rng L) : ∀ (is : List Nat) {i : Nat} {q : Int × Int}, i ∈ is → L[i]? = some q → q.1 + k ≤ szs k L is
  | [], _, _, h, _ => by cases h
  | a :: is, i, q, h, hq => by
    have hn := (szs_nonneg hk hR is).1
    rw [szs_cons]
    rcases List.mem_cons.1 h with rfl | h
    · rw [hq]
      dsimp only [Option.elim]
      omega
    · have := szs_mem hk hR is h hq
      have h2 : 0 ≤ ((L[a]?).elim 0 fun q => q.1 + k) := by
        cases hl : L[a]? with
        | none => exact Int.le_refl _
        | some p =>
          have := hR p (List.mem_of_getElem? hl)
          dsimp only [Option.elim]
          omega
      omega
theorem chk_fits {t k : Int} {sizes prices : List Int} (hsw : 1 ≤ t ∧ t ≤ 600 ∧ 0 ≤ k ∧ k ≤ 20) (hp : prices.length = sizes.length) (hR : Rng (sizes.zip prices)) {is : List Nat} (hb : ∀ i ∈ is, i < sizes.length) (h1 : 1 ≤ is.length) (h8 : is.length ≤ 8) (hs : szs k (sizes.zip prices) is ≤ t + k) : chk t k (is.map fun i => (sizes[i]?).getD 0) = 0 := by
  unfold chk
  have hsw' : resaw_isSaw_g t k = true := by
    unfold resaw_isSaw_g
    rw [decide_eq_true hsw.1, decide_eq_true hsw.2.1, decide_eq_true hsw.2.2.1, decide_eq_true hsw.2.2.2]
    rfl
  have ht := tot_szs hp k is hb
  rw [hsw', List.length_map, Bool.not_true, cond_false, show (((is.length : Nat) : Int) == 0) = false by simp; intro h; rw [h] at h1; simp at h1, cond_false, decide_eq_false (by omega), cond_false]
  rw [show (is.map fun i => (sizes[i]?).getD 0).any (badP t) = false by
    rw [List.any_eq_false]
    intro e he
    obtain ⟨i, hi, rfl⟩ := List.mem_map.1 he
    have hq := zip_get hp (hb i hi)
    have g1 := szs_mem hsw.2.2.1 hR is hi hq
    have g2 := hR _ (List.mem_of_getElem? hq)
    dsimp only at g1 g2
    unfold badP
    simp
    omega, cond_false, tot_fold k, List.length_map, Int.mul_sub, decide_eq_false (by omega)]
  rfl
theorem resawBest_true (x : Tsawmilllaw27_Parts) (other : List Int) : l27_ResawBest_g x other = some true := by
  unfold l27_ResawBest_g
  rw [aw27]
  cases l27_light_g x with
  | false => rfl
  | true =>
    rw [Bool.not_true, cond_false]
    by_cases h8 : 8 < ((other.length : Nat) : Int)
    · rw [decide_eq_true h8]
      rfl
    · rw [decide_eq_false h8, cond_false, most_eq1, bind_some']
      rcases mst_cases x.Thick x.Kerf x.Sizes x.Prices with ⟨e, he, hm⟩ | ⟨hsw, h0, h32, hp, hR, hm⟩
      · rw [hm]
        dsimp only
        rw [ne_t he]
        rfl
      · have hT : x.Thick + x.Kerf = (((x.Thick + x.Kerf).toNat : Nat) : Int) := by omega
        obtain ⟨n1, n2, n3⟩ := nBest_ok (k := x.Kerf) (x.Sizes.zip x.Prices) (x.Thick + x.Kerf).toNat
        have hzl : (x.Sizes.zip x.Prices).length = x.Sizes.length := by rw [List.length_zip]; omega
        obtain ⟨p1, p2, p3, p4, p5⟩ := pick_ok (k := x.Kerf) (L := x.Sizes.zip x.Prices) (nBest x.Kerf (x.Sizes.zip x.Prices) (x.Thick + x.Kerf).toNat + (x.Sizes.zip x.Prices).length + 1) (nBest x.Kerf (x.Sizes.zip x.Prices) (x.Thick + x.Kerf).toNat) (x.Thick + x.Kerf) 0 (by omega) (by rw [hT]; exact n2) (by omega)
        rw [List.drop_zero] at p1 p2 p3 p4 p5
        rw [← hT] at n2 n3
        have hlb : listBest x.Kerf (x.Sizes.zip x.Prices) (x.Thick + x.Kerf).toNat = (pick x.Kerf (nBest x.Kerf (x.Sizes.zip x.Prices) (x.Thick + x.Kerf).toNat + (x.Sizes.zip x.Prices).length + 1) (x.Sizes.zip x.Prices) (nBest x.Kerf (x.Sizes.zip x.Prices) (x.Thick + x.Kerf).toNat) (x.Thick + x.Kerf) 0).map fun i : Nat => (i : Int) := by
          unfold listBest
          rw [← hT]
        generalize hn : nBest x.Kerf (x.Sizes.zip x.Prices) (x.Thick + x.Kerf).toNat = n at *
        generalize hpk : pick x.Kerf (n + (x.Sizes.zip x.Prices).length + 1) (x.Sizes.zip x.Prices) n (x.Thick + x.Kerf) 0 = is at *
        rw [hm, hlb]
        dsimp only
        have hb : ∀ i ∈ is, i < x.Sizes.length := fun i hi => by
          have := (p2 i hi).2
          omega
        have hany : (is.map fun i : Nat => (i : Int)).any (badI x.Sizes) = false := by
          rw [List.any_eq_false]
          intro e he
          obtain ⟨i, hi, rfl⟩ := List.mem_map.1 he
          have := hb i hi
          unfold badI
          simp
          omega
        have hsum : l27_sum_g x (is.map fun i : Nat => (i : Int)) = some (is.map (fun i => (x.Sizes[i]?).getD 0), prs (x.Sizes.zip x.Prices) is, true) := by
          rw [sum_eq x hp hR (by rw [List.length_map]; omega), hany, cond_false, sumF_fold, List.map_map, List.map_map, ← prs_sum hp is hb]
          simp [Function.comp_def]
        rw [ne_f, cond_false, hsum, bind_some']
        dsimp only
        rw [Bool.not_true, cond_false, p5, show (bst x.Kerf n (x.Sizes.zip x.Prices) (x.Thick + x.Kerf) != bst x.Kerf n (x.Sizes.zip x.Prices) (x.Thick + x.Kerf)) = false by simp, cond_false, List.length_map, p1, decide_eq_false (by omega), cond_false]
        have hA : (bif decide (0 < ((n : Nat) : Int)) then Option.bind (resaw_Check_g x.Thick x.Kerf (is.map fun i => (x.Sizes[i]?).getD 0)) (fun cv => bif cv != 0 then some (Sum.inl false) else some (Sum.inr ())) else some (Sum.inr ()) : Option (Bool ⊕ Unit)) = some (.inr ()) := by
          by_cases hn0 : 0 < ((n : Nat) : Int)
          · rw [decide_eq_true hn0, cond_true, resaw_check_eq, bind_some', chk_fits hsw hp hR hb (by omega) (by omega) p4]
            rfl
          · rw [decide_eq_false hn0, cond_false]
        rw [hA, bind_some']
        show Option.bind (loopO _ 1) _ = _
        have hlp : loopO (fun q => l27_ResawBest_s1 (is.map (fun i : Nat => (i : Int)), bst x.Kerf n (x.Sizes.zip x.Prices) (x.Thick + x.Kerf), 0) q) 1 = some (.inr ()) := by
          have hstep : ∀ j : Nat, 1 ≤ j → j < is.length → l27_ResawBest_s1 (is.map (fun i : Nat => (i : Int)), bst x.Kerf n (x.Sizes.zip x.Prices) (x.Thick + x.Kerf), 0) (j : Int) = some (.inl ((j + 1 : Nat) : Int)) := by
            intro j hj1 hj
            unfold l27_ResawBest_s1
            have hpp := List.pairwise_iff_getElem.1 p3 (j - 1) j (by omega) hj (by omega)
            rw [decide_eq_true (by rw [List.length_map]; omega), cond_true, getI_at (by rw [List.length_map]; omega), bind_some', W64_eq (n := (j : Int) - 1) (by omega) (by omega), show (j : Int) - 1 = ((j - 1 : Nat) : Int) by omega, getI_at (by rw [List.length_map]; omega), bind_some', List.getElem_map, List.getElem_map, decide_eq_false (by omega), cond_false, W64_succ (by omega)]
          have hend : ∀ j : Nat, is.length ≤ j → l27_ResawBest_s1 (is.map (fun i : Nat => (i : Int)), bst x.Kerf n (x.Sizes.zip x.Prices) (x.Thick + x.Kerf), 0) (j : Int) = some (.inr (.inr ())) := by
            intro j hj
            unfold l27_ResawBest_s1
            rw [decide_eq_false (by rw [List.length_map]; omega), cond_false]
          exact loopO_upto (step := fun q : Int => l27_ResawBest_s1 (is.map (fun i : Nat => (i : Int)), bst x.Kerf n (x.Sizes.zip x.Prices) (x.Thick + x.Kerf), 0) q) (fun j => ((j + 1 : Nat) : Int)) (is.length - 1) (fun j hj => hstep (j + 1) (by omega) (by omega)) (hend _ (by omega))
        rw [hlp, bind_some']
        show Option.bind (l27_sum_g x other) _ = _
        rw [sum_eq x hp hR (by omega), bind_some']
        cases hob : other.any (badI x.Sizes) with
        | true => rfl
        | false =>
          rw [cond_false, sumF_fold]
          dsimp only
          rw [Bool.not_true, cond_false, List.nil_append, Int.zero_add]
          have hbo : ∀ i ∈ other.map Int.toNat, i < x.Sizes.length := by
            intro i hi
            obtain ⟨e, he, rfl⟩ := List.mem_map.1 hi
            rw [List.any_eq_false] at hob
            have := hob e he
            unfold badI at this
            simp at this
            omega
          have e1 : (other.map fun e => (x.Sizes[e.toNat]?).getD 0) = (other.map Int.toNat).map fun i => (x.Sizes[i]?).getD 0 := by rw [List.map_map]; rfl
          have e2 : (other.map fun e => (x.Prices[e.toNat]?).getD 0).sum = prs (x.Sizes.zip x.Prices) (other.map Int.toNat) := by
            rw [← prs_sum hp _ hbo, List.map_map]
            rfl
          rw [e1, e2, resaw_check_eq, bind_some']
          by_cases hck : chk x.Thick x.Kerf ((other.map Int.toNat).map fun i => (x.Sizes[i]?).getD 0) = 0
          · obtain ⟨_, c1, c2, _, c4, _⟩ := chk_ok hck
            rw [tot_szs hp _ _ hbo] at c4
            have hbest := bst_best hsw.2.2.1 hR (is := other.map Int.toNat) (fun i hi => by rw [hzl]; exact hbo i hi) (room := x.Thick + x.Kerf) (by omega)
            rw [List.length_map] at hbest
            have h9 := n3 other.length (by omega)
            rw [hck, ne_f, cond_false]
            by_cases hlt : prs (x.Sizes.zip x.Prices) (other.map Int.toNat) < bst x.Kerf n (x.Sizes.zip x.Prices) (x.Thick + x.Kerf)
            · rw [decide_eq_true hlt, cond_true, bind_some']
            · have heq : prs (x.Sizes.zip x.Prices) (other.map Int.toNat) = bst x.Kerf n (x.Sizes.zip x.Prices) (x.Thick + x.Kerf) := by omega
              have hnl := h9.2 (by omega)
              rw [decide_eq_false hlt, cond_false, heq, show (bst x.Kerf n (x.Sizes.zip x.Prices) (x.Thick + x.Kerf) == bst x.Kerf n (x.Sizes.zip x.Prices) (x.Thick + x.Kerf)) = true by simp, cond_true, decide_eq_true (by omega), cond_true, bind_some']
          · rw [ne_t hck, cond_true, bind_some']

end Go.Proofs.Ytcimnopodmnmmaa
