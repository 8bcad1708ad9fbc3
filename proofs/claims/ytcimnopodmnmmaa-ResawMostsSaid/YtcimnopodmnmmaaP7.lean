/- P7: what functions of the program compute (written by mod.py). -/
import Derived.Test.YtcimnopodmnmmaaP2
import Derived.KernelRfl
namespace Go.Proofs.Ytcimnopodmnmmaa
open Go Go.Ab
set_option linter.unusedSimpArgs false
set_option linter.unusedVariables false
set_option linter.unusedSectionVars false
set_option maxRecDepth 20000
set_option maxHeartbeats 1000000

/-! the best parts of a thickness: the plain theory -/
theorem of_le_max {a b c : Int} (h : a ≤ b) : a ≤ max b c := by omega
/-- The best sum of n parts out of a list of (size, price), in a room; -1: there is none. -/
def stepB (k : Int) (prev : List (Int × Int) → Int → Int) : List (Int × Int) → Int → Int
  | [], _ => -1
  | q :: r, room => if 0 ≤ room - q.1 - k ∧ 0 ≤ prev (q :: r) (room - q.1 - k) then max (stepB k prev r room) (prev (q :: r) (room - q.1 - k) + q.2) else stepB k prev r room
def bst (k : Int) : Nat → List (Int × Int) → Int → Int
  | 0 => fun _ _ => 0
  | n + 1 => stepB k (bst k n)
theorem bst_zero (k : Int) (l : List (Int × Int)) (room : Int) : bst k 0 l room = 0 := rfl
theorem bst_nil (k : Int) (n : Nat) (room : Int) : bst k (n + 1) [] room = -1 := rfl
theorem bst_cons (k : Int) (n : Nat) (q : Int × Int) (r : List (Int × Int)) (room : Int) : bst k (n + 1) (q :: r) room = if 0 ≤ room - q.1 - k ∧ 0 ≤ bst k n (q :: r) (room - q.1 - k) then max (bst k (n + 1) r room) (bst k n (q :: r) (room - q.1 - k) + q.2) else bst k (n + 1) r room := rfl
/-- Sizes and prices in range. -/
def Rng (l : List (Int × Int)) : Prop := ∀ q ∈ l, 1 ≤ q.1 ∧ q.1 ≤ 600 ∧ 0 ≤ q.2 ∧ q.2 ≤ 1000000
theorem Rng.tail {q : Int × Int} {l : List (Int × Int)} (h : Rng (q :: l)) : Rng l := fun p hp => h p (List.mem_cons_of_mem _ hp)
theorem bst_bd (k : Int) : ∀ (n : Nat) (l : List (Int × Int)) (room : Int), Rng l → -1 ≤ bst k n l room ∧ bst k n l room ≤ 1000000 * (n : Int) := by
  intro n
  induction n with
  | zero => intro l room _; rw [bst_zero]; omega
  | succ n ihn =>
    intro l
    induction l with
    | nil => intro room _; rw [bst_nil]; omega
    | cons q r ih =>
      intro room h
      have h1 := ih room h.tail
      have h2 := ihn (q :: r) (room - q.1 - k) h
      have h3 := h q (List.mem_cons_self ..)
      rw [bst_cons]
      push_cast at *
      split <;> omega
/-- A list of numbers of parts, rising, from i on: its size with the cuts, its price. -/
def szs (k : Int) (l : List (Int × Int)) (is : List Nat) : Int := (is.map fun i => (l[i]?).elim 0 fun q => q.1 + k).sum
def prs (l : List (Int × Int)) (is : List Nat) : Int := (is.map fun i => (l[i]?).elim 0 fun q => q.2).sum
theorem szs_cons (k : Int) (l : List (Int × Int)) (i : Nat) (is : List Nat) : szs k l (i :: is) = ((l[i]?).elim 0 fun q => q.1 + k) + szs k l is := rfl
theorem prs_cons (l : List (Int × Int)) (i : Nat) (is : List Nat) : prs l (i :: is) = ((l[i]?).elim 0 fun q => q.2) + prs l is := rfl
theorem perm_sum {a b : List Int} (h : a.Perm b) : a.sum = b.sum := by
  induction h with
  | nil => rfl
  | cons x _ ih => rw [List.sum_cons, List.sum_cons, ih]
  | swap x y l => rw [List.sum_cons, List.sum_cons, List.sum_cons, List.sum_cons]; omega
  | trans _ _ h1 h2 => exact h1.trans h2
theorem szs_perm {k : Int} {l : List (Int × Int)} {a b : List Nat} (h : a.Perm b) : szs k l a = szs k l b := by
  unfold szs
  exact perm_sum (h.map _)
theorem prs_perm {l : List (Int × Int)} {a b : List Nat} (h : a.Perm b) : prs l a = prs l b := by
  unfold prs
  exact perm_sum (h.map _)
theorem szs_nonneg {k : Int} (hk : 0 ≤ k) {l : List (Int × Int)} (hR : Rng l) : ∀ is : List Nat, 0 ≤ szs k l is ∧ 0 ≤ prs l is
  | [] => by simp [szs, prs]
  | i :: is => by
    have := szs_nonneg hk hR is
    rw [szs_cons, prs_cons]
    cases h : l[i]? with
    | none => simpa using this
    | some q =>
      have := hR q (List.mem_of_getElem? h)
      simp only [Option.elim]
      omega
/-- No rising choice is better. -/
theorem bst_ge {k : Int} (hk : 0 ≤ k) {L : List (Int × Int)} (hR : Rng L) : ∀ (m : Nat) (is : List Nat) (j : Nat) (room : Int), is.length + (L.length - j) ≤ m → is.Pairwise (· ≤ ·) → (∀ i ∈ is, j ≤ i ∧ i < L.length) → szs k L is ≤ room → prs L is ≤ bst k is.length (L.drop j) room := by
  intro m
  induction m with
  | zero =>
    intro is j room hm _ _ _
    have : is = [] := List.eq_nil_of_length_eq_zero (by omega)
    subst this
    simp [prs, bst_zero]
  | succ m ih =>
    intro is j room hm hP hb hs
    cases is with
    | nil => simp [prs, bst_zero]
    | cons i is =>
      have hi := hb i (List.mem_cons_self ..)
      have hj : j < L.length := by omega
      have hd := List.drop_eq_getElem_cons hj
      rw [List.pairwise_cons] at hP
      rw [hd, List.length_cons, bst_cons, ← hd]
      by_cases hij : i = j
      · subst hij
        have hge : (L[i]?).elim 0 (fun q => q.1 + k) = L[i].1 + k := by rw [List.getElem?_eq_getElem hj]; rfl
        have hgp : (L[i]?).elim 0 (fun q => q.2) = L[i].2 := by rw [List.getElem?_eq_getElem hj]; rfl
        rw [szs_cons, hge] at hs
        rw [prs_cons, hgp]
        have h1 := ih is i (room - L[i].1 - k) (by rw [List.length_cons] at hm; omega) hP.2 (fun a ha => ⟨hP.1 a ha, (hb a (List.mem_cons_of_mem _ ha)).2⟩) (by omega)
        have h2 := szs_nonneg hk hR is
        rw [if_pos ⟨by omega, by omega⟩]
        omega
      · have h1 := ih (i :: is) (j + 1) room (by rw [List.length_cons] at hm ⊢; omega) (List.pairwise_cons.2 hP) (fun a ha => by
          refine ⟨?_, (hb a ha).2⟩
          rcases List.mem_cons.1 ha with rfl | ha'
          · omega
          · have := hP.1 a ha'
            omega) hs
        rw [List.length_cons] at h1
        split
        · exact of_le_max h1
        · exact h1
/-- No choice is better. -/
theorem bst_best {k : Int} (hk : 0 ≤ k) {L : List (Int × Int)} (hR : Rng L) {is : List Nat} (hb : ∀ i ∈ is, i < L.length) {room : Int} (hs : szs k L is ≤ room) : prs L is ≤ bst k is.length L room := by
  have hp : (is.mergeSort (fun a b => decide (a ≤ b))).Perm is := List.mergeSort_perm ..
  have h := bst_ge hk hR ((is.mergeSort (fun a b => decide (a ≤ b))).length + L.length) (is.mergeSort (fun a b => decide (a ≤ b))) 0 room (by omega) (by
    have := List.pairwise_mergeSort (le := fun a b : Nat => decide (a ≤ b)) (by intro a b c; simp; omega) (by intro a b; simp; omega) is
    simpa using this) (fun i hi => ⟨by omega, hb i (hp.mem_iff.1 hi)⟩) (by rw [szs_perm hp]; exact hs)
  rw [prs_perm hp, hp.length_eq, List.drop_zero] at h
  exact h
/-- How the choice is read back: take the first part when it gives the best sum. -/
def pick (k : Int) : Nat → List (Int × Int) → Nat → Int → Nat → List Nat
  | 0, _, _, _, _ => []
  | _ + 1, [], _, _, _ => []
  | _ + 1, _ :: _, 0, _, _ => []
  | f + 1, q :: r, n + 1, room, i => if 0 ≤ room - q.1 - k ∧ 0 ≤ bst k n (q :: r) (room - q.1 - k) ∧ bst k n (q :: r) (room - q.1 - k) + q.2 = bst k (n + 1) (q :: r) room then i :: pick k f (q :: r) n (room - q.1 - k) i else pick k f r (n + 1) room (i + 1)
/-- What is read back has the best sum, fits and rises. -/
theorem pick_ok {k : Int} {L : List (Int × Int)} : ∀ (f n : Nat) (room : Int) (i : Nat), n + (L.length - i) < f → 0 ≤ bst k n (L.drop i) room → 0 ≤ room → (pick k f (L.drop i) n room i).length = n ∧ (∀ a ∈ pick k f (L.drop i) n room i, i ≤ a ∧ a < L.length) ∧ (pick k f (L.drop i) n room i).Pairwise (· ≤ ·) ∧ szs k L (pick k f (L.drop i) n room i) ≤ room ∧ prs L (pick k f (L.drop i) n room i) = bst k n (L.drop i) room := by
  intro f
  induction f with
  | zero => intro n room i h; omega
  | succ f ih =>
    intro n room i hf hb hr
    cases n with
    | zero =>
      have : pick k (f + 1) (L.drop i) 0 room i = [] := by
        cases L.drop i <;> rfl
      rw [this, bst_zero]
      simp [szs, prs, hr]
    | succ n =>
      rcases Nat.lt_or_ge i L.length with hi | hi
      · have hd := List.drop_eq_getElem_cons hi
        have hge : (L[i]?).elim 0 (fun q => q.1 + k) = L[i].1 + k := by rw [List.getElem?_eq_getElem hi]; rfl
        have hgp : (L[i]?).elim 0 (fun q => q.2) = L[i].2 := by rw [List.getElem?_eq_getElem hi]; rfl
        have hc := bst_cons k n L[i] (L.drop (i + 1)) room
        rw [← hd] at hc
        have hpk : pick k (f + 1) (L.drop i) (n + 1) room i = if 0 ≤ room - L[i].1 - k ∧ 0 ≤ bst k n (L.drop i) (room - L[i].1 - k) ∧ bst k n (L.drop i) (room - L[i].1 - k) + L[i].2 = bst k (n + 1) (L.drop i) room then i :: pick k f (L.drop i) n (room - L[i].1 - k) i else pick k f (L.drop (i + 1)) (n + 1) room (i + 1) := by
          rw [hd]
          rfl
        rw [hpk]
        by_cases h : 0 ≤ room - L[i].1 - k ∧ 0 ≤ bst k n (L.drop i) (room - L[i].1 - k) ∧ bst k n (L.drop i) (room - L[i].1 - k) + L[i].2 = bst k (n + 1) (L.drop i) room
        · rw [if_pos h]
          obtain ⟨h1, h2, h3⟩ := h
          obtain ⟨i1, i2, i3, i4, i5⟩ := ih n (room - L[i].1 - k) i (by omega) h2 h1
          refine ⟨by rw [List.length_cons, i1], ?_, ?_, ?_, ?_⟩
          · intro a ha
            rcases List.mem_cons.1 ha with rfl | ha
            · exact ⟨Nat.le_refl _, hi⟩
            · exact i2 a ha
          · rw [List.pairwise_cons]
            exact ⟨fun a ha => (i2 a ha).1, i3⟩
          · rw [szs_cons, hge]
            omega
          · rw [prs_cons, hgp, i5]
            omega
        · rw [if_neg h]
          have he : bst k (n + 1) (L.drop i) room = bst k (n + 1) (L.drop (i + 1)) room := by
            rw [hc]
            by_cases hh : 0 ≤ room - L[i].1 - k ∧ 0 ≤ bst k n (L.drop i) (room - L[i].1 - k)
            · rw [if_pos hh] at hc ⊢
              have : ¬ bst k n (L.drop i) (room - L[i].1 - k) + L[i].2 = bst k (n + 1) (L.drop i) room := fun h' => h ⟨hh.1, hh.2, h'⟩
              omega
            · rw [if_neg hh]
          obtain ⟨i1, i2, i3, i4, i5⟩ := ih (n + 1) room (i + 1) (by omega) (by rw [← he]; exact hb) hr
          refine ⟨i1, fun a ha => ?_, i3, i4, by rw [i5, he]⟩
          have := i2 a ha
          omega
      · rw [List.drop_eq_nil_of_le hi, bst_nil] at hb
        omega

end Go.Proofs.Ytcimnopodmnmmaa
