/- P1: what functions of the program compute (written by mod.py). -/
import Derived.Test.YtjdgaclkcmjjcaaA1
import Derived.KernelRfl
namespace Go.Proofs.Ytjdgaclkcmjjcaa
open Go Go.Ab
set_option linter.unusedSimpArgs false
set_option linter.unusedVariables false
set_option maxRecDepth 20000

theorem W64_eq {n : Int} (h1 : -9223372036854775808 ≤ n) (h2 : n ≤ 9223372036854775807) : W64 n = n := w64_id' h1 h2
theorem W64_succ {k : Nat} (h : k < 9223372036854775807) : W64 ((k : Int) + 1) = ((k + 1 : Nat) : Int) := by
  rw [W64_eq (by omega) (by omega)]
  rfl
theorem bind_some' {α β : Type} (a : α) (f : α → Option β) : (some a).bind f = f a := rfl
section
variable {X Y : Type} {step : X → Option (X ⊕ Y)}
/-- A loop that runs k rounds. -/
theorem loopO_upto (st : Nat → X) (k : Nat) {y : Y} (h : ∀ j, j < k → step (st j) = some (.inl (st (j + 1)))) (he : step (st k) = some (.inr y)) : loopO step (st 0) = some y := by
  have : ∀ j, j ≤ k → loopO step (st (k - j)) = some y := by
    intro j
    induction j with
    | zero => intro _; exact loopO_done he
    | succ j ih =>
      intro hj
      rw [loopO_next (h (k - (j + 1)) (by omega)), show k - (j + 1) + 1 = k - j by omega]
      exact ih (by omega)
  simpa using this k (Nat.le_refl _)
/-- A loop over a list that ends at the first element with a property. -/
theorem loopO_find {α : Type} (l : List α) (st : Nat → X) (p : α → Bool) (out : α → Y) (fin : Y)
    (h1 : ∀ j (hj : j < l.length), p l[j] = false → step (st j) = some (.inl (st (j + 1)))) (h2 : ∀ j (hj : j < l.length), p l[j] = true → step (st j) = some (.inr (out l[j]))) (h3 : step (st l.length) = some (.inr fin)) :
    loopO step (st 0) = some ((l.find? p).elim fin out) := by
  cases hf : l.find? p with
  | none =>
    rw [List.find?_eq_none] at hf
    refine loopO_upto st l.length (fun j hj => h1 j hj ?_) h3
    have := hf l[j] (List.getElem_mem hj)
    simpa using this
  | some a =>
    rw [List.find?_eq_some_iff_getElem] at hf
    obtain ⟨hp, i, hi, hia, hlt⟩ := hf
    refine loopO_upto st i (fun j hj => h1 j (by omega) ?_) ?_
    · simpa using hlt j hj
    · subst hia
      exact h2 i hi hp
/-- A loop over a list that folds it; I holds of what is folded. -/
theorem loopO_foldI {α S : Type} (l : List α) (f : S → α → S) (s0 : S) (mk : S → Nat → X) (out : S → Y) (I : Nat → S → Prop) (h0 : I 0 s0) (hI : ∀ j s (hj : j < l.length), I j s → I (j + 1) (f s l[j]))
    (h : ∀ s j (hj : j < l.length), I j s → step (mk s j) = some (.inl (mk (f s l[j]) (j + 1)))) (he : ∀ s, I l.length s → step (mk s l.length) = some (.inr (out s))) : loopO step (mk s0 0) = some (out (l.foldl f s0)) := by
  have hF : ∀ j, j ≤ l.length → I j ((l.take j).foldl f s0) := by
    intro j
    induction j with
    | zero => intro _; simpa using h0
    | succ j ih =>
      intro hj
      rw [List.take_succ_eq_append_getElem (by omega), List.foldl_append]
      exact hI j _ (by omega) (ih (by omega))
  have := loopO_upto (step := step) (fun j => mk ((l.take j).foldl f s0) j) l.length (y := out (l.foldl f s0)) (fun j hj => by
    rw [h _ j hj (hF j (by omega)), List.take_succ_eq_append_getElem hj, List.foldl_append]
    rfl) (by
    have := he _ (hF l.length (Nat.le_refl _))
    rw [List.take_length] at this ⊢
    exact this)
  simpa using this
theorem loopO_fold {α S : Type} (l : List α) (f : S → α → S) (s0 : S) (mk : S → Nat → X) (out : S → Y)
    (h : ∀ s j (hj : j < l.length), step (mk s j) = some (.inl (mk (f s l[j]) (j + 1)))) (he : ∀ s, step (mk s l.length) = some (.inr (out s))) : loopO step (mk s0 0) = some (out (l.foldl f s0)) :=
  loopO_foldI l f s0 mk out (fun _ _ => True) trivial (fun _ _ _ _ => trivial) (fun s j hj _ => h s j hj) (fun s _ => he s)
end
theorem getI_at {α : Type} {l : List α} {j : Nat} (h : j < l.length) : getI l (j : Int) = some l[j] := getI_lt h
theorem lt_nat {j n : Nat} (h : j < n) : decide ((j : Int) < (n : Int)) = true := decide_eq_true (by omega)
theorem nlt_nat (n : Nat) : decide ((n : Int) < (n : Int)) = false := decide_eq_false (by omega)
theorem loopO_findN {X Y : Type} {step : X → Option (X ⊕ Y)} (n : Nat) (st : Nat → X) (p : Nat → Bool) (out : Nat → Y) (fin : Y)
    (h1 : ∀ j, j < n → p j = false → step (st j) = some (.inl (st (j + 1)))) (h2 : ∀ j, j < n → p j = true → step (st j) = some (.inr (out j))) (h3 : step (st n) = some (.inr fin)) :
    loopO step (st 0) = some (((List.range n).find? p).elim fin out) := by
  refine loopO_find (List.range n) st p out fin (fun j hj hp => ?_) (fun j hj hp => ?_) (by simpa using h3)
  · rw [List.length_range] at hj
    exact h1 j hj (by simpa using hp)
  · rw [List.length_range] at hj
    have := h2 j hj (by simpa using hp)
    simpa using this
/-- A loop that looks for the first bad one. -/
theorem loopO_allN {X β : Type} {step : X → Option (X ⊕ (β ⊕ Unit))} (n : Nat) (st : Nat → X) (p : Nat → Bool) (b : β)
    (h : ∀ j, j < n → step (st j) = bif p j then some (.inl (st (j + 1))) else some (.inr (.inl b))) (h3 : step (st n) = some (.inr (.inr ()))) :
    loopO step (st 0) = some (bif (List.range n).all p then .inr () else .inl b) := by
  rw [loopO_findN n st (fun j => !p j) (fun _ => .inl b) (.inr ()) (fun j hj hp => ?_) (fun j hj hp => ?_) h3]
  · cases hf : (List.range n).find? (fun j => !p j) with
    | none =>
      rw [List.find?_eq_none] at hf
      have : (List.range n).all p = true := by
        rw [List.all_eq_true]
        intro x hx
        simpa using hf x hx
      rw [this]
      rfl
    | some a =>
      have h1 := List.find?_some hf
      have h2 := List.mem_of_find?_eq_some hf
      have : (List.range n).all p = false := by
        rw [List.all_eq_false]
        exact ⟨a, h2, by simpa using h1⟩
      rw [this]
      rfl
  · have hp' : p j = true := by simpa using hp
    rw [h j hj, hp']
    rfl
  · have hp' : p j = false := by simpa using hp
    rw [h j hj, hp']
    rfl

theorem aw20 : l20_awake_g = some true := l20_awake_le 300 true (by kernel_rfl)
theorem letB_eq {α β : Type} (x : α) (K : α → β) : letB x K = K x := rfl
theorem from_dec (n low high : Int) : r20_from_g n low high = (decide (low ≤ n) && decide (n ≤ high)) := by
  unfold r20_from_g
  cases decide (low ≤ n) <;> rfl
theorem lt_not (a b : Int) : decide (a < b) = !decide (b ≤ a) := by
  by_cases h : a < b
  · rw [decide_eq_true h, decide_eq_false (by omega)]
    rfl
  · rw [decide_eq_false h, decide_eq_true (by omega)]
    rfl
theorem check_same (s : TSaw) (vr : TRates) : worth_Check_g s vr = r20_Check_g s vr := by
  unfold worth_Check_g r20_Check_g worth_isStep_g worth_isFine_g
  simp only [from_dec, lt_not]
  generalize decide (0 ≤ s.Kerf) = b1
  generalize decide (s.Kerf ≤ 20) = b2
  generalize decide (0 ≤ s.Trim) = b3
  generalize decide (s.Trim ≤ 20) = b4
  generalize decide (1 ≤ s.Pitch) = b5
  generalize decide (s.Pitch ≤ 2000) = b6
  generalize decide (1 ≤ s.Step) = b7
  generalize decide (s.Step ≤ 20000) = b8
  generalize decide (0 ≤ vr.Chip) = b9
  generalize decide (vr.Chip ≤ 1000) = b10
  generalize decide (0 ≤ vr.Dust) = b11
  generalize decide (vr.Dust ≤ 1000) = b12
  generalize decide (0 ≤ vr.Fine) = b13
  generalize decide (vr.Fine ≤ 1000000) = b14
  cases b1 <;> cases b2 <;> try rfl
  cases b3 <;> cases b4 <;> try rfl
  cases b5 <;> cases b6 <;> try rfl
  cases b7 <;> cases b8 <;> try rfl
  cases b9 <;> cases b10 <;> try rfl
  cases b11 <;> cases b12 <;> try rfl
  cases b13 <;> cases b14 <;> rfl
theorem worthChecks_true (s : TSaw) (vr : TRates) : l20_WorthChecks_g s vr = some true := by
  unfold l20_WorthChecks_g
  rw [check_same, aw20]
  have : (r20_Check_g s vr == r20_Check_g s vr) = true := by simp
  rw [this]
  rfl

end Go.Proofs.Ytjdgaclkcmjjcaa
