/- B3: what functions of the program compute (written by mod.py). -/
import Derived.Test.YtpoehckffpbfiaaGreatXAB2
import Derived.KernelRfl
namespace Go.Proofs.YtpoehckffpbfiaaGreat
open Go Go.Ab
set_option linter.unusedSimpArgs false
set_option linter.unusedVariables false
set_option linter.unusedSectionVars false
set_option maxRecDepth 20000
set_option maxHeartbeats 1000000
theorem W64_eq {n : Int} (h1 : -9223372036854775808 ≤ n) (h2 : n ≤ 9223372036854775807) : W64 n = n := w64_id' h1 h2
theorem W64_succ {k : Nat} (h : k < 9223372036854775807) : W64 ((k : Int) + 1) = ((k + 1 : Nat) : Int) := by
 rw [W64_eq (by omega) (by omega)]
 rfl
theorem bind_some' {α β : Type} (a : α) (f : α → Option β) : (some a).bind f = f a := rfl
section
variable {X Y : Type} {step : X → Option (X ⊕ Y)}
theorem loopO_upto (st : Nat → X) (k : Nat) {y : Y} (h : ∀ j, j < k → step (st j) = some (.inl (st (j + 1)))) (he : step (st k) = some (.inr y)) : loopO step (st 0) = some y := by
 have : ∀ j, j ≤ k → loopO step (st (k - j)) = some y := by
  intro j
  induction j with
  | zero => intro _; exact loopO_done he
  | succ j ih =>
   intro hj
   rw [loopO_next (h (k - (j + 1)) (by omega)), show k - (j + 1) + 1 = k - j by omega]
   exact ih (by omega)
 simpa using this k (Nat.le_refl _)
theorem loopO_find {α : Type} (l : List α) (st : Nat → X) (p : α → Bool) (out : α → Y) (fin : Y)
  (h1 : ∀ j (hj : j < l.length), p l[j] = false → step (st j) = some (.inl (st (j + 1)))) (h2 : ∀ j (hj : j < l.length), p l[j] = true → step (st j) = some (.inr (out l[j]))) (h3 : step (st l.length) = some (.inr fin)) :
  loopO step (st 0) = some ((l.find? p).elim fin out) := by
 cases hf : l.find? p with
 | none =>
  rw [List.find?_eq_none] at hf
  refine loopO_upto st l.length (fun j hj => h1 j hj ?_) h3
  have := hf l[j] (List.getElem_mem hj)
  simpa using this
 | some a =>
  rw [List.find?_eq_some_iff_getElem] at hf
  obtain ⟨hp, i, hi, hia, hlt⟩ := hf
  refine loopO_upto st i (fun j hj => h1 j (by omega) ?_) ?_
  ·simpa using hlt j hj
  ·subst hia
   exact h2 i hi hp
theorem loopO_foldI {α S : Type} (l : List α) (f : S → α → S) (s0 : S) (mk : S → Nat → X) (out : S → Y) (I : Nat → S → Prop) (h0 : I 0 s0) (hI : ∀ j s (hj : j < l.length), I j s → I (j + 1) (f s l[j]))
  (h : ∀ s j (hj : j < l.length), I j s → step (mk s j) = some (.inl (mk (f s l[j]) (j + 1)))) (he : ∀ s, I l.length s → step (mk s l.length) = some (.inr (out s))) : loopO step (mk s0 0) = some (out (l.foldl f s0)) := by
 have hF : ∀ j, j ≤ l.length → I j ((l.take j).foldl f s0) := by
  intro j
  induction j with
  | zero => intro _; simpa using h0
  | succ j ih =>
   intro hj
   rw [List.take_succ_eq_append_getElem (by omega), List.foldl_append]
   exact hI j _ (by omega) (ih (by omega))
 have := loopO_upto (step := step) (fun j => mk ((l.take j).foldl f s0) j) l.length (y := out (l.foldl f s0)) (fun j hj => by
  rw [h _ j hj (hF j (by omega)), List.take_succ_eq_append_getElem hj, List.foldl_append]
  rfl) (by
  have := he _ (hF l.length (Nat.le_refl _))
  rw [List.take_length] at this ⊢
  exact this)
 simpa using this
theorem loopO_fold {α S : Type} (l : List α) (f : S → α → S) (s0 : S) (mk : S → Nat → X) (out : S → Y)
  (h : ∀ s j (hj : j < l.length), step (mk s j) = some (.inl (mk (f s l[j]) (j + 1)))) (he : ∀ s, step (mk s l.length) = some (.inr (out s))) : loopO step (mk s0 0) = some (out (l.foldl f s0)) :=
 loopO_foldI l f s0 mk out (fun _ _ => True) trivial (fun _ _ _ _ => trivial) (fun s j hj _ => h s j hj) (fun s _ => he s)
end
theorem getI_at {α : Type} {l : List α} {j : Nat} (h : j < l.length) : getI l (j : Int) = some l[j] := getI_lt h
theorem lt_nat {j n : Nat} (h : j < n) : decide ((j : Int) < (n : Int)) = true := decide_eq_true (by omega)
theorem nlt_nat (n : Nat) : decide ((n : Int) < (n : Int)) = false := decide_eq_false (by omega)
theorem loopO_findN {X Y : Type} {step : X → Option (X ⊕ Y)} (n : Nat) (st : Nat → X) (p : Nat → Bool) (out : Nat → Y) (fin : Y)
  (h1 : ∀ j, j < n → p j = false → step (st j) = some (.inl (st (j + 1)))) (h2 : ∀ j, j < n → p j = true → step (st j) = some (.inr (out j))) (h3 : step (st n) = some (.inr fin)) :
  loopO step (st 0) = some (((List.range n).find? p).elim fin out) := by
 refine loopO_find (List.range n) st p out fin (fun j hj hp => ?_) (fun j hj hp => ?_) (by simpa using h3)
 ·rw [List.length_range] at hj
  exact h1 j hj (by simpa using hp)
 ·rw [List.length_range] at hj
  have := h2 j hj (by simpa using hp)
  simpa using this
theorem loopO_allN {X β : Type} {step : X → Option (X ⊕ (β ⊕ Unit))} (n : Nat) (st : Nat → X) (p : Nat → Bool) (b : β)
  (h : ∀ j, j < n → step (st j) = bif p j then some (.inl (st (j + 1))) else some (.inr (.inl b))) (h3 : step (st n) = some (.inr (.inr ()))) :
  loopO step (st 0) = some (bif (List.range n).all p then .inr () else .inl b) := by
 rw [loopO_findN n st (fun j => !p j) (fun _ => .inl b) (.inr ()) (fun j hj hp => ?_) (fun j hj hp => ?_) h3]
 ·cases hf : (List.range n).find? (fun j => !p j) with
  | none =>
   rw [List.find?_eq_none] at hf
   have : (List.range n).all p = true := by
    rw [List.all_eq_true]
    intro x hx
    simpa using hf x hx
   rw [this]
   rfl
  | some a =>
   have h1 := List.find?_some hf
   have h2 := List.mem_of_find?_eq_some hf
   have : (List.range n).all p = false := by
    rw [List.all_eq_false]
    exact ⟨a, h2, by simpa using h1⟩
   rw [this]
   rfl
 ·have hp' : p j = true := by simpa using hp
  rw [h j hj, hp']
  rfl
 ·have hp' : p j = false := by simpa using hp
  rw [h j hj, hp']
  rfl
theorem letB_eq {α β : Type} (x : α) (K : α → β) : letB x K = K x := rfl
theorem lt_not (a b : Int) : decide (a < b) = !decide (b ≤ a) := by
 by_cases h : a < b
 ·rw [decide_eq_true h, decide_eq_false (by omega)]
  rfl
 ·rw [decide_eq_false h, decide_eq_true (by omega)]
  rfl
theorem bnot_le (a b : Int) : decide (a ≤ b) = !decide (b < a) := by
 by_cases h : a ≤ b
 ·rw [decide_eq_true h, decide_eq_false (by omega)]
  rfl
 ·rw [decide_eq_false h, decide_eq_true (by omega)]
  rfl
theorem ne_t {n : Int} (h : n ≠ 0) : (n != 0) = true := by simp [h]
theorem loopO_foldX {X Y α S : Type} {step : X → Option (X ⊕ Y)} (l : List α) (bad : α → Bool) (f : S → α → S) (s0 : S) (mk : S → Nat → X) (E : Y) (out : S → Y) (I : Nat → S → Prop) (h0 : I 0 s0) (hI : ∀ j s (hj : j < l.length), bad l[j] = false → I j s → I (j + 1) (f s l[j]))
  (h : ∀ s j (hj : j < l.length), I j s → bad l[j] = false → step (mk s j) = some (.inl (mk (f s l[j]) (j + 1)))) (hb : ∀ s j (hj : j < l.length), I j s → bad l[j] = true → step (mk s j) = some (.inr E)) (he : ∀ s, I l.length s → step (mk s l.length) = some (.inr (out s))) :
  loopO step (mk s0 0) = some (bif l.any bad then E else out (l.foldl f s0)) := by
 have : ∀ (r : List α) (j : Nat) (s : S), l.drop j = r → j ≤ l.length → I j s → loopO step (mk s j) = some (bif r.any bad then E else out (r.foldl f s)) := by
  intro r
  induction r with
  | nil =>
   intro j s hr hj hs
   have : l.length ≤ j := List.drop_eq_nil_iff.1 hr
   have : j = l.length := by omega
   subst this
   exact loopO_done (he s hs)
  | cons a r ih =>
   intro j s hr hj hs
   have hlt : j < l.length := by
    rcases Nat.lt_or_ge j l.length with h | h
    ·exact h
    ·rw [List.drop_eq_nil_of_le h] at hr
     exact absurd hr (by simp)
   have hcl := List.drop_eq_getElem_cons hlt
   rw [hr] at hcl
   obtain ⟨ha, hr'⟩ := List.cons.inj hcl
   rw [List.any_cons, List.foldl_cons, ha]
   cases hbad : bad l[j] with
   | true => exact loopO_done (hb s j hlt hs hbad)
   | false =>
    rw [loopO_next (h s j hlt hs hbad)]
    exact ih (j + 1) (f s l[j]) hr'.symm (by omega) (hI j s hlt hbad hs)
 exact this l 0 s0 (List.drop_zero ..) (by omega) h0
def crossOk (s : Sp) : Prop := -600 ≤ s.a ∧ s.b ≤ 600 ∧ s.a < s.b
instance (s : Sp) : Decidable (crossOk s) := by unfold crossOk; exact inferInstance
def alongOk (s : Sp) : Prop := 0 ≤ s.a ∧ s.b ≤ 20000 ∧ s.a < s.b
instance (s : Sp) : Decidable (alongOk s) := by unfold alongOk; exact inferInstance
def boxOk (b : Bx) : Prop := crossOk b.x ∧ crossOk b.y ∧ alongOk b.z
instance (b : Bx) : Decidable (boxOk b) := by unfold boxOk; exact inferInstance
theorem isAlong_eq (s : Sp) : board_isAlong_g s = decide (alongOk s) := by
 unfold board_isAlong_g alongOk
 by_cases h1 : 0 ≤ s.a <;> by_cases h2 : s.b ≤ 20000 <;> by_cases h3 : s.a < s.b <;> simp [h1, h2, h3]
theorem isBox_eq (b : Bx) : board_isBox_g b = some (decide (boxOk b)) := by
 unfold board_isBox_g
 have := loopO_foldX (step := fun q : Int => board_isBox_s1 b q) [b.x, b.y] (fun e => !decide (crossOk e)) (fun (u : Unit) _ => u) () (fun _ j => (j : Int)) (.inl false) (fun _ => .inr ()) (fun _ _ => True) trivial (fun _ _ _ _ _ => trivial) (fun s j hj _ hb => by
  unfold board_isBox_s1
  have hj2 : j < 2 := hj
  rw [decide_eq_true (p := (j : Int) < 2) (by omega), cond_true, getI_at hj, bind_some']
  have hc : crossOk ([b.x, b.y][j]) := by simpa using hb
  unfold crossOk at hc
  rw [decide_eq_false (by omega), decide_eq_false (by omega), decide_eq_false (by omega), W64_succ (by omega)]
  rfl) (fun s j hj _ hb => by
  unfold board_isBox_s1
  have hj2 : j < 2 := hj
  rw [decide_eq_true (p := (j : Int) < 2) (by omega), cond_true, getI_at hj, bind_some']
  have hc : ¬ crossOk ([b.x, b.y][j]) := by simpa using hb
  unfold crossOk at hc
  by_cases h1 : ([b.x, b.y][j]).a < -600
  ·rw [decide_eq_true h1]; rfl
  ·rw [decide_eq_false h1]
   by_cases h2 : 600 < ([b.x, b.y][j]).b
   ·rw [decide_eq_true h2]; rfl
   ·rw [decide_eq_false h2, decide_eq_true (by omega)]; rfl) (fun _ _ => by
  unfold board_isBox_s1
  rfl)
 rw [show ((0 : Nat) : Int) = 0 from rfl] at this
 rw [this, bind_some', isAlong_eq]
 unfold boxOk
 by_cases h1 : crossOk b.x <;> by_cases h2 : crossOk b.y <;> by_cases h3 : alongOk b.z <;> simp [h1, h2, h3]
theorem placed_eq (b : Bx) : r30_Placed_g b = decide (boxOk b) := by
 unfold r30_Placed_g r13_Empty_g r30_within_g
 rw [Bool.eq_iff_iff, decide_eq_true_eq]
 unfold boxOk crossOk alongOk
 constructor
 ·intro h
  have h0 : ¬ b.x.b ≤ b.x.a := fun q => by rw [decide_eq_true q] at h; exact absurd h (by simp)
  rw [decide_eq_false h0] at h
  have h1 : ¬ b.y.b ≤ b.y.a := fun q => by rw [decide_eq_true q] at h; exact absurd h (by simp)
  rw [decide_eq_false h1] at h
  have h2 : ¬ b.z.b ≤ b.z.a := fun q => by rw [decide_eq_true q] at h; exact absurd h (by simp)
  rw [decide_eq_false h2] at h
  simp only [cond_false, Bool.not_false, cond_true, Bool.cond_eq_true_distrib, decide_eq_true_eq] at h
  by_cases k1 : -600 ≤ b.x.a <;> by_cases k2 : b.x.b ≤ 600 <;> by_cases k3 : -600 ≤ b.y.a <;> by_cases k4 : b.y.b ≤ 600 <;> by_cases k5 : 0 ≤ b.z.a <;> by_cases k6 : b.z.b ≤ 20000 <;> simp [k1, k2, k3, k4, k5, k6] at h ⊢ <;> omega
 ·rintro ⟨⟨a1, a2, a3⟩, ⟨b1, b2, b3⟩, c1, c2, c3⟩
  rw [decide_eq_false (p := b.x.b ≤ b.x.a) (by omega), decide_eq_false (p := b.y.b ≤ b.y.a) (by omega), decide_eq_false (p := b.z.b ≤ b.z.a) (by omega), decide_eq_true a1, decide_eq_true (p := b.x.a ≤ 600) (by omega), decide_eq_true (p := -600 ≤ b.x.b) (by omega), decide_eq_true a2, decide_eq_true b1, decide_eq_true (p := b.y.a ≤ 600) (by omega), decide_eq_true (p := -600 ≤ b.y.b) (by omega), decide_eq_true b2, decide_eq_true c1, decide_eq_true (p := b.z.a ≤ 20000) (by omega), decide_eq_true (p := 0 ≤ b.z.b) (by omega), decide_eq_true c2]
  rfl
theorem bvol_eq (b : TBoard) : board_Volume_g b = some (r30_Volume_g b) := by
 unfold board_Volume_g r30_Volume_g
 rw [isBox_eq, placed_eq, bind_some']
 cases decide (boxOk b.Box) <;> rfl
end Go.Proofs.YtpoehckffpbfiaaGreat
