/- B3: what functions of the program compute (written by mod.py). -/
import Derived.Test.YtpoehckffpbfiaaGreatXNB2
import Derived.KernelRfl
namespace Go.Proofs.YtpoehckffpbfiaaGreat
open Go Go.Ab
set_option linter.unusedSimpArgs false
set_option linter.unusedVariables false
set_option linter.unusedSectionVars false
set_option maxRecDepth 20000
set_option maxHeartbeats 1000000
theorem W64_eq {n : Int} (h1 : -9223372036854775808 ≤ n) (h2 : n ≤ 9223372036854775807) : W64 n = n := w64_id' h1 h2
theorem W64_succ {k : Nat} (h : k < 9223372036854775807) : W64 ((k : Int) + 1) = ((k + 1 : Nat) : Int) := by
 rw [W64_eq (by omega) (by omega)]
 rfl
theorem bind_some' {α β : Type} (a : α) (f : α → Option β) : (some a).bind f = f a := rfl
section
variable {X Y : Type} {step : X → Option (X ⊕ Y)}
theorem loopO_upto (st : Nat → X) (k : Nat) {y : Y} (h : ∀ j, j < k → step (st j) = some (.inl (st (j + 1)))) (he : step (st k) = some (.inr y)) : loopO step (st 0) = some y := by
 have : ∀ j, j ≤ k → loopO step (st (k - j)) = some y := by
  intro j
  induction j with
  | zero => intro _; exact loopO_done he
  | succ j ih =>
   intro hj
   rw [loopO_next (h (k - (j + 1)) (by omega)), show k - (j + 1) + 1 = k - j by omega]
   exact ih (by omega)
 simpa using this k (Nat.le_refl _)
theorem loopO_find {α : Type} (l : List α) (st : Nat → X) (p : α → Bool) (out : α → Y) (fin : Y)
  (h1 : ∀ j (hj : j < l.length), p l[j] = false → step (st j) = some (.inl (st (j + 1)))) (h2 : ∀ j (hj : j < l.length), p l[j] = true → step (st j) = some (.inr (out l[j]))) (h3 : step (st l.length) = some (.inr fin)) :
  loopO step (st 0) = some ((l.find? p).elim fin out) := by
 cases hf : l.find? p with
 | none =>
  rw [List.find?_eq_none] at hf
  refine loopO_upto st l.length (fun j hj => h1 j hj ?_) h3
  have := hf l[j] (List.getElem_mem hj)
  simpa using this
 | some a =>
  rw [List.find?_eq_some_iff_getElem] at hf
  obtain ⟨hp, i, hi, hia, hlt⟩ := hf
  refine loopO_upto st i (fun j hj => h1 j (by omega) ?_) ?_
  ·simpa using hlt j hj
  ·subst hia
   exact h2 i hi hp
theorem loopO_foldI {α S : Type} (l : List α) (f : S → α → S) (s0 : S) (mk : S → Nat → X) (out : S → Y) (I : Nat → S → Prop) (h0 : I 0 s0) (hI : ∀ j s (hj : j < l.length), I j s → I (j + 1) (f s l[j]))
  (h : ∀ s j (hj : j < l.length), I j s → step (mk s j) = some (.inl (mk (f s l[j]) (j + 1)))) (he : ∀ s, I l.length s → step (mk s l.length) = some (.inr (out s))) : loopO step (mk s0 0) = some (out (l.foldl f s0)) := by
 have hF : ∀ j, j ≤ l.length → I j ((l.take j).foldl f s0) := by
  intro j
  induction j with
  | zero => intro _; simpa using h0
  | succ j ih =>
   intro hj
   rw [List.take_succ_eq_append_getElem (by omega), List.foldl_append]
   exact hI j _ (by omega) (ih (by omega))
 have := loopO_upto (step := step) (fun j => mk ((l.take j).foldl f s0) j) l.length (y := out (l.foldl f s0)) (fun j hj => by
  rw [h _ j hj (hF j (by omega)), List.take_succ_eq_append_getElem hj, List.foldl_append]
  rfl) (by
  have := he _ (hF l.length (Nat.le_refl _))
  rw [List.take_length] at this ⊢
  exact this)
 simpa using this
theorem loopO_fold {α S : Type} (l : List α) (f : S → α → S) (s0 : S) (mk : S → Nat → X) (out : S → Y)
  (h : ∀ s j (hj : j < l.length), step (mk s j) = some (.inl (mk (f s l[j]) (j + 1)))) (he : ∀ s, step (mk s l.length) = some (.inr (out s))) : loopO step (mk s0 0) = some (out (l.foldl f s0)) :=
 loopO_foldI l f s0 mk out (fun _ _ => True) trivial (fun _ _ _ _ => trivial) (fun s j hj _ => h s j hj) (fun s _ => he s)
end
theorem getI_at {α : Type} {l : List α} {j : Nat} (h : j < l.length) : getI l (j : Int) = some l[j] := getI_lt h
theorem lt_nat {j n : Nat} (h : j < n) : decide ((j : Int) < (n : Int)) = true := decide_eq_true (by omega)
theorem nlt_nat (n : Nat) : decide ((n : Int) < (n : Int)) = false := decide_eq_false (by omega)
theorem loopO_findN {X Y : Type} {step : X → Option (X ⊕ Y)} (n : Nat) (st : Nat → X) (p : Nat → Bool) (out : Nat → Y) (fin : Y)
  (h1 : ∀ j, j < n → p j = false → step (st j) = some (.inl (st (j + 1)))) (h2 : ∀ j, j < n → p j = true → step (st j) = some (.inr (out j))) (h3 : step (st n) = some (.inr fin)) :
  loopO step (st 0) = some (((List.range n).find? p).elim fin out) := by
 refine loopO_find (List.range n) st p out fin (fun j hj hp => ?_) (fun j hj hp => ?_) (by simpa using h3)
 ·rw [List.length_range] at hj
  exact h1 j hj (by simpa using hp)
 ·rw [List.length_range] at hj
  have := h2 j hj (by simpa using hp)
  simpa using this
theorem loopO_allN {X β : Type} {step : X → Option (X ⊕ (β ⊕ Unit))} (n : Nat) (st : Nat → X) (p : Nat → Bool) (b : β)
  (h : ∀ j, j < n → step (st j) = bif p j then some (.inl (st (j + 1))) else some (.inr (.inl b))) (h3 : step (st n) = some (.inr (.inr ()))) :
  loopO step (st 0) = some (bif (List.range n).all p then .inr () else .inl b) := by
 rw [loopO_findN n st (fun j => !p j) (fun _ => .inl b) (.inr ()) (fun j hj hp => ?_) (fun j hj hp => ?_) h3]
 ·cases hf : (List.range n).find? (fun j => !p j) with
  | none =>
   rw [List.find?_eq_none] at hf
   have : (List.range n).all p = true := by
    rw [List.all_eq_true]
    intro x hx
    simpa using hf x hx
   rw [this]
   rfl
  | some a =>
   have h1 := List.find?_some hf
   have h2 := List.mem_of_find?_eq_some hf
   have : (List.range n).all p = false := by
    rw [List.all_eq_false]
    exact ⟨a, h2, by simpa using h1⟩
   rw [this]
   rfl
 ·have hp' : p j = true := by simpa using hp
  rw [h j hj, hp']
  rfl
 ·have hp' : p j = false := by simpa using hp
  rw [h j hj, hp']
  rfl
theorem letB_eq {α β : Type} (x : α) (K : α → β) : letB x K = K x := rfl
theorem lt_not (a b : Int) : decide (a < b) = !decide (b ≤ a) := by
 by_cases h : a < b
 ·rw [decide_eq_true h, decide_eq_false (by omega)]
  rfl
 ·rw [decide_eq_false h, decide_eq_true (by omega)]
  rfl
theorem bnot_le (a b : Int) : decide (a ≤ b) = !decide (b < a) := by
 by_cases h : a ≤ b
 ·rw [decide_eq_true h, decide_eq_false (by omega)]
  rfl
 ·rw [decide_eq_false h, decide_eq_true (by omega)]
  rfl
theorem ne_t {n : Int} (h : n ≠ 0) : (n != 0) = true := by simp [h]
theorem loopO_foldX {X Y α S : Type} {step : X → Option (X ⊕ Y)} (l : List α) (bad : α → Bool) (f : S → α → S) (s0 : S) (mk : S → Nat → X) (E : Y) (out : S → Y) (I : Nat → S → Prop) (h0 : I 0 s0) (hI : ∀ j s (hj : j < l.length), bad l[j] = false → I j s → I (j + 1) (f s l[j]))
  (h : ∀ s j (hj : j < l.length), I j s → bad l[j] = false → step (mk s j) = some (.inl (mk (f s l[j]) (j + 1)))) (hb : ∀ s j (hj : j < l.length), I j s → bad l[j] = true → step (mk s j) = some (.inr E)) (he : ∀ s, I l.length s → step (mk s l.length) = some (.inr (out s))) :
  loopO step (mk s0 0) = some (bif l.any bad then E else out (l.foldl f s0)) := by
 have : ∀ (r : List α) (j : Nat) (s : S), l.drop j = r → j ≤ l.length → I j s → loopO step (mk s j) = some (bif r.any bad then E else out (r.foldl f s)) := by
  intro r
  induction r with
  | nil =>
   intro j s hr hj hs
   have : l.length ≤ j := List.drop_eq_nil_iff.1 hr
   have : j = l.length := by omega
   subst this
   exact loopO_done (he s hs)
  | cons a r ih =>
   intro j s hr hj hs
   have hlt : j < l.length := by
    rcases Nat.lt_or_ge j l.length with h | h
    ·exact h
    ·rw [List.drop_eq_nil_of_le h] at hr
     exact absurd hr (by simp)
   have hcl := List.drop_eq_getElem_cons hlt
   rw [hr] at hcl
   obtain ⟨ha, hr'⟩ := List.cons.inj hcl
   rw [List.any_cons, List.foldl_cons, ha]
   cases hbad : bad l[j] with
   | true => exact loopO_done (hb s j hlt hs hbad)
   | false =>
    rw [loopO_next (h s j hlt hs hbad)]
    exact ih (j + 1) (f s l[j]) hr'.symm (by omega) (hI j s hlt hbad hs)
 exact this l 0 s0 (List.drop_zero ..) (by omega) h0
theorem eqDf_iff (x y : Df) : eqA (encDf x).cells (encDf y).cells = decide (x = y) := by
 obtain ⟨k, ⟨⟨a, b⟩, ⟨c, d⟩, ⟨e, f⟩⟩⟩ := x
 obtain ⟨k', ⟨⟨a', b'⟩, ⟨c', d'⟩, ⟨e', f'⟩⟩⟩ := y
 show (k == k' && (a == a' && (b == b' && (c == c' && (d == d' && (e == e' && (f == f' && true))))))) = _
 rw [Bool.eq_iff_iff]
 simp [and_assoc]
theorem eqV_df (x y : Df) : eqV encDf x y = decide (x = y) := eqDf_iff x y
theorem eqV_bx (x y : Bx) : eqV encBx x y = decide (x = y) := by
 obtain ⟨⟨a, b⟩, ⟨c, d⟩, ⟨e, f⟩⟩ := x
 obtain ⟨⟨a', b'⟩, ⟨c', d'⟩, ⟨e', f'⟩⟩ := y
 show (a == a' && (b == b' && (c == c' && (d == d' && (e == e' && (f == f' && true)))))) = _
 rw [Bool.eq_iff_iff]
 simp [and_assoc]
theorem eqV_cell (x y : TCell) : eqV encTCell x y = decide (x = y) := by
 obtain ⟨a, b, c⟩ := x
 obtain ⟨a', b', c'⟩ := y
 show (a == a' && (b == b' && (c == c' && true))) = _
 rw [Bool.eq_iff_iff]
 simp
theorem ext_eq {a b : List Df} (hn : a.length = b.length) : ((List.range a.length).all fun j => decide (a[j]? = b[j]?)) = decide (a = b) := by
 rw [Bool.eq_iff_iff, List.all_eq_true, decide_eq_true_eq]
 constructor
 ·intro h
  apply List.ext_getElem?
  intro i
  by_cases hi : i < a.length
  ·simpa using h i (List.mem_range.2 hi)
  ·rw [List.getElem?_eq_none (by omega), List.getElem?_eq_none (by omega)]
 ·rintro rfl i _
  simp
theorem eqDfs_eq {a b : List Df} (hl : a.length ≤ 9223372036854775807) : api_Defect__g a b = some (decide (a = b)) := by
 unfold api_Defect__g
 by_cases hn : a.length = b.length
 ·rw [show (((a.length : Nat) : Int) != ((b.length : Nat) : Int)) = false by simp [hn], cond_false]
  rw [show (0 : Int) = ((0 : Nat) : Int) from rfl, loopO_allN a.length (fun j => ((j : Nat) : Int)) (fun j => decide (a[j]? = b[j]?)) false (by
   intro j hj
   have hj2 : j < b.length := by omega
   unfold api_Defect__s1
   rw [lt_nat hj, getI_at hj, getI_at hj2, cond_true, bind_some', bind_some', eqV_df, W64_succ (by omega)]
   simp only [List.getElem?_eq_getElem hj, List.getElem?_eq_getElem hj2, Option.some.injEq]
   cases decide (a[j] = b[j]) <;> rfl) (by
   unfold api_Defect__s1
   rw [nlt_nat]
   rfl)]
  rw [ext_eq hn]
  cases decide (a = b) <;> rfl
 ·rw [show (((a.length : Nat) : Int) != ((b.length : Nat) : Int)) = true by simp; omega, cond_true, decide_eq_false (fun h => hn (by rw [h]))]
theorem r13_same_eq {a b : List Df} (hl : a.length ≤ 9223372036854775807) : r13_Same_g a b = some (decide (a = b)) := by
 unfold r13_Same_g
 by_cases hn : a.length = b.length
 ·rw [show (((a.length : Nat) : Int) != ((b.length : Nat) : Int)) = false by simp [hn], cond_false]
  rw [show (0 : Int) = ((0 : Nat) : Int) from rfl, loopO_allN a.length (fun j => ((j : Nat) : Int)) (fun j => decide (a[j]? = b[j]?)) false (by
   intro j hj
   have hj2 : j < b.length := by omega
   unfold r13_Same_s1
   rw [lt_nat hj, getI_at hj, getI_at hj2, cond_true, bind_some', bind_some', eqV_df, W64_succ (by omega)]
   simp only [List.getElem?_eq_getElem hj, List.getElem?_eq_getElem hj2, Option.some.injEq]
   cases decide (a[j] = b[j]) <;> rfl) (by
   unfold r13_Same_s1
   rw [nlt_nat]
   rfl)]
  rw [ext_eq hn]
  cases decide (a = b) <;> rfl
 ·rw [show (((a.length : Nat) : Int) != ((b.length : Nat) : Int)) = true by simp; omega, cond_true, decide_eq_false (fun h => hn (by rw [h]))]
theorem bEq_dec (a b : ByteArray) : bEq a b = decide (a = b) := by
 rw [Bool.eq_iff_iff, bEq_iff, decide_eq_true_eq]
theorem bsame_eq {a b : TBoard} (hl : a.Defects.length ≤ 9223372036854775807) : board_Same_g a b = some (decide (a = b)) := by
 unfold board_Same_g
 rw [eqDfs_eq hl]
 have bq : ∀ x y : Int, (x == y) = decide (x = y) := fun x y => by rw [Bool.eq_iff_iff]; simp
 have bb : ∀ x y : Bool, (x == y) = decide (x = y) := fun x y => by cases x <;> cases y <;> rfl
 simp only [bEq_dec, eqV_bx, eqV_cell, bq, bb]
 obtain ⟨a1, a2, a3, a4, a5, a6, a7, a8, a9, a10, a11⟩ := a
 obtain ⟨b1, b2, b3, b4, b5, b6, b7, b8, b9, b10, b11⟩ := b
 dsimp only
 by_cases h1 : a1 = b1
 ·by_cases h2 : a2 = b2
  ·by_cases h3 : a3 = b3
   ·by_cases h4 : a4 = b4
    ·by_cases h5 : a5 = b5
     ·by_cases h6 : a6 = b6
      ·by_cases h7 : a7 = b7
       ·by_cases h8 : a8 = b8
        ·by_cases h9 : a9 = b9
         ·by_cases h10 : a10 = b10
          ·by_cases h11 : a11 = b11 <;> simp [h1, h2, h3, h4, h5, h6, h7, h8, h9, h10, h11]
          ·simp [h1, h2, h3, h4, h5, h6, h7, h8, h9, h10]
         ·simp [h1, h2, h3, h4, h5, h6, h7, h8, h9]
        ·simp [h1, h2, h3, h4, h5, h6, h7, h8]
       ·simp [h1, h2, h3, h4, h5, h6, h7]
      ·simp [h1, h2, h3, h4, h5, h6]
     ·simp [h1, h2, h3, h4, h5]
    ·simp [h1, h2, h3, h4]
   ·simp [h1, h2, h3]
  ·simp [h1, h2]
 ·simp [h1]
theorem r30_same_eq {a b : TBoard} (hl : a.Defects.length ≤ 9223372036854775807) : r30_Same_g a b = some (decide (a = b)) := by
 rw [← bsame_eq hl]
 unfold r30_Same_g r26_SameBoard_g board_Same_g
 rw [eqDfs_eq hl, r13_same_eq hl]
 cases bEq a.Id b.Id <;> cases bEq a.Log b.Log <;> cases bEq a.Species b.Species <;> cases (a.Product == b.Product) <;> cases eqV encBx a.Box b.Box <;> cases (a.Volume == b.Volume) <;> first | rfl | skip
 cases decide (a.Defects = b.Defects) <;> cases (a.Wane == b.Wane) <;> cases eqV encTCell a.Cell b.Cell <;> cases (a.Dried == b.Dried) <;> rfl
end Go.Proofs.YtpoehckffpbfiaaGreat
