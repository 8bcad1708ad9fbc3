/- P1: what functions of the program compute (written by mod.py). -/
import Derived.Test.YtmfgheklnjmbjaaA1
import Derived.KernelRfl
namespace Go.Proofs.Ytmfgheklnjmbjaa
open Go Go.Ab
set_option linter.unusedSimpArgs false
set_option linter.unusedVariables false
set_option maxRecDepth 20000

theorem W64_eq {n : Int} (h1 : -9223372036854775808 ≤ n) (h2 : n ≤ 9223372036854775807) : W64 n = n := w64_id' h1 h2
theorem W64_succ {k : Nat} (h : k < 9223372036854775807) : W64 ((k : Int) + 1) = ((k + 1 : Nat) : Int) := by
  rw [W64_eq (by omega) (by omega)]
  rfl
theorem bind_some' {α β : Type} (a : α) (f : α → Option β) : (some a).bind f = f a := rfl
section
variable {X Y : Type} {step : X → Option (X ⊕ Y)}
/-- A loop that runs k rounds. -/
theorem loopO_upto (st : Nat → X) (k : Nat) {y : Y} (h : ∀ j, j < k → step (st j) = some (.inl (st (j + 1)))) (he : step (st k) = some (.inr y)) : loopO step (st 0) = some y := by
  have : ∀ j, j ≤ k → loopO step (st (k - j)) = some y := by
    intro j
    induction j with
    | zero => intro _; exact loopO_done he
    | succ j ih =>
      intro hj
      rw [loopO_next (h (k - (j + 1)) (by omega)), show k - (j + 1) + 1 = k - j by omega]
      exact ih (by omega)
  simpa using this k (Nat.le_refl _)
/-- A loop over a list that ends at the first element with a property. -/
theorem loopO_find {α : Type} (l : List α) (st : Nat → X) (p : α → Bool) (out : α → Y) (fin : Y)
    (h1 : ∀ j (hj : j < l.length), p l[j] = false → step (st j) = some (.inl (st (j + 1)))) (h2 : ∀ j (hj : j < l.length), p l[j] = true → step (st j) = some (.inr (out l[j]))) (h3 : step (st l.length) = some (.inr fin)) :
    loopO step (st 0) = some ((l.find? p).elim fin out) := by
  cases hf : l.find? p with
  | none =>
    rw [List.find?_eq_none] at hf
    refine loopO_upto st l.length (fun j hj => h1 j hj ?_) h3
    have := hf l[j] (List.getElem_mem hj)
    simpa using this
  | some a =>
    rw [List.find?_eq_some_iff_getElem] at hf
    obtain ⟨hp, i, hi, hia, hlt⟩ := hf
    refine loopO_upto st i (fun j hj => h1 j (by omega) ?_) ?_
    · simpa using hlt j hj
    · subst hia
      exact h2 i hi hp
/-- A loop over a list that folds it; I holds of what is folded. -/
theorem loopO_foldI {α S : Type} (l : List α) (f : S → α → S) (s0 : S) (mk : S → Nat → X) (out : S → Y) (I : Nat → S → Prop) (h0 : I 0 s0) (hI : ∀ j s (hj : j < l.length), I j s → I (j + 1) (f s l[j]))
    (h : ∀ s j (hj : j < l.length), I j s → step (mk s j) = some (.inl (mk (f s l[j]) (j + 1)))) (he : ∀ s, I l.length s → step (mk s l.length) = some (.inr (out s))) : loopO step (mk s0 0) = some (out (l.foldl f s0)) := by
  have hF : ∀ j, j ≤ l.length → I j ((l.take j).foldl f s0) := by
    intro j
    induction j with
    | zero => intro _; simpa using h0
    | succ j ih =>
      intro hj
      rw [List.take_succ_eq_append_getElem (by omega), List.foldl_append]
      exact hI j _ (by omega) (ih (by omega))
  have := loopO_upto (step := step) (fun j => mk ((l.take j).foldl f s0) j) l.length (y := out (l.foldl f s0)) (fun j hj => by
    rw [h _ j hj (hF j (by omega)), List.take_succ_eq_append_getElem hj, List.foldl_append]
    rfl) (by
    have := he _ (hF l.length (Nat.le_refl _))
    rw [List.take_length] at this ⊢
    exact this)
  simpa using this
theorem loopO_fold {α S : Type} (l : List α) (f : S → α → S) (s0 : S) (mk : S → Nat → X) (out : S → Y)
    (h : ∀ s j (hj : j < l.length), step (mk s j) = some (.inl (mk (f s l[j]) (j + 1)))) (he : ∀ s, step (mk s l.length) = some (.inr (out s))) : loopO step (mk s0 0) = some (out (l.foldl f s0)) :=
  loopO_foldI l f s0 mk out (fun _ _ => True) trivial (fun _ _ _ _ => trivial) (fun s j hj _ => h s j hj) (fun s _ => he s)
end
theorem getI_at {α : Type} {l : List α} {j : Nat} (h : j < l.length) : getI l (j : Int) = some l[j] := getI_lt h
theorem lt_nat {j n : Nat} (h : j < n) : decide ((j : Int) < (n : Int)) = true := decide_eq_true (by omega)
theorem nlt_nat (n : Nat) : decide ((n : Int) < (n : Int)) = false := decide_eq_false (by omega)
theorem loopO_findN {X Y : Type} {step : X → Option (X ⊕ Y)} (n : Nat) (st : Nat → X) (p : Nat → Bool) (out : Nat → Y) (fin : Y)
    (h1 : ∀ j, j < n → p j = false → step (st j) = some (.inl (st (j + 1)))) (h2 : ∀ j, j < n → p j = true → step (st j) = some (.inr (out j))) (h3 : step (st n) = some (.inr fin)) :
    loopO step (st 0) = some (((List.range n).find? p).elim fin out) := by
  refine loopO_find (List.range n) st p out fin (fun j hj hp => ?_) (fun j hj hp => ?_) (by simpa using h3)
  · rw [List.length_range] at hj
    exact h1 j hj (by simpa using hp)
  · rw [List.length_range] at hj
    have := h2 j hj (by simpa using hp)
    simpa using this
/-- A loop that looks for the first bad one. -/
theorem loopO_allN {X β : Type} {step : X → Option (X ⊕ (β ⊕ Unit))} (n : Nat) (st : Nat → X) (p : Nat → Bool) (b : β)
    (h : ∀ j, j < n → step (st j) = bif p j then some (.inl (st (j + 1))) else some (.inr (.inl b))) (h3 : step (st n) = some (.inr (.inr ()))) :
    loopO step (st 0) = some (bif (List.range n).all p then .inr () else .inl b) := by
  rw [loopO_findN n st (fun j => !p j) (fun _ => .inl b) (.inr ()) (fun j hj hp => ?_) (fun j hj hp => ?_) h3]
  · cases hf : (List.range n).find? (fun j => !p j) with
    | none =>
      rw [List.find?_eq_none] at hf
      have : (List.range n).all p = true := by
        rw [List.all_eq_true]
        intro x hx
        simpa using hf x hx
      rw [this]
      rfl
    | some a =>
      have h1 := List.find?_some hf
      have h2 := List.mem_of_find?_eq_some hf
      have : (List.range n).all p = false := by
        rw [List.all_eq_false]
        exact ⟨a, h2, by simpa using h1⟩
      rw [this]
      rfl
  · have hp' : p j = true := by simpa using hp
    rw [h j hj, hp']
    rfl
  · have hp' : p j = false := by simpa using hp
    rw [h j hj, hp']
    rfl

theorem letB_eq {α β : Type} (x : α) (K : α → β) : letB x K = K x := rfl
theorem lt_not (a b : Int) : decide (a < b) = !decide (b ≤ a) := by
  by_cases h : a < b
  · rw [decide_eq_true h, decide_eq_false (by omega)]
    rfl
  · rw [decide_eq_false h, decide_eq_true (by omega)]
    rfl
theorem bnot_le (a b : Int) : decide (a ≤ b) = !decide (b < a) := by
  by_cases h : a ≤ b
  · rw [decide_eq_true h, decide_eq_false (by omega)]
    rfl
  · rw [decide_eq_false h, decide_eq_true (by omega)]
    rfl
theorem ne_t {n : Int} (h : n ≠ 0) : (n != 0) = true := by simp [h]
theorem ne_f : ((0 : Int) != 0) = false := rfl
/-- A loop over a list that folds it and leaves at the first bad one. -/
theorem loopO_foldX {X Y α S : Type} {step : X → Option (X ⊕ Y)} (l : List α) (bad : α → Bool) (f : S → α → S) (s0 : S) (mk : S → Nat → X) (E : Y) (out : S → Y) (I : Nat → S → Prop) (h0 : I 0 s0) (hI : ∀ j s (hj : j < l.length), bad l[j] = false → I j s → I (j + 1) (f s l[j]))
    (h : ∀ s j (hj : j < l.length), I j s → bad l[j] = false → step (mk s j) = some (.inl (mk (f s l[j]) (j + 1)))) (hb : ∀ s j (hj : j < l.length), I j s → bad l[j] = true → step (mk s j) = some (.inr E)) (he : ∀ s, I l.length s → step (mk s l.length) = some (.inr (out s))) :
    loopO step (mk s0 0) = some (bif l.any bad then E else out (l.foldl f s0)) := by
  have : ∀ (r : List α) (j : Nat) (s : S), l.drop j = r → j ≤ l.length → I j s → loopO step (mk s j) = some (bif r.any bad then E else out (r.foldl f s)) := by
    intro r
    induction r with
    | nil =>
      intro j s hr hj hs
      have : l.length ≤ j := List.drop_eq_nil_iff.1 hr
      have : j = l.length := by omega
      subst this
      exact loopO_done (he s hs)
    | cons a r ih =>
      intro j s hr hj hs
      have hlt : j < l.length := by
        rcases Nat.lt_or_ge j l.length with h | h
        · exact h
        · rw [List.drop_eq_nil_of_le h] at hr
          exact absurd hr (by simp)
      have hcl := List.drop_eq_getElem_cons hlt
      rw [hr] at hcl
      obtain ⟨ha, hr'⟩ := List.cons.inj hcl
      rw [List.any_cons, List.foldl_cons, ha]
      cases hbad : bad l[j] with
      | true => exact loopO_done (hb s j hlt hs hbad)
      | false =>
        rw [loopO_next (h s j hlt hs hbad)]
        exact ih (j + 1) (f s l[j]) hr'.symm (by omega) (hI j s hlt hbad hs)
  exact this l 0 s0 (List.drop_zero ..) (by omega) h0
/-- A loop over a list whose rounds look at what is behind them, up to the first bad one. -/
theorem loopO_pre {X Y α : Type} {step : X → Option (X ⊕ Y)} (l : List α) (bad : List α → α → Bool) (mk : List α → Nat → X) (E fin : Y)
    (h : ∀ j (hj : j < l.length), bad (l.take j) l[j] = false → step (mk (l.take j) j) = some (.inl (mk (l.take (j + 1)) (j + 1)))) (hb : ∀ j (hj : j < l.length), bad (l.take j) l[j] = true → step (mk (l.take j) j) = some (.inr E)) (he : step (mk l l.length) = some (.inr fin)) :
    loopO step (mk [] 0) = some (bif (List.range l.length).any (fun j => (l[j]?).elim false fun a => bad (l.take j) a) then E else fin) := by
  have hstep : ∀ j, j < l.length → ((l[j]?).elim false fun a => bad (l.take j) a) = false → step (mk (l.take j) j) = some (.inl (mk (l.take (j + 1)) (j + 1))) := fun j hj hq => by
    rw [List.getElem?_eq_getElem hj] at hq
    exact h j hj hq
  have hbad : ∀ j, j < l.length → ((l[j]?).elim false fun a => bad (l.take j) a) = true → step (mk (l.take j) j) = some (.inr E) := fun j hj hq => by
    rw [List.getElem?_eq_getElem hj] at hq
    exact hb j hj hq
  have := loopO_findN (step := step) l.length (fun j => mk (l.take j) j) (fun j => (l[j]?).elim false fun a => bad (l.take j) a) (fun _ => E) fin hstep hbad (by rw [List.take_length]; exact he)
  rw [List.take_zero] at this
  rw [this]
  cases hf : (List.range l.length).find? (fun j => (l[j]?).elim false fun a => bad (l.take j) a) with
  | none =>
    rw [List.find?_eq_none] at hf
    have : (List.range l.length).any (fun j => (l[j]?).elim false fun a => bad (l.take j) a) = false := by
      rw [List.any_eq_false]
      exact hf
    rw [this]
    rfl
  | some a =>
    have h1 := List.find?_some hf
    have h2 := List.mem_of_find?_eq_some hf
    have : (List.range l.length).any (fun j => (l[j]?).elim false fun a => bad (l.take j) a) = true := by
      rw [List.any_eq_true]
      exact ⟨a, h2, h1⟩
    rw [this]
    rfl

theorem aw46 : l46_awake_g = some true := l46_awake_le 300 true (by kernel_rfl)
theorem blen_eq (b : TBoard) : board_Length_g b = r30_Length_g b := by
  unfold board_Length_g r30_Length_g board_isAlong_g r30_within_g board_length_g r30_length_g
  by_cases h1 : 0 ≤ b.Box.z.a
  · by_cases h2 : b.Box.z.b ≤ 20000
    · by_cases h3 : b.Box.z.a < b.Box.z.b
      · rw [decide_eq_true h1, decide_eq_true h2, decide_eq_true h3, decide_eq_true (p := b.Box.z.a ≤ 20000) (by omega), decide_eq_true (p := 0 ≤ b.Box.z.b) (by omega), W64_eq (by omega) (by omega)]
        show b.Box.z.b - b.Box.z.a = max 0 _
        omega
      · rw [decide_eq_true h1, decide_eq_true h2, decide_eq_false h3]
        by_cases h4 : b.Box.z.a ≤ 20000
        · by_cases h5 : 0 ≤ b.Box.z.b
          · rw [decide_eq_true h4, decide_eq_true h5, W64_eq (by omega) (by omega)]
            show 0 = max 0 _
            omega
          · rw [decide_eq_true h4, decide_eq_false h5]
            rfl
        · rw [decide_eq_false h4]
          rfl
    · rw [decide_eq_true h1, decide_eq_false h2]
      cases decide (b.Box.z.a ≤ 20000) <;> cases decide (0 ≤ b.Box.z.b) <;> rfl
  · rw [decide_eq_false h1]
    rfl
theorem fits_eq (o : TOrder) (b : TBoard) : order_Fits_g o b = r46_Fits_g o b := by
  unfold order_Fits_g r46_Fits_g
  rw [blen_eq]
  rfl
theorem sound_eq (o : TOrder) : order_sound_g o = r46_Sound_g o := by
  unfold order_sound_g r46_Sound_g
  by_cases h1 : 1 ≤ o.Want
  · by_cases h2 : o.Want ≤ 200
    · rw [W64_eq (n := o.Want - 1) (by omega) (by omega), show decide (o.Minus ≤ o.Want - 1) = decide (o.Minus < o.Want) by rw [decide_eq_decide]; omega]
    · rw [decide_eq_true h1, decide_eq_false h2]
      rfl
  · rw [decide_eq_false h1]
    rfl
theorem least_eq (o : TOrder) : order_Least_g o = r46_Least_g o := by
  unfold order_Least_g r46_Least_g
  rw [sound_eq]
theorem most_eq (o : TOrder) : order_Most_g o = r46_Most_g o := by
  unfold order_Most_g r46_Most_g
  rw [sound_eq]
theorem orderFits_true (o : TOrder) (b : TBoard) : l46_OrderFits_g o b = some true := by
  unfold l46_OrderFits_g
  rw [fits_eq, least_eq, most_eq, aw46]
  simp
/-! filled -/
noncomputable def badB (o : TOrder) (p : List TBoard) (e : TBoard) : Bool := (order_Fits_g o e != 0) || p.any fun q => bEq q.Id e.Id
noncomputable def anyB (o : TOrder) (l : List TBoard) : Bool := (List.range l.length).any (fun j => (l[j]?).elim false fun a => badB o (l.take j) a)
theorem any_map_id (p : List TBoard) (e : TBoard) : inK e.Id (p.map fun q => q.Id) = p.any fun q => bEq q.Id e.Id := by
  unfold inK
  rw [List.any_map]
  rfl
theorem fill_loop (o : TOrder) {l : List TBoard} (hl : l.length ≤ 1000000) : loopO (fun q : Int × List ByteArray => order_Filled_s1 o l q.1 q.2) (0, []) = some (bif anyB o l then .inl false else .inr ()) := by
  have := loopO_pre (step := fun q : Int × List ByteArray => order_Filled_s1 o l q.1 q.2) l (badB o) (fun p j => ((j : Int), p.map fun q => q.Id)) (.inl false) (.inr ()) (fun j hj hb => by
    unfold badB at hb
    rw [Bool.or_eq_false_iff] at hb
    unfold order_Filled_s1
    dsimp only
    rw [lt_nat hj, cond_true, getI_at hj, bind_some', hb.1, cond_false, any_map_id, hb.2, cond_false, W64_succ (by omega), List.take_succ_eq_append_getElem hj]
    unfold addK
    rw [any_map_id, hb.2, List.map_append]
    rfl) (fun j hj hb => by
    unfold badB at hb
    unfold order_Filled_s1
    dsimp only
    rw [lt_nat hj, cond_true, getI_at hj, bind_some', any_map_id]
    cases h1 : (order_Fits_g o l[j] != 0) with
    | true => rfl
    | false =>
      rw [h1, Bool.false_or] at hb
      rw [hb]
      rfl) (by
    unfold order_Filled_s1
    dsimp only
    rw [nlt_nat]
    rfl)
  exact this
theorem rfill_s2 {l : List TBoard} (hl : l.length ≤ 1000000) {i : Nat} (hi : i < l.length) : loopO (fun q : Int => r46_Filled_s2 l (i : Int) q) 0 = some (bif (l.take i).any (fun q => bEq q.Id l[i].Id) then .inl (.inr (.inl false)) else .inr ()) := by
  have hlen : (l.take i).length = i := by rw [List.length_take]; omega
  have := loopO_foldX (step := fun q : Int => r46_Filled_s2 l (i : Int) q) (l.take i) (fun q => bEq q.Id l[i].Id) (fun (u : Unit) _ => u) () (fun _ j => (j : Int)) (.inl (.inr (.inl false))) (fun _ => .inr ()) (fun _ _ => True) trivial (fun _ _ _ _ _ => trivial) (fun s j hj _ hb => by
    rw [hlen] at hj
    unfold r46_Filled_s2
    rw [List.getElem_take] at hb
    rw [lt_nat hj, cond_true, getI_at (show j < l.length by omega), bind_some', getI_at hi, bind_some', hb, cond_false, W64_succ (by omega)]) (fun s j hj _ hb => by
    rw [hlen] at hj
    unfold r46_Filled_s2
    rw [List.getElem_take] at hb
    rw [lt_nat hj, cond_true, getI_at (show j < l.length by omega), bind_some', getI_at hi, bind_some', hb]
    rfl) (fun _ _ => by
    unfold r46_Filled_s2
    rw [hlen, nlt_nat]
    rfl)
  exact this
theorem rfill_loop (o : TOrder) {l : List TBoard} (hl : l.length ≤ 1000000) : loopO (fun q : Int => r46_Filled_s1 o l q) 0 = some (bif anyB o l then .inl false else .inr ()) := by
  have := loopO_pre (step := fun q : Int => r46_Filled_s1 o l q) l (badB o) (fun p j => (j : Int)) (.inl false) (.inr ()) (fun j hj hb => by
    unfold badB at hb
    rw [Bool.or_eq_false_iff] at hb
    unfold r46_Filled_s1
    rw [lt_nat hj, cond_true, getI_at hj, bind_some', ← fits_eq, hb.1, cond_false, rfill_s2 hl hj, hb.2, W64_succ (by omega)]
    rfl) (fun j hj hb => by
    unfold badB at hb
    unfold r46_Filled_s1
    rw [lt_nat hj, cond_true, getI_at hj, bind_some', ← fits_eq, rfill_s2 hl hj]
    cases h1 : (order_Fits_g o l[j] != 0) with
    | true => rfl
    | false =>
      rw [h1, Bool.false_or] at hb
      rw [hb]
      rfl) (by
    unfold r46_Filled_s1
    rw [nlt_nat]
    rfl)
  exact this
noncomputable def flld (o : TOrder) (l : List TBoard) : Bool := order_sound_g o && (!decide ((l.length : Int) < order_Least_g o) && (!decide (order_Most_g o < (l.length : Int)) && !anyB o l))
theorem filled_eq (o : TOrder) {l : List TBoard} (hl : l.length ≤ 1000000) : order_Filled_g o l = some (flld o l) := by
  unfold order_Filled_g flld
  rw [fill_loop o hl, bind_some']
  cases order_sound_g o <;> cases decide ((l.length : Int) < order_Least_g o) <;> cases decide (order_Most_g o < (l.length : Int)) <;> cases anyB o l <;> rfl
theorem rfilled_eq (o : TOrder) {l : List TBoard} (hl : l.length ≤ 1000000) : r46_Filled_g o l = some (flld o l) := by
  unfold r46_Filled_g flld
  rw [rfill_loop o hl, bind_some', ← sound_eq, ← least_eq, ← most_eq]
  cases order_sound_g o <;> cases decide ((l.length : Int) < order_Least_g o) <;> cases decide (order_Most_g o < (l.length : Int)) <;> cases anyB o l <;> rfl
theorem orderFills_true (o : TOrder) (l : List TBoard) : l46_OrderFills_g o l = some true := by
  unfold l46_OrderFills_g
  rw [aw46]
  by_cases h : 250 < l.length
  · rw [decide_eq_true (by omega)]
    rfl
  · rw [decide_eq_false (by omega), cond_false, filled_eq o (by omega), rfilled_eq o (by omega)]
    simp
/-! counts -/
theorem anyB_iff (o : TOrder) (l : List TBoard) : anyB o l = false ↔ (∀ b ∈ l, order_Fits_g o b = 0) ∧ (l.map fun q => q.Id).Nodup := by
  unfold anyB
  rw [List.any_eq_false]
  constructor
  · intro h
    have h' : ∀ j (hj : j < l.length), badB o (l.take j) l[j] = false := fun j hj => by
      have := h j (List.mem_range.2 hj)
      rw [List.getElem?_eq_getElem hj] at this
      simpa using this
    refine ⟨fun b hb => ?_, ?_⟩
    · obtain ⟨j, hj, rfl⟩ := List.getElem_of_mem hb
      have := h' j hj
      unfold badB at this
      rw [Bool.or_eq_false_iff] at this
      simpa using this.1
    · rw [List.Nodup, List.pairwise_map, List.pairwise_iff_getElem]
      intro i j hi hj hij heq
      have := h' j hj
      unfold badB at this
      rw [Bool.or_eq_false_iff, List.any_eq_false] at this
      have hm : l[i] ∈ l.take j := by
        rw [List.mem_take_iff_getElem]
        exact ⟨i, by omega, rfl⟩
      exact this.2 _ hm (bEq_iff.2 heq)
  · rintro ⟨h1, h2⟩ j hj
    have hj := List.mem_range.1 hj
    rw [List.getElem?_eq_getElem hj]
    show ¬ badB o (l.take j) l[j] = true
    unfold badB
    rw [h1 _ (List.getElem_mem hj)]
    rw [Bool.not_eq_true, Bool.or_eq_false_iff, List.any_eq_false]
    refine ⟨rfl, fun q hq hb => ?_⟩
    rw [List.mem_take_iff_getElem] at hq
    obtain ⟨i, hi, rfl⟩ := hq
    rw [List.Nodup, List.pairwise_map, List.pairwise_iff_getElem] at h2
    exact h2 i j (by omega) hj (by omega) (bEq_iff.1 hb)
theorem sound_t {o : TOrder} (h : order_sound_g o = true) : 1 ≤ o.Want ∧ o.Want ≤ 200 ∧ 0 ≤ o.Minus ∧ o.Minus ≤ o.Want - 1 ∧ 0 ≤ o.Plus ∧ o.Plus ≤ 200 - o.Want := by
  unfold order_sound_g at h
  by_cases h1 : 1 ≤ o.Want
  · by_cases h2 : o.Want ≤ 200
    · rw [W64_eq (n := o.Want - 1) (by omega) (by omega), W64_eq (n := 200 - o.Want) (by omega) (by omega)] at h
      by_cases h3 : 0 ≤ o.Minus
      · by_cases h4 : o.Minus ≤ o.Want - 1
        · by_cases h5 : 0 ≤ o.Plus
          · rw [decide_eq_true h1, decide_eq_true h2, decide_eq_true h3, decide_eq_true h4, decide_eq_true h5] at h
            have h6 : decide (o.Plus ≤ 200 - o.Want) = true := h
            rw [decide_eq_true_eq] at h6
            exact ⟨h1, h2, h3, h4, h5, h6⟩
          · simp [h5] at h
        · simp [h4] at h
      · simp [h3] at h
    · simp [h2] at h
  · simp [h1] at h
theorem counts_ab (o : TOrder) : (order_Least_g o = 0 ∧ order_Most_g o = 0 ∧ order_sound_g o = false) ∨ (order_sound_g o = true ∧ 1 ≤ order_Least_g o ∧ order_Least_g o ≤ o.Want ∧ o.Want ≤ order_Most_g o ∧ order_Most_g o ≤ 200) := by
  unfold order_Least_g order_Most_g
  cases h : order_sound_g o with
  | false => exact .inl ⟨rfl, rfl, rfl⟩
  | true =>
    have := sound_t h
    refine .inr ⟨rfl, ?_⟩
    rw [show (!true) = false from rfl, cond_false, cond_false, W64_eq (by omega) (by omega), W64_eq (by omega) (by omega)]
    omega
theorem orderCounts_true (o : TOrder) (l : List TBoard) (at_ : Int) : l46_OrderCounts_g o l at_ = some true := by
  unfold l46_OrderCounts_g
  rw [aw46]
  by_cases h : 250 < l.length
  · rw [decide_eq_true (by omega)]
    rfl
  · rw [decide_eq_false (by omega), cond_false, filled_eq o (by omega)]
    have hX : (bif ((order_Least_g o) != 0) then (bif (decide ((order_Least_g o) < 1)) then some (Sum.inl false) else (bif (decide (o.Want < (order_Least_g o))) then some (Sum.inl false) else (bif (decide ((order_Most_g o) < o.Want)) then some (Sum.inl false) else (bif (decide (200 < (order_Most_g o))) then some (Sum.inl false) else (bif (!(((order_Least_g o) == 0) == ((order_Most_g o) == 0))) then some (Sum.inl false) else some (Sum.inr ())))))) else (bif (!(((order_Least_g o) == 0) == ((order_Most_g o) == 0))) then some (Sum.inl false) else some (Sum.inr ())) : Option (Bool ⊕ Unit)) = some (.inr ()) := by
      rcases counts_ab o with ⟨h1, h2, _⟩ | ⟨_, h1, h2, h3, h4⟩
      · rw [h1, h2]
        rfl
      · rw [ne_t (by omega), decide_eq_false (by omega), decide_eq_false (by omega), decide_eq_false (by omega), decide_eq_false (by omega), show (order_Least_g o == 0) = false by simp; omega, show (order_Most_g o == 0) = false by simp; omega]
        rfl
    rw [hX]
    simp only [bind_some', Sum.elim_inr]
    cases hf : flld o l with
    | false => rfl
    | true =>
      have hf0 := hf
      unfold flld at hf0
      simp only [Bool.and_eq_true, Bool.not_eq_true', decide_eq_false_iff_not] at hf0
      obtain ⟨f1, f2, f3, f4⟩ := hf0
      obtain ⟨a1, a2⟩ := (anyB_iff o l).1 f4
      have hab : 1 ≤ order_Least_g o ∧ order_Least_g o ≤ o.Want ∧ o.Want ≤ order_Most_g o ∧ order_Most_g o ≤ 200 := by
        rcases counts_ab o with ⟨_, _, h3⟩ | ⟨_, h3⟩
        · rw [h3] at f1
          exact absurd f1 (by simp)
        · exact h3
      simp only [Bool.not_true, cond_false]
      by_cases g1 : at_ < 0
      · rw [decide_eq_true g1]; rfl
      by_cases g2 : (l.length : Int) < at_
      · rw [decide_eq_false g1, decide_eq_true g2]; rfl
      rw [decide_eq_false g1, decide_eq_false g2]
      obtain ⟨k, rfl⟩ := Int.eq_ofNat_of_zero_le (show 0 ≤ at_ by omega)
      have s1 : subO l (k : Int) (l.length : Int) = some (l.drop k) := by
        rw [subO_eq (by omega) (by omega) (by omega)]
        simp [List.take_of_length_le]
      have s2 : subO l 0 (k : Int) = some (l.take k) := by
        rw [subO_eq (by omega) (by omega) (by omega)]
        simp
      have s3 : subO l 0 ((l.length : Int) - 1) = some (l.take (l.length - 1)) := by
        rw [subO_eq (by omega) (by omega) (by omega)]
        simp
      rw [W64_eq (n := (l.length : Int) - 1) (by omega) (by omega), s1, s2, s3]
      simp only [cond_false, bind_some']
      rw [appO_eq (by simp; omega) (by simp; omega)]
      simp only [List.nil_append, bind_some']
      rw [appO_eq (by simp; omega) (by simp; omega), bind_some', decide_eq_false f2, decide_eq_false f3]
      simp only [cond_false]
      have hlen : (l.drop k ++ l.take k).length = l.length := by simp; omega
      have hperm : (l.drop k ++ l.take k).Perm l := List.perm_append_comm.trans (by rw [List.take_append_drop])
      have hr : flld o (l.drop k ++ l.take k) = true := by
        unfold flld
        rw [hlen, f1, decide_eq_false f2, decide_eq_false f3, (anyB_iff o _).2 ⟨fun b hb => a1 b (hperm.mem_iff.1 hb), ((hperm.map fun q => q.Id).nodup_iff).2 a2⟩]
        rfl
      rw [filled_eq o (by omega), hr, bind_some', filled_eq o (by simp; omega)]
      have hlen2 : (l.take (l.length - 1)).length = l.length - 1 := by simp
      have hq : flld o (l.take (l.length - 1)) = decide (order_Least_g o ≤ (l.length : Int) - 1) := by
        unfold flld
        rw [hlen2, f1, (anyB_iff o _).2 ⟨fun b hb => a1 b (List.mem_of_mem_take hb), ((List.take_sublist _ _).map _).nodup a2⟩, decide_eq_false (p := order_Most_g o < ((l.length - 1 : Nat) : Int)) (by omega), show ((l.length - 1 : Nat) : Int) = (l.length : Int) - 1 by omega]
        by_cases hc : order_Least_g o ≤ (l.length : Int) - 1
        · rw [decide_eq_true hc, decide_eq_false (by omega)]
          rfl
        · rw [decide_eq_false hc, decide_eq_true (by omega)]
          rfl
      rw [hq]
      simp
/-! better boards -/
theorem nq_t {a b : Int} (h : a ≠ b) : (a != b) = true := by simp [h]
theorem nq_f {a b : Int} (h : a = b) : (a != b) = false := by simp [h]
theorem fits_iff (o : TOrder) (b : TBoard) : order_Fits_g o b = 0 ↔ bEq b.Species o.Species = true ∧ b.Product = o.Product ∧ board_Length_g b = o.Length ∧ b.Dried = true ∧ moist_Mean_g b.Cell ≤ o.Moist ∧ 1 ≤ b.Grade ∧ b.Grade ≤ o.Grade := by
  unfold order_Fits_g
  cases h1 : bEq b.Species o.Species with
  | false => exact ⟨fun h => absurd h (by simp), fun h => absurd h.1 (by simp)⟩
  | true =>
    rw [show (!true) = false from rfl, cond_false]
    by_cases h2 : b.Product = o.Product
    · rw [nq_f h2, cond_false]
      by_cases h3 : board_Length_g b = o.Length
      · rw [nq_f h3, cond_false]
        cases h4 : b.Dried with
        | false => exact ⟨fun h => absurd h (by simp), fun h => absurd h.2.2.2.1 (by simp)⟩
        | true =>
          rw [show (!true) = false from rfl, cond_false]
          by_cases h5 : o.Moist < moist_Mean_g b.Cell
          · rw [decide_eq_true h5]
            exact ⟨fun h => absurd h (by simp), fun h => by omega⟩
          · rw [decide_eq_false h5, cond_false]
            by_cases h6 : b.Grade < 1
            · rw [decide_eq_true h6]
              exact ⟨fun h => absurd h (by simp), fun h => by omega⟩
            · rw [decide_eq_false h6, cond_false]
              by_cases h7 : o.Grade < b.Grade
              · rw [decide_eq_true h7]
                exact ⟨fun h => absurd h (by simp), fun h => by omega⟩
              · rw [decide_eq_false h7]
                exact ⟨fun _ => ⟨rfl, h2, h3, rfl, by omega, by omega, by omega⟩, fun _ => rfl⟩
      · rw [nq_t h3]
        exact ⟨fun h => absurd h (by simp), fun h => absurd h.2.2.1 h3⟩
    · rw [nq_t h2]
      exact ⟨fun h => absurd h (by simp), fun h => absurd h.2.1 h2⟩
theorem mc0 (c : TCell) : moist_Check_g c = 0 ↔ (0 ≤ c.Surf ∧ c.Surf ≤ 20000) ∧ (0 ≤ c.Core ∧ c.Core ≤ 20000) ∧ 0 ≤ c.Stress ∧ c.Stress ≤ 1099511627776 := by
  unfold moist_Check_g
  by_cases h1 : c.Surf < 0
  · simp [h1]
    try omega
  by_cases h2 : 20000 < c.Surf
  · simp [h1, h2]
    try omega
  by_cases h3 : c.Core < 0
  · simp [h1, h2, h3]
    try omega
  by_cases h4 : 20000 < c.Core
  · simp [h1, h2, h3, h4]
    try omega
  by_cases h5 : c.Stress < 0
  · simp [h1, h2, h3, h4, h5]
    try omega
  by_cases h6 : 1099511627776 < c.Stress
  · simp [h1, h2, h3, h4, h5, h6]
    try omega
  · simp [h1, h2, h3, h4, h5, h6]
    try omega
theorem mean_le {c : TCell} {n m : Int} (hn : 0 ≤ n) (h1 : n ≤ c.Surf) (h2 : c.Surf ≤ 20000) (hm : moist_Mean_g c ≤ m) : moist_Mean_g ⟨c.Surf - n, c.Core, c.Stress⟩ ≤ m := by
  unfold moist_Mean_g at hm ⊢
  by_cases hc : moist_Check_g c = 0
  · have h3 := (mc0 c).1 hc
    have hc' : moist_Check_g ⟨c.Surf - n, c.Core, c.Stress⟩ = 0 := (mc0 _).2 ⟨by dsimp only; omega, h3.2⟩
    rw [hc, ne_f, cond_false] at hm
    rw [hc', ne_f, cond_false]
    dsimp only
    rw [W64_eq (n := 2 * c.Core) (by omega) (by omega), W64_eq (n := c.Surf + 2 * c.Core) (by omega) (by omega), Int.tdiv_eq_ediv_of_nonneg (by omega), W64_eq (by omega) (by omega)] at hm
    rw [W64_eq (n := 2 * c.Core) (by omega) (by omega), W64_eq (n := c.Surf - n + 2 * c.Core) (by omega) (by omega), Int.tdiv_eq_ediv_of_nonneg (by omega), W64_eq (by omega) (by omega)]
    omega
  · have hc' : moist_Check_g ⟨c.Surf - n, c.Core, c.Stress⟩ ≠ 0 := fun h => by
      have h3 := (mc0 _).1 h
      dsimp only at h3
      exact hc ((mc0 c).2 ⟨by omega, h3.2⟩)
    rw [ne_t hc, cond_true] at hm
    rw [ne_t hc']
    exact hm
theorem orderBetter_true (o : TOrder) (b : TBoard) (less : Int × Int × Int) (hb : I64 b.Grade) : l46_OrderBetter_g o b less = some true := by
  unfold l46_OrderBetter_g
  rw [aw46]
  by_cases h0 : order_Fits_g o b = 0
  · rw [h0, ne_f, cond_false]
    by_cases g1 : less.1 < 0
    · rw [decide_eq_true g1]; rfl
    by_cases g2 : less.2.1 < 0
    · rw [decide_eq_false g1, decide_eq_true g2]; rfl
    by_cases g3 : less.2.2 < 0
    · rw [decide_eq_false g1, decide_eq_false g2, decide_eq_true g3]; rfl
    rw [decide_eq_false g1, decide_eq_false g2, decide_eq_false g3]
    simp only [cond_false, letB_eq]
    obtain ⟨f1, f2, f3, f4, f5, f6, f7⟩ := (fits_iff o b).1 h0
    unfold I64 at hb
    have key : ∀ x : TBoard, x.Species = b.Species → x.Product = b.Product → x.Box = b.Box → x.Dried = b.Dried → moist_Mean_g x.Cell ≤ o.Moist → x.Grade = max 1 (W64 (b.Grade - min less.1 10)) → (bif ((order_Fits_g o x) == 0) then (bif ((order_Fits_g (⟨o.Id, o.Species, o.Product, o.Length, (max o.Grade (min less.1 9)), (max o.Moist (min less.2.2 20000)), less.2.1, o.Minus, o.Plus, o.Price, o.Due⟩ : TOrder) b) == 0) then (bif ((order_Fits_g (⟨o.Id, o.Species, o.Product, o.Length, (max o.Grade (min less.1 9)), (max o.Moist (min less.2.2 20000)), less.2.1, o.Minus, o.Plus, o.Price, o.Due⟩ : TOrder) x) == 0) then (Option.bind (some true) (fun av4 => some av4)) else some false) else some false) else some false) = some true := by
      intro x x1 x2 x3 x4 x5 x6
      rw [W64_eq (by omega) (by omega)] at x6
      have hl : board_Length_g x = board_Length_g b := by
        unfold board_Length_g
        rw [x3]
      have k1 : order_Fits_g o x = 0 := (fits_iff o x).2 ⟨by rw [x1]; exact f1, by rw [x2]; exact f2, by rw [hl]; exact f3, by rw [x4]; exact f4, x5, by omega, by omega⟩
      have k2 : order_Fits_g (⟨o.Id, o.Species, o.Product, o.Length, (max o.Grade (min less.1 9)), (max o.Moist (min less.2.2 20000)), less.2.1, o.Minus, o.Plus, o.Price, o.Due⟩ : TOrder) b = 0 := (fits_iff _ b).2 ⟨f1, f2, f3, f4, by dsimp only; omega, f6, by dsimp only; omega⟩
      have k3 : order_Fits_g (⟨o.Id, o.Species, o.Product, o.Length, (max o.Grade (min less.1 9)), (max o.Moist (min less.2.2 20000)), less.2.1, o.Minus, o.Plus, o.Price, o.Due⟩ : TOrder) x = 0 := (fits_iff _ x).2 ⟨by rw [x1]; exact f1, by rw [x2]; exact f2, by rw [hl]; exact f3, by rw [x4]; exact f4, by dsimp only; omega, by omega, by dsimp only; omega⟩
      rw [k1, k2, k3]
      rfl
    by_cases g4 : less.2.1 ≤ b.Cell.Surf
    · by_cases g5 : b.Cell.Surf ≤ 20000
      · rw [decide_eq_true g4, decide_eq_true g5]
        refine key _ rfl rfl rfl rfl ?_ rfl
        show moist_Mean_g ⟨W64 (b.Cell.Surf - less.2.1), b.Cell.Core, b.Cell.Stress⟩ ≤ o.Moist
        rw [W64_eq (by omega) (by omega)]
        exact mean_le (by omega) g4 g5 f5
      · rw [decide_eq_true g4, decide_eq_false g5]
        exact key _ rfl rfl rfl rfl f5 rfl
    · rw [decide_eq_false g4]
      exact key _ rfl rfl rfl rfl f5 rfl
  · rw [ne_t h0]
    rfl

end Go.Proofs.Ytmfgheklnjmbjaa
