/- P1: what functions of the program compute (written by mod.py). -/
import Derived.Test.YtbgoflekklfdjaaA1
import Derived.KernelRfl
namespace Go.Proofs.Ytbgoflekklfdjaa
open Go Go.Ab
set_option linter.unusedSimpArgs false
set_option linter.unusedVariables false
set_option maxRecDepth 20000

theorem W64_eq {n : Int} (h1 : -9223372036854775808 ≤ n) (h2 : n ≤ 9223372036854775807) : W64 n = n := w64_id' h1 h2
theorem W64_succ {k : Nat} (h : k < 9223372036854775807) : W64 ((k : Int) + 1) = ((k + 1 : Nat) : Int) := by
  rw [W64_eq (by omega) (by omega)]
  rfl
theorem bind_some' {α β : Type} (a : α) (f : α → Option β) : (some a).bind f = f a := rfl
section
variable {X Y : Type} {step : X → Option (X ⊕ Y)}
/-- A loop that runs k rounds. -/
theorem loopO_upto (st : Nat → X) (k : Nat) {y : Y} (h : ∀ j, j < k → step (st j) = some (.inl (st (j + 1)))) (he : step (st k) = some (.inr y)) : loopO step (st 0) = some y := by
  have : ∀ j, j ≤ k → loopO step (st (k - j)) = some y := by
    intro j
    induction j with
    | zero => intro _; exact loopO_done he
    | succ j ih =>
      intro hj
      rw [loopO_next (h (k - (j + 1)) (by omega)), show k - (j + 1) + 1 = k - j by omega]
      exact ih (by omega)
  simpa using this k (Nat.le_refl _)
/-- A loop over a list that ends at the first element with a property. -/
theorem loopO_find {α : Type} (l : List α) (st : Nat → X) (p : α → Bool) (out : α → Y) (fin : Y)
    (h1 : ∀ j (hj : j < l.length), p l[j] = false → step (st j) = some (.inl (st (j + 1)))) (h2 : ∀ j (hj : j < l.length), p l[j] = true → step (st j) = some (.inr (out l[j]))) (h3 : step (st l.length) = some (.inr fin)) :
    loopO step (st 0) = some ((l.find? p).elim fin out) := by
  cases hf : l.find? p with
  | none =>
    rw [List.find?_eq_none] at hf
    refine loopO_upto st l.length (fun j hj => h1 j hj ?_) h3
    have := hf l[j] (List.getElem_mem hj)
    simpa using this
  | some a =>
    rw [List.find?_eq_some_iff_getElem] at hf
    obtain ⟨hp, i, hi, hia, hlt⟩ := hf
    refine loopO_upto st i (fun j hj => h1 j (by omega) ?_) ?_
    · simpa using hlt j hj
    · subst hia
      exact h2 i hi hp
/-- A loop over a list that folds it; I holds of what is folded. -/
theorem loopO_foldI {α S : Type} (l : List α) (f : S → α → S) (s0 : S) (mk : S → Nat → X) (out : S → Y) (I : Nat → S → Prop) (h0 : I 0 s0) (hI : ∀ j s (hj : j < l.length), I j s → I (j + 1) (f s l[j]))
    (h : ∀ s j (hj : j < l.length), I j s → step (mk s j) = some (.inl (mk (f s l[j]) (j + 1)))) (he : ∀ s, I l.length s → step (mk s l.length) = some (.inr (out s))) : loopO step (mk s0 0) = some (out (l.foldl f s0)) := by
  have hF : ∀ j, j ≤ l.length → I j ((l.take j).foldl f s0) := by
    intro j
    induction j with
    | zero => intro _; simpa using h0
    | succ j ih =>
      intro hj
      rw [List.take_succ_eq_append_getElem (by omega), List.foldl_append]
      exact hI j _ (by omega) (ih (by omega))
  have := loopO_upto (step := step) (fun j => mk ((l.take j).foldl f s0) j) l.length (y := out (l.foldl f s0)) (fun j hj => by
    rw [h _ j hj (hF j (by omega)), List.take_succ_eq_append_getElem hj, List.foldl_append]
    rfl) (by
    have := he _ (hF l.length (Nat.le_refl _))
    rw [List.take_length] at this ⊢
    exact this)
  simpa using this
theorem loopO_fold {α S : Type} (l : List α) (f : S → α → S) (s0 : S) (mk : S → Nat → X) (out : S → Y)
    (h : ∀ s j (hj : j < l.length), step (mk s j) = some (.inl (mk (f s l[j]) (j + 1)))) (he : ∀ s, step (mk s l.length) = some (.inr (out s))) : loopO step (mk s0 0) = some (out (l.foldl f s0)) :=
  loopO_foldI l f s0 mk out (fun _ _ => True) trivial (fun _ _ _ _ => trivial) (fun s j hj _ => h s j hj) (fun s _ => he s)
end
theorem getI_at {α : Type} {l : List α} {j : Nat} (h : j < l.length) : getI l (j : Int) = some l[j] := getI_lt h
theorem lt_nat {j n : Nat} (h : j < n) : decide ((j : Int) < (n : Int)) = true := decide_eq_true (by omega)
theorem nlt_nat (n : Nat) : decide ((n : Int) < (n : Int)) = false := decide_eq_false (by omega)
theorem loopO_findN {X Y : Type} {step : X → Option (X ⊕ Y)} (n : Nat) (st : Nat → X) (p : Nat → Bool) (out : Nat → Y) (fin : Y)
    (h1 : ∀ j, j < n → p j = false → step (st j) = some (.inl (st (j + 1)))) (h2 : ∀ j, j < n → p j = true → step (st j) = some (.inr (out j))) (h3 : step (st n) = some (.inr fin)) :
    loopO step (st 0) = some (((List.range n).find? p).elim fin out) := by
  refine loopO_find (List.range n) st p out fin (fun j hj hp => ?_) (fun j hj hp => ?_) (by simpa using h3)
  · rw [List.length_range] at hj
    exact h1 j hj (by simpa using hp)
  · rw [List.length_range] at hj
    have := h2 j hj (by simpa using hp)
    simpa using this
/-- A loop that looks for the first bad one. -/
theorem loopO_allN {X β : Type} {step : X → Option (X ⊕ (β ⊕ Unit))} (n : Nat) (st : Nat → X) (p : Nat → Bool) (b : β)
    (h : ∀ j, j < n → step (st j) = bif p j then some (.inl (st (j + 1))) else some (.inr (.inl b))) (h3 : step (st n) = some (.inr (.inr ()))) :
    loopO step (st 0) = some (bif (List.range n).all p then .inr () else .inl b) := by
  rw [loopO_findN n st (fun j => !p j) (fun _ => .inl b) (.inr ()) (fun j hj hp => ?_) (fun j hj hp => ?_) h3]
  · cases hf : (List.range n).find? (fun j => !p j) with
    | none =>
      rw [List.find?_eq_none] at hf
      have : (List.range n).all p = true := by
        rw [List.all_eq_true]
        intro x hx
        simpa using hf x hx
      rw [this]
      rfl
    | some a =>
      have h1 := List.find?_some hf
      have h2 := List.mem_of_find?_eq_some hf
      have : (List.range n).all p = false := by
        rw [List.all_eq_false]
        exact ⟨a, h2, by simpa using h1⟩
      rw [this]
      rfl
  · have hp' : p j = true := by simpa using hp
    rw [h j hj, hp']
    rfl
  · have hp' : p j = false := by simpa using hp
    rw [h j hj, hp']
    rfl

def emS (s : Sp) : Bool := decide (s.b ≤ s.a)
def emB (b : Bx) : Bool := emS b.x || (emS b.y || emS b.z)
def insideB (s : Sp) (lo hi : Int) : Bool := decide (lo ≤ min s.a s.b) && decide (max s.a s.b ≤ hi)
/-- The error of a defect. -/
def dcheck (d : Df) : Int :=
  bif decide (d.k < 1) || decide (6 < d.k) then 10
  else bif emB d.b then 19
  else bif !insideB d.b.x (-600) 600 || (!insideB d.b.y (-600) 600 || !insideB d.b.z 0 20000) then 9 else 0
def bmeet (p q : Bx) : Bx := ⟨meet p.x q.x, meet p.y q.y, meet p.z q.z⟩
def zeroB : Bx := ⟨⟨0, 0⟩, ⟨0, 0⟩, ⟨0, 0⟩⟩
def touchB (p q : Bx) : Bool := !emB (bmeet p q)
def mbox (p q : Bx) : Bx := bif touchB p q then bmeet p q else zeroB
def sizeD (d : Df) : Int := max (spanLen d.b.x) (spanLen d.b.y)
def backS (s : Sp) (n : Int) : Sp := ⟨IntKind.i64.wrap (s.a - n), IntKind.i64.wrap (s.b - n)⟩
def knotD (d : Df) : Bool := (d.k == 1) || (d.k == 2)
def insB (s : Sp) (lo hi : Int) : Bool := decide (lo ≤ s.a) && decide (s.b ≤ hi)
def rangedB (b : Bx) : Bool := insB b.x (-600) 600 && (insB b.y (-600) 600 && insB b.z 0 20000)
def boundedS (s : Sp) : Bool := decide (-1099511627776 ≤ s.a) && (decide (s.a ≤ 1099511627776) && (decide (-1099511627776 ≤ s.b) && decide (s.b ≤ 1099511627776)))
def byS (s : Sp) (n : Int) : Sp := ⟨IntKind.i64.wrap (s.a + n), IntKind.i64.wrap (s.b + n)⟩
def moveB (b : Bx) (x y z : Int) : Bx := ⟨byS b.x x, byS b.y y, byS b.z z⟩
def quarterB (b : Bx) : Bx := ⟨⟨IntKind.i64.wrap (0 - b.y.b), IntKind.i64.wrap (0 - b.y.a)⟩, b.x, b.z⟩
def quartersI (q : Int) : Int := IntKind.i64.wrap (q.tmod 4 + 4) |>.tmod 4
/-- The first number of a list that is not 0. -/
def firstNZ {α : Type} (f : α → Int) : List α → Int
  | [] => 0
  | a :: l => if f a = 0 then firstNZ f l else f a
theorem firstNZ_at {α : Type} {f : α → Int} : ∀ {l : List α} {k : Nat} (hk : k < l.length), (∀ d, d ∈ l.take k → f d = 0) → f l[k] ≠ 0 → firstNZ f l = f l[k]
  | a :: l, 0, _, _, h => by
    simp only [List.getElem_cons_zero] at h ⊢
    simp [firstNZ, h]
  | a :: l, k + 1, hk, hz, h => by
    have h0 : f a = 0 := hz a (by simp)
    simp only [List.getElem_cons_succ] at h ⊢
    rw [firstNZ, if_pos h0]
    exact firstNZ_at (by simpa using hk) (fun d hd => hz d (by simp [hd])) h
theorem firstNZ_zero {α : Type} {f : α → Int} : ∀ {l : List α}, (∀ d, d ∈ l → f d = 0) → firstNZ f l = 0
  | [], _ => rfl
  | a :: l, h => by
    rw [firstNZ, if_pos (h a (by simp))]
    exact firstNZ_zero fun d hd => h d (by simp [hd])
theorem firstNZ_all {α : Type} {f : α → Int} : ∀ {l : List α}, firstNZ f l = 0 → ∀ d, d ∈ l → f d = 0
  | [], _, d, hd => by simp at hd
  | a :: l, h, d, hd => by
    rw [firstNZ] at h
    split at h
    · rename_i h0
      rcases List.mem_cons.1 hd with rfl | hd
      · exact h0
      · exact firstNZ_all h d hd
    · rename_i h0; exact absurd h h0
theorem take_zero_succ {α : Type} {f : α → Int} {l : List α} {k : Nat} (hk : k < l.length) (hz : ∀ d, d ∈ l.take k → f d = 0) (h : f l[k] = 0) : ∀ d, d ∈ l.take (k + 1) → f d = 0 := by
  intro d hd
  rw [take_succ_get hk, List.mem_append] at hd
  rcases hd with hd | hd
  · exact hz d hd
  · simp at hd; rw [hd]; exact h
def checkL (l : List Df) : Int := if 64 < l.length then 4 else firstNZ dcheck l
/-- The error of a defect, as the specification says it. -/
def rdcheck (d : Df) : Int := bif decide (d.k < 1) || decide (6 < d.k) then 10 else bif emB d.b then 19 else bif !rangedB d.b then 9 else 0
theorem insideB_eq {s : Sp} (h : emS s = false) (lo hi : Int) : insideB s lo hi = insB s lo hi := by
  unfold emS at h
  have h := of_decide_eq_false h
  unfold insideB insB
  congr 1
  · exact decide_eq_decide.2 (by omega)
  · exact decide_eq_decide.2 (by omega)
theorem dcheck_eq (d : Df) : dcheck d = rdcheck d := by
  unfold dcheck rdcheck
  cases h : emB d.b
  · unfold emB at h
    simp only [Bool.or_eq_false_iff] at h
    rw [insideB_eq h.1, insideB_eq h.2.1, insideB_eq h.2.2]
    simp [rangedB]
  · simp
theorem foldl_take {α β : Type} {f : β → α → β} {a : β} {l : List α} {k : Nat} (hk : k < l.length) : (l.take (k + 1)).foldl f a = f ((l.take k).foldl f a) l[k] := by
  rw [take_succ_get hk, List.foldl_append]
  rfl
def cntF (kind n : Int) (d : Df) : Int := bif d.k == kind then IntKind.i64.wrap (n + 1) else n
def countD (l : List Df) (kind : Int) : Int := l.foldl (cntF kind) 0
def lrgF (kind n : Int) (d : Df) : Int := bif d.k == kind then max n (sizeD d) else n
def largestD (l : List Df) (kind : Int) : Int := l.foldl (lrgF kind) 0
def winF (z : Sp) (n : Int) (d : Df) : Int := bif knotD d && !emS (meet d.b.z z) then IntKind.i64.wrap (n + sizeD d) else n
def windowD (l : List Df) (z : Sp) : Int := l.foldl (winF z) 0
def zAt (d : Df) (w : Int) : Sp := ⟨IntKind.i64.wrap (IntKind.i64.wrap (d.b.z.a - w) + 1), IntKind.i64.wrap (IntKind.i64.wrap (IntKind.i64.wrap (d.b.z.a - w) + 1) + w)⟩
def worF (l : List Df) (w n : Int) (d : Df) : Int := max n (windowD l (zAt d w))
def worstD (l : List Df) (w : Int) : Int := bif (checkL l != 0) || (decide (w < 1) || decide (20000 < w)) then 0 else l.foldl (worF l w) 0
def Oks (l : List Df) : Prop := ∀ d, d ∈ l → d.ok
theorem Oks.at {l : List Df} (h : Oks l) {k : Nat} (hk : k < l.length) : (l[k]).ok := h _ (List.getElem_mem hk)
theorem meet_em (s t : Sp) : decide ((meet s t).a < (meet s t).b) = !emS (meet s t) := by
  unfold emS
  by_cases h : (meet s t).a < (meet s t).b
  · simp [h]
  · simp [h, Int.not_lt.1 h]
def backB (b q : Bx) : Bx := ⟨backS b.x q.x.a, backS b.y q.y.a, backS b.z q.z.a⟩
def clipOne (b : Bx) (d : Df) : Option Df := bif touchB d.b b then some ⟨d.k, backB (mbox d.b b) b⟩ else none
def b3 (b : Bx) : Nat → Sp
  | 0 => b.x
  | 1 => b.y
  | _ => b.z
theorem b3_succ {b : Bx} {k : Nat} (hz : ∀ i, i < k → insideB (b3 b i) (-1099511627776) 1099511627776 = true) (h : insideB (b3 b k) (-1099511627776) 1099511627776 = true) : ∀ i, i < k + 1 → insideB (b3 b i) (-1099511627776) 1099511627776 = true := by
  intro i hi
  by_cases e : i = k
  · rw [e]; exact h
  · exact hz i (by omega)
def okB (b : Bx) : Prop := ∀ i, i < 3 → insideB (b3 b i) (-1099511627776) 1099511627776 = true
instance (b : Bx) : Decidable (okB b) := inferInstanceAs (Decidable (∀ i, i < 3 → _))
def clipD (l : List Df) (b : Bx) : List Df := if checkL l = 0 ∧ okB b then l.filterMap (clipOne b) else []
theorem filterMap_take {α β : Type} {f : α → Option β} {l : List α} {k : Nat} (hk : k < l.length) : (l.take (k + 1)).filterMap f = (l.take k).filterMap f ++ (f l[k]).toList := by
  rw [take_succ_get hk, List.filterMap_append]
  cases h : f l[k] <;> simp [h]
theorem checkL_len {l : List Df} (h : checkL l = 0) : l.length ≤ 64 := by
  unfold checkL at h
  split at h
  · cases h
  · omega
theorem bounded_eq (s : Sp) : boundedS s = insideB s (-1099511627776) 1099511627776 := by
  unfold boundedS insideB
  simp only [← Bool.decide_and]
  exact decide_eq_decide.2 (by omega)
theorem okB_iff (b : Bx) : okB b ↔ boundedS b.x = true ∧ boundedS b.y = true ∧ boundedS b.z = true := by
  simp only [bounded_eq]
  constructor
  · intro h
    exact ⟨h 0 (by omega), h 1 (by omega), h 2 (by omega)⟩
  · rintro ⟨h0, h1, h2⟩ i hi
    match i, hi with
    | 0, _ => exact h0
    | 1, _ => exact h1
    | 2, _ => exact h2
theorem by_back {s t : Sp} (h : boundedS t = true) : byS s (IntKind.i64.wrap (0 - t.a)) = backS s t.a := by
  unfold boundedS at h
  simp only [Bool.and_eq_true, decide_eq_true_eq] at h
  rw [w64_id' (by omega) (by omega)]
  unfold byS backS
  rw [Int.zero_sub, ← Int.sub_eq_add_neg, ← Int.sub_eq_add_neg]
theorem move_back {p b : Bx} (h : okB b) : moveB p (IntKind.i64.wrap (0 - b.x.a)) (IntKind.i64.wrap (0 - b.y.a)) (IntKind.i64.wrap (0 - b.z.a)) = backB p b := by
  obtain ⟨h0, h1, h2⟩ := (okB_iff b).1 h
  unfold moveB backB
  rw [by_back h0, by_back h1, by_back h2]
def turn1 (d : Df) : Df := ⟨d.k, quarterB d.b⟩
def turnN : Nat → Df → Df
  | 0, d => d
  | n + 1, d => turn1 (turnN n d)
def zeroD : Df := ⟨0, zeroB⟩
def turnQ (q : Int) (d : Df) : Df := turnN (quartersI q).toNat d
def turnD (l : List Df) (q : Int) : List Df := if checkL l = 0 then l.map (turnQ q) else []
theorem quartersI_lo (q : Int) : 0 ≤ quartersI q ∧ quartersI q < 4 := by
  unfold quartersI
  have h1 := Int.lt_tmod_of_pos q (b := 4) (by omega)
  have h2 := Int.tmod_lt_of_pos q (b := 4) (by omega)
  rw [w64_id' (by omega) (by omega)]
  exact ⟨Int.tmod_nonneg _ (by omega), Int.tmod_lt_of_pos _ (by omega)⟩
theorem eqDf_iff (x y : Df) : eqA (encDf x).cells (encDf y).cells = decide (x = y) := by
  obtain ⟨k, ⟨⟨a, b⟩, ⟨c, d⟩, ⟨e, f⟩⟩⟩ := x
  obtain ⟨k', ⟨⟨a', b'⟩, ⟨c', d'⟩, ⟨e', f'⟩⟩⟩ := y
  show (k == k' && (a == a' && (b == b' && (c == c' && (d == d' && (e == e' && (f == f' && true))))))) = _
  rw [Bool.eq_iff_iff]
  simp [and_assoc]
theorem take_eq_succ {a b : List Df} {k : Nat} (ha : k < a.length) (hb : k < b.length) (h : a.take k = b.take k) (he : a[k] = b[k]) : a.take (k + 1) = b.take (k + 1) := by
  rw [take_succ_get ha, take_succ_get hb, h, he]

/-! what the functions of the packages span and defect, and their references, compute -/
theorem span_size_eq {s : Sp} (h : s.ok) : span_size_g s = spanLenU s := by
  obtain ⟨ha, hb⟩ := h
  unfold I64 at ha hb
  unfold span_size_g spanLenU
  simp only [Bool.cond_decide, WU64, wu64]
  split <;> omega
theorem span_len_eq {s : Sp} (h : s.ok) : span_Len_g s = spanLen s := by
  unfold span_Len_g span_limited_g
  rw [span_size_eq h]
  have := spanLenU_lo h
  unfold spanLen
  rw [W64_eq (by omega) (by omega)]
theorem r03_len_eq {s : Sp} (h : s.ok) : r03_Len_g s = spanLen s := by
  obtain ⟨ha, hb⟩ := h
  unfold I64 at ha hb
  unfold r03_Len_g spanLen spanLenU
  simp only [Bool.cond_decide]
  split
  · omega
  · split
    · rw [W64_eq (n := 9223372036854775807 + s.a) (by omega) (by omega)]
      split
      · omega
      · rw [W64_eq (by omega) (by omega)]; omega
    · rw [W64_eq (by omega) (by omega)]; omega
theorem span_meet_eq (a b : Sp) : span_Meet_g a b = meet a b := by unfold span_Meet_g meet; simp only [Bool.cond_decide]
theorem r03_meet_eq (a b : Sp) : r03_Meet_g a b = meet a b := by unfold r03_Meet_g meet; simp only [Bool.cond_decide]
theorem d_check_eq (d : Df) : defect_check_g d = dcheck d := by
  unfold defect_check_g dcheck letB emB insideB defect_isEmpty_g defect_inside_g emS
  grind
theorem r13_empty_eq (b : Bx) : r13_Empty_g b = emB b := by unfold r13_Empty_g emB emS; grind
theorem r13_ranged_eq (b : Bx) : r13_Ranged_g b = rangedB b := by unfold r13_Ranged_g rangedB insB r13_in_g; grind
theorem d_knot_eq (d : Df) : defect_isKnot_g d = knotD d := by unfold defect_isKnot_g knotD; grind
theorem r13_knot_eq (d : Df) : r13_Knot_g d = knotD d := by unfold r13_Knot_g knotD; grind
theorem d_size_eq {d : Df} (h : d.ok) : defect_Size_g d = sizeD d := by
  obtain ⟨_, hx, hy, _⟩ := h
  unfold defect_Size_g sizeD
  rw [span_len_eq hx, span_len_eq hy]
theorem r13_size_eq {d : Df} (h : d.ok) : r13_Size_g d = sizeD d := by
  obtain ⟨_, hx, hy, _⟩ := h
  unfold r13_Size_g sizeD
  rw [r03_len_eq hx, r03_len_eq hy]
theorem firstNZ_find {α : Type} (f : α → Int) : ∀ l : List α, firstNZ f l = (l.find? (fun e => f e != 0)).elim 0 f
  | [] => rfl
  | a :: l => by
    rw [firstNZ, List.find?_cons]
    by_cases h : f a = 0
    · simp [h, firstNZ_find f l]
    · have h' : (f a != 0) = true := by simpa using h
      rw [if_neg h, h']
      rfl
theorem d_checkL_eq {l : List Df} (hl : l.length ≤ 9223372036854775807) : defect_Check_g l = some (checkL l) := by
  unfold defect_Check_g checkL
  by_cases h : 64 < l.length
  · rw [if_pos h, decide_eq_true (by omega), cond_true]
  · have := loopO_find (step := fun q => defect_Check_s1 l q) l (fun j => ((j : Nat) : Int)) (fun e => dcheck e != 0) (fun e => Sum.inl (dcheck e)) (Sum.inr ()) (by
      intro j hj hp
      unfold defect_Check_s1
      rw [lt_nat hj, getI_at hj, cond_true, bind_some', d_check_eq, hp, cond_false, W64_succ (by omega)]) (by
      intro j hj hp
      unfold defect_Check_s1
      rw [lt_nat hj, getI_at hj, cond_true, bind_some', d_check_eq, hp, cond_true]) (by
      unfold defect_Check_s1
      rw [nlt_nat, cond_false])
    rw [show ((0 : Int)) = ((0 : Nat) : Int) from rfl, this, firstNZ_find, if_neg h, decide_eq_false (by omega), cond_false, bind_some']
    cases l.find? (fun e => dcheck e != 0) <;> rfl
theorem r13_checkL_eq {l : List Df} (hl : l.length ≤ 9223372036854775807) : r13_Check_g l = some (checkL l) := by
  unfold r13_Check_g checkL
  by_cases h : 64 < l.length
  · rw [if_pos h, decide_eq_true (by omega), cond_true]
  · have key : ∀ j (hj : j < l.length), r13_Check_s1 l (j : Int) = bif dcheck l[j] != 0 then some (Sum.inr (Sum.inl (dcheck l[j]))) else some (Sum.inl (((j + 1 : Nat)) : Int)) := by
      intro j hj
      unfold r13_Check_s1
      rw [lt_nat hj, getI_at hj, cond_true]
      simp only [bind_some', r13_empty_eq, r13_ranged_eq, W64_succ (show j < 9223372036854775807 by omega), dcheck_eq, rdcheck]
      grind
    have := loopO_find (step := fun q => r13_Check_s1 l q) l (fun j => ((j : Nat) : Int)) (fun e => dcheck e != 0) (fun e => Sum.inl (dcheck e)) (Sum.inr ()) (by
      intro j hj hp
      rw [key j hj, hp, cond_false]) (by
      intro j hj hp
      rw [key j hj, hp, cond_true]) (by
      unfold r13_Check_s1
      rw [nlt_nat, cond_false])
    rw [show ((0 : Int)) = ((0 : Nat) : Int) from rfl, this, firstNZ_find, if_neg h, decide_eq_false (by omega), cond_false, bind_some']
    cases l.find? (fun e => dcheck e != 0) <;> rfl
theorem d_count_eq {l : List Df} (kind : Int) (hl : l.length ≤ 9223372036854775807) : defect_Count_g l kind = some (countD l kind) := by
  unfold defect_Count_g countD
  rw [show ((0 : Int), (0 : Int)) = ((0 : Int), ((0 : Nat) : Int)) from rfl, loopO_fold l (cntF kind) 0 (fun s j => (s, ((j : Nat) : Int))) id (by
    intro s j hj
    simp only [defect_Count_s1]
    rw [lt_nat hj, getI_at hj, cond_true, bind_some', W64_succ (by omega), cntF]
    cases l[j].k == kind <;> rfl) (by
    intro s
    simp only [defect_Count_s1]
    rw [nlt_nat, cond_false]
    rfl)]
  rfl
theorem r13_count_eq {l : List Df} (kind : Int) (hl : l.length ≤ 9223372036854775807) : r13_Count_g l kind = some (countD l kind) := by
  unfold r13_Count_g countD
  rw [show ((0 : Int), (0 : Int)) = ((0 : Int), ((0 : Nat) : Int)) from rfl, loopO_fold l (cntF kind) 0 (fun s j => (s, ((j : Nat) : Int))) id (by
    intro s j hj
    simp only [r13_Count_s1]
    rw [lt_nat hj, getI_at hj, cond_true, bind_some', W64_succ (by omega), cntF]
    cases l[j].k == kind <;> rfl) (by
    intro s
    simp only [r13_Count_s1]
    rw [nlt_nat, cond_false]
    rfl)]
  rfl
theorem d_largest_eq {l : List Df} (kind : Int) (hl : l.length ≤ 9223372036854775807) (ho : Oks l) : defect_Largest_g l kind = some (largestD l kind) := by
  unfold defect_Largest_g largestD
  rw [show ((0 : Int), (0 : Int)) = ((0 : Int), ((0 : Nat) : Int)) from rfl, loopO_fold l (lrgF kind) 0 (fun s j => (s, ((j : Nat) : Int))) id (by
    intro s j hj
    simp only [defect_Largest_s1]
    rw [lt_nat hj, getI_at hj, cond_true, bind_some', W64_succ (by omega), lrgF, d_size_eq (ho.at hj)]
    cases l[j].k == kind <;> rfl) (by
    intro s
    simp only [defect_Largest_s1]
    rw [nlt_nat, cond_false]
    rfl)]
  rfl
theorem r13_largest_eq {l : List Df} (kind : Int) (hl : l.length ≤ 9223372036854775807) (ho : Oks l) : r13_Largest_g l kind = some (largestD l kind) := by
  unfold r13_Largest_g largestD
  rw [show ((0 : Int), (0 : Int)) = ((0 : Int), ((0 : Nat) : Int)) from rfl, loopO_fold l (lrgF kind) 0 (fun s j => (s, ((j : Nat) : Int))) id (by
    intro s j hj
    simp only [r13_Largest_s1]
    rw [lt_nat hj, getI_at hj, cond_true, bind_some', W64_succ (by omega), lrgF, bind_some', r13_size_eq (ho.at hj)]
    cases l[j].k == kind <;> rfl) (by
    intro s
    simp only [r13_Largest_s1]
    rw [nlt_nat, cond_false]
    rfl)]
  rfl
theorem d_window {l : List Df} (w : Int) (e : Df) (hl : l.length ≤ 9223372036854775807) (ho : Oks l) : loopO (fun q : Int × Int => defect_Worst_s2 l w e q.1 q.2) (0, 0) = some (windowD l (zAt e w)) := by
  unfold windowD
  rw [show ((0 : Int), (0 : Int)) = ((0 : Int), ((0 : Nat) : Int)) from rfl, loopO_fold l (winF (zAt e w)) 0 (fun s j => (s, ((j : Nat) : Int))) id (by
    intro s j hj
    simp only [defect_Worst_s2]
    rw [lt_nat hj, getI_at hj, cond_true, bind_some', W64_succ (by omega), winF, d_size_eq (ho.at hj), d_knot_eq, span_meet_eq]
    change (bif knotD l[j] then (bif !emS (meet l[j].b.z (zAt e w)) then some (Sum.inl (W64 (s + sizeD l[j]), ((j + 1 : Nat) : Int))) else some (Sum.inl (s, ((j + 1 : Nat) : Int)))) else some (Sum.inl (s, ((j + 1 : Nat) : Int)))) = _
    generalize knotD l[j] = a
    generalize emS _ = c
    cases a <;> cases c <;> rfl) (by
    intro s
    simp only [defect_Worst_s2]
    rw [nlt_nat, cond_false]
    rfl)]
  rfl
theorem d_worst_eq {l : List Df} (w : Int) (hl : l.length ≤ 9223372036854775807) (ho : Oks l) : defect_Worst_g l w = some (worstD l w) := by
  unfold defect_Worst_g worstD
  rw [d_checkL_eq hl, bind_some']
  rw [show ((0 : Int), (0 : Int)) = ((0 : Int), ((0 : Nat) : Int)) from rfl, loopO_fold l (worF l w) 0 (fun s j => (s, ((j : Nat) : Int))) id (by
    intro s j hj
    simp only [defect_Worst_s1]
    rw [lt_nat hj, getI_at hj, cond_true, bind_some', d_window w l[j] hl ho, bind_some', bind_some', W64_succ (by omega)]
    rfl) (by
    intro s
    simp only [defect_Worst_s1]
    rw [nlt_nat, cond_false]
    rfl)]
  simp only [bind_some', id]
  generalize (checkL l != 0) = a
  generalize (decide (w < 1)) = b
  generalize (decide (20000 < w)) = c
  cases a <;> cases b <;> cases c <;> rfl
theorem r13_window_eq {l : List Df} (z : Sp) (hl : l.length ≤ 9223372036854775807) (ho : Oks l) : r13_window_g l z = some (windowD l z) := by
  unfold r13_window_g windowD
  rw [show ((0 : Int), (0 : Int)) = ((0 : Int), ((0 : Nat) : Int)) from rfl, loopO_fold l (winF z) 0 (fun s j => (s, ((j : Nat) : Int))) id (by
    intro s j hj
    simp only [r13_window_s1]
    rw [lt_nat hj, getI_at hj, cond_true, bind_some', W64_succ (by omega), winF]
    simp only [letB, bind_some']
    rw [r13_size_eq (ho.at hj), r13_knot_eq, r03_meet_eq, meet_em]
    generalize knotD l[j] = a
    generalize emS _ = c
    cases a <;> cases c <;> rfl) (by
    intro s
    simp only [r13_window_s1]
    rw [nlt_nat, cond_false]
    rfl)]
  rfl
theorem r13_worst_eq {l : List Df} (w : Int) (hl : l.length ≤ 9223372036854775807) (ho : Oks l) : r13_Worst_g l w = some (worstD l w) := by
  unfold r13_Worst_g worstD
  rw [r13_checkL_eq hl, bind_some']
  rw [show ((0 : Int), (0 : Int)) = ((0 : Int), ((0 : Nat) : Int)) from rfl, loopO_fold l (worF l w) 0 (fun s j => (s, ((j : Nat) : Int))) id (by
    intro s j hj
    simp only [r13_Worst_s1]
    rw [lt_nat hj, getI_at hj, cond_true, bind_some', r13_window_eq _ hl ho, bind_some', W64_succ (by omega)]
    rfl) (by
    intro s
    simp only [r13_Worst_s1]
    rw [nlt_nat, cond_false]
    rfl)]
  simp only [bind_some', id]
  generalize (checkL l != 0) = a
  generalize (decide (w < 1)) = b
  generalize (decide (20000 < w)) = c
  cases a <;> cases b <;> cases c <;> rfl

/-! valid lists of defects, and windows -/
theorem dcheck_ok {d : Df} (h : dcheck d = 0) : 1 ≤ d.k ∧ d.k ≤ 6 ∧ d.b.x.a < d.b.x.b ∧ d.b.y.a < d.b.y.b ∧ d.b.z.a < d.b.z.b ∧ -600 ≤ d.b.x.a ∧ d.b.x.b ≤ 600 ∧ -600 ≤ d.b.y.a ∧ d.b.y.b ≤ 600 ∧ 0 ≤ d.b.z.a ∧ d.b.z.b ≤ 20000 := by
  rw [dcheck_eq] at h
  unfold rdcheck at h
  cases h1 : (decide (d.k < 1) || decide (6 < d.k)) with
  | true => rw [h1] at h; cases h
  | false =>
    cases h2 : emB d.b with
    | true => rw [h1, h2] at h; cases h
    | false =>
      cases h3 : rangedB d.b with
      | false => rw [h1, h2, h3] at h; cases h
      | true =>
        unfold emB emS at h2
        unfold rangedB insB at h3
        simp only [Bool.or_eq_false_iff, Bool.and_eq_true, decide_eq_false_iff_not, decide_eq_true_eq] at h1 h2 h3
        omega
theorem dcheck_of {d : Df} (h : 1 ≤ d.k ∧ d.k ≤ 6 ∧ d.b.x.a < d.b.x.b ∧ d.b.y.a < d.b.y.b ∧ d.b.z.a < d.b.z.b ∧ -600 ≤ d.b.x.a ∧ d.b.x.b ≤ 600 ∧ -600 ≤ d.b.y.a ∧ d.b.y.b ≤ 600 ∧ 0 ≤ d.b.z.a ∧ d.b.z.b ≤ 20000) : dcheck d = 0 := by
  rw [dcheck_eq]
  unfold rdcheck emB emS rangedB insB
  grind
theorem checkL_iff {l : List Df} : checkL l = 0 ↔ l.length ≤ 64 ∧ ∀ d ∈ l, dcheck d = 0 := by
  unfold checkL
  constructor
  · intro h
    split at h
    · cases h
    · exact ⟨by omega, firstNZ_all h⟩
  · rintro ⟨h1, h2⟩
    rw [if_neg (by omega)]
    exact firstNZ_zero h2
theorem sizeD_valid {d : Df} (h : dcheck d = 0) : sizeD d = max (d.b.x.b - d.b.x.a) (d.b.y.b - d.b.y.a) := by
  have := dcheck_ok h
  unfold sizeD spanLen spanLenU
  rw [if_neg (by omega), if_neg (by omega)]
  omega
theorem sizeD_lo {d : Df} (h : dcheck d = 0) : 1 ≤ sizeD d ∧ sizeD d ≤ 1200 := by
  have := dcheck_ok h
  rw [sizeD_valid h]
  omega
theorem em_meet {s t : Sp} : (!emS (meet s t)) = decide (max s.a t.a < min s.b t.b) := by
  unfold emS meet
  by_cases h : min s.b t.b ≤ max s.a t.a
  · rw [if_pos h, decide_eq_false (show ¬ max s.a t.a < min s.b t.b by omega)]
    rfl
  · rw [if_neg h, decide_eq_true (show max s.a t.a < min s.b t.b by omega)]
    dsimp only
    rw [decide_eq_false h]
    rfl
/-- What a defect counts in a window. -/
def winC (z : Sp) (d : Df) : Int := bif knotD d && !emS (meet d.b.z z) then sizeD d else 0
def winP (l : List Df) (z : Sp) : Int := (l.map (winC z)).sum
theorem winC_lo {d : Df} (h : dcheck d = 0) (z : Sp) : 0 ≤ winC z d ∧ winC z d ≤ sizeD d ∧ winC z d ≤ 1200 := by
  have := sizeD_lo h
  unfold winC
  generalize (knotD d && !emS (meet d.b.z z)) = c
  cases c
  · simp only [cond_false]; omega
  · simp only [cond_true]; omega
theorem sum_lo {α : Type} {f : α → Int} {c : Int} (hc : 0 ≤ c) : ∀ {l : List α}, (∀ d ∈ l, 0 ≤ f d ∧ f d ≤ c) → 0 ≤ (l.map f).sum ∧ (l.map f).sum ≤ c * l.length
  | [], _ => by simp
  | a :: l, h => by
    have h1 := h a (by simp)
    have h2 := sum_lo hc (l := l) fun d hd => h d (by simp [hd])
    simp only [List.map_cons, List.sum_cons, List.length_cons]
    rw [Int.natCast_add, Int.mul_add]
    omega
theorem winP_lo {l : List Df} (h : ∀ d ∈ l, dcheck d = 0) (z : Sp) : 0 ≤ winP l z ∧ winP l z ≤ 1200 * l.length :=
  sum_lo (by omega) fun d hd => ⟨(winC_lo (h d hd) z).1, (winC_lo (h d hd) z).2.2⟩
theorem window_fold (z : Sp) : ∀ (l : List Df) (n : Int), (∀ d ∈ l, dcheck d = 0) → 0 ≤ n → n + 1200 * l.length ≤ 9223372036854775807 → l.foldl (winF z) n = n + winP l z
  | [], n, _, _, _ => by simp [winP]
  | a :: l, n, h, h0, h1 => by
    have ha := winC_lo (h a (by simp)) z
    have e : winF z n a = n + winC z a := by
      unfold winF winC
      cases hc : (knotD a && !emS (meet a.b.z z)) with
      | false => simp
      | true =>
        unfold winC at ha
        rw [hc, cond_true] at ha
        simp only [cond_true]
        rw [List.length_cons] at h1
        exact w64_id' (by omega) (by omega)
    rw [List.length_cons] at h1
    rw [List.foldl_cons, e, window_fold z l (n + winC z a) (fun d hd => h d (by simp [hd])) (by omega) (by omega)]
    simp only [winP, List.map_cons, List.sum_cons]
    omega
theorem windowD_eq {l : List Df} (h : checkL l = 0) (z : Sp) : windowD l z = winP l z := by
  obtain ⟨h1, h2⟩ := checkL_iff.1 h
  unfold windowD
  rw [window_fold z l 0 h2 (by omega) (by omega)]
  omega
/-- The greatest value of a function on a list, at least 0. -/
def maxF {α : Type} (f : α → Int) (l : List α) : Int := l.foldl (fun n d => max n (f d)) 0
theorem foldmax_le {α : Type} {f : α → Int} {c : Int} : ∀ {l : List α} {n : Int}, l.foldl (fun n d => max n (f d)) n ≤ c ↔ n ≤ c ∧ ∀ d ∈ l, f d ≤ c
  | [], n => by simp
  | a :: l, n => by
    rw [List.foldl_cons, foldmax_le]
    simp only [List.mem_cons, forall_eq_or_imp]
    rw [show max n (f a) ≤ c ↔ n ≤ c ∧ f a ≤ c by omega, and_assoc]
theorem maxF_le {α : Type} {f : α → Int} {c : Int} {l : List α} : maxF f l ≤ c ↔ 0 ≤ c ∧ ∀ d ∈ l, f d ≤ c := foldmax_le
theorem maxF_nn {α : Type} (f : α → Int) (l : List α) : 0 ≤ maxF f l := (maxF_le.1 (Int.le_refl _)).1
theorem le_maxF {α : Type} {f : α → Int} {l : List α} {d : α} (h : d ∈ l) : f d ≤ maxF f l := (maxF_le.1 (Int.le_refl _)).2 d h
/-- The window that ends at the beginning of a defect. -/
def zEnd (d : Df) (w : Int) : Sp := ⟨d.b.z.a - w + 1, d.b.z.a + 1⟩
theorem zAt_eq {d : Df} {w : Int} (h : dcheck d = 0) (h1 : 1 ≤ w) (h2 : w ≤ 20000) : zAt d w = zEnd d w := by
  have := dcheck_ok h
  unfold zAt zEnd
  rw [w64_id' (n := d.b.z.a - w) (by omega) (by omega), w64_id' (n := d.b.z.a - w + 1) (by omega) (by omega), w64_id' (by omega) (by omega)]
  congr 1
  omega
def worstP (l : List Df) (w : Int) : Int := maxF (fun d => winP l (zEnd d w)) l
theorem foldl_congr_mem {α β : Type} {f g : β → α → β} : ∀ {l : List α} {n : β}, (∀ n, ∀ d ∈ l, f n d = g n d) → l.foldl f n = l.foldl g n
  | [], _, _ => rfl
  | a :: l, n, h => by
    rw [List.foldl_cons, List.foldl_cons, h n a (by simp)]
    exact foldl_congr_mem fun n d hd => h n d (by simp [hd])
theorem worstD_eq {l : List Df} {w : Int} (h : checkL l = 0) (h1 : 1 ≤ w) (h2 : w ≤ 20000) : worstD l w = worstP l w := by
  unfold worstD worstP maxF
  rw [h, decide_eq_false (by omega), decide_eq_false (by omega)]
  refine foldl_congr_mem fun n d hd => ?_
  unfold worF
  rw [windowD_eq h, zAt_eq ((checkL_iff.1 h).2 d hd) h1 h2]
theorem worstP_lo {l : List Df} (h : checkL l = 0) (w : Int) : 0 ≤ worstP l w ∧ worstP l w ≤ 76800 := by
  obtain ⟨h1, h2⟩ := checkL_iff.1 h
  refine ⟨maxF_nn _ _, maxF_le.2 ⟨by omega, fun d hd => ?_⟩⟩
  have := winP_lo h2 (zEnd d w)
  omega
theorem winC_eq (z : Sp) (d : Df) : winC z d = if knotD d = true ∧ max d.b.z.a z.a < min d.b.z.b z.b then sizeD d else 0 := by
  unfold winC
  rw [em_meet]
  by_cases h1 : knotD d = true <;> by_cases h2 : max d.b.z.a z.a < min d.b.z.b z.b <;> simp [h1, h2]
theorem sum_mono {α : Type} {f g : α → Int} : ∀ {l : List α}, (∀ d ∈ l, f d ≤ g d) → (l.map f).sum ≤ (l.map g).sum
  | [], _ => by simp
  | a :: l, h => by
    simp only [List.map_cons, List.sum_cons]
    have := sum_mono (l := l) fun d hd => h d (by simp [hd])
    have := h a (by simp)
    omega
theorem sum_zero {α : Type} {f : α → Int} : ∀ {l : List α}, (∀ d ∈ l, f d = 0) → (l.map f).sum = 0
  | [], _ => by simp
  | a :: l, h => by
    simp only [List.map_cons, List.sum_cons]
    rw [sum_zero fun d hd => h d (by simp [hd]), h a (by simp)]
    omega
/-- Among some elements there is one with the greatest value. -/
theorem exists_max {α : Type} (p : α → Prop) (v : α → Int) : ∀ (l : List α), (∃ d ∈ l, p d) → ∃ d ∈ l, p d ∧ ∀ e ∈ l, p e → v e ≤ v d
  | [], h => by simp at h
  | a :: l, h => by
    by_cases hl : ∃ d ∈ l, p d
    · obtain ⟨d, hd, hp, hm⟩ := exists_max p v l hl
      by_cases ha : p a ∧ v d ≤ v a
      · refine ⟨a, by simp, ha.1, fun e he hpe => ?_⟩
        rcases List.mem_cons.1 he with rfl | he
        · omega
        · have := hm e he hpe; omega
      · refine ⟨d, by simp [hd], hp, fun e he hpe => ?_⟩
        rcases List.mem_cons.1 he with rfl | he
        · by_cases hv : v d ≤ v e
          · exact absurd ⟨hpe, hv⟩ ha
          · omega
        · exact hm e he hpe
    · obtain ⟨d, hd, hp⟩ := h
      rcases List.mem_cons.1 hd with rfl | hd
      · refine ⟨d, by simp, hp, fun e he hpe => ?_⟩
        rcases List.mem_cons.1 he with rfl | he
        · omega
        · exact absurd ⟨e, he, hpe⟩ hl
      · exact absurd ⟨d, hd, hp⟩ hl
/-- No window of at most a length has more than the worst one of that length. -/
theorem win_le_worst {l : List Df} (h : checkL l = 0) {z : Sp} {w : Int} (hw : z.b - z.a ≤ w) : winP l z ≤ worstP l w := by
  obtain ⟨h1, h2⟩ := checkL_iff.1 h
  by_cases hx : ∃ d ∈ l, knotD d = true ∧ max d.b.z.a z.a < min d.b.z.b z.b
  · obtain ⟨d, hd, hp, hm⟩ := exists_max (fun d => knotD d = true ∧ max d.b.z.a z.a < min d.b.z.b z.b) (fun d => d.b.z.a) l hx
    refine Int.le_trans ?_ (le_maxF (f := fun d => winP l (zEnd d w)) hd)
    refine sum_mono fun e he => ?_
    have hv := h2 e he
    have hs := sizeD_lo hv
    have hc := winC_lo hv (zEnd d w)
    rw [winC_eq z e]
    split
    · rename_i hq
      have := hm e he hq
      have hve := dcheck_ok hv
      have hvd := dcheck_ok (h2 d hd)
      have hg : max e.b.z.a (zEnd d w).a < min e.b.z.b (zEnd d w).b := by
        unfold zEnd
        dsimp only at *
        omega
      rw [winC_eq, if_pos ⟨hq.1, hg⟩]
      exact Int.le_refl _
    · omega
  · have : winP l z = 0 := sum_zero fun d hd => by
      rw [winC_eq, if_neg]
      exact fun hq => hx ⟨d, hd, hq⟩
    rw [this]
    exact maxF_nn _ _
theorem worst_mono_w {l : List Df} (h : checkL l = 0) {v w : Int} (hvw : v ≤ w) : worstP l v ≤ worstP l w := by
  refine maxF_le.2 ⟨maxF_nn _ _, fun d hd => win_le_worst h ?_⟩
  unfold zEnd
  dsimp only
  omega
theorem winP_snoc (l : List Df) (d : Df) (z : Sp) : winP (l ++ [d]) z = winP l z + winC z d := by
  unfold winP
  rw [List.map_append, List.sum_append]
  simp
theorem checkL_snoc {l : List Df} {d : Df} (h : checkL (l ++ [d]) = 0) : checkL l = 0 ∧ dcheck d = 0 := by
  obtain ⟨h1, h2⟩ := checkL_iff.1 h
  rw [List.length_append] at h1
  exact ⟨checkL_iff.2 ⟨by omega, fun e he => h2 e (by simp [he])⟩, h2 d (by simp)⟩
theorem worst_snoc {l : List Df} {d : Df} (h : checkL (l ++ [d]) = 0) (w : Int) : worstP l w ≤ worstP (l ++ [d]) w := by
  obtain ⟨_, hd⟩ := checkL_snoc h
  refine maxF_le.2 ⟨maxF_nn _ _, fun e he => ?_⟩
  refine Int.le_trans ?_ (le_maxF (f := fun e => winP (l ++ [d]) (zEnd e w)) (List.mem_append_left [d] he))
  rw [winP_snoc]
  have := (winC_lo hd (zEnd e w)).1
  omega
theorem worst_snoc_not {l : List Df} {d : Df} (h : checkL (l ++ [d]) = 0) (hk : knotD d = false) (w : Int) : worstP (l ++ [d]) w = worstP l w := by
  have hz : ∀ z, winC z d = 0 := fun z => by unfold winC; rw [hk]; rfl
  refine Int.le_antisymm (maxF_le.2 ⟨maxF_nn _ _, fun e he => ?_⟩) (worst_snoc h w)
  rw [winP_snoc, hz, Int.add_zero]
  refine win_le_worst (checkL_snoc h).1 ?_
  unfold zEnd
  dsimp only
  omega

end Go.Proofs.Ytbgoflekklfdjaa
