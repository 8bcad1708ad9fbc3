/- C2: what functions of the program compute (written by mod.py). -/
import Derived.Test.YtpoehckffpbfiaaGreatXAC1
import Derived.KernelRfl
namespace Go.Proofs.YtpoehckffpbfiaaGreat
open Go Go.Ab
set_option linter.unusedSimpArgs false
set_option linter.unusedVariables false
set_option linter.unusedSectionVars false
set_option maxRecDepth 20000
set_option maxHeartbeats 1000000
def emS (s : Sp) : Bool := decide (s.b ≤ s.a)
def emB (b : Bx) : Bool := emS b.x || (emS b.y || emS b.z)
def insideB (s : Sp) (lo hi : Int) : Bool := decide (lo ≤ min s.a s.b) && decide (max s.a s.b ≤ hi)
def dcheck (d : Df) : Int :=
 bif decide (d.k < 1) || decide (6 < d.k) then 10
 else bif emB d.b then 19
 else bif !insideB d.b.x (-600) 600 || (!insideB d.b.y (-600) 600 || !insideB d.b.z 0 20000) then 9 else 0
def bmeet (p q : Bx) : Bx := ⟨meet p.x q.x, meet p.y q.y, meet p.z q.z⟩
def zeroB : Bx := ⟨⟨0, 0⟩, ⟨0, 0⟩, ⟨0, 0⟩⟩
def touchB (p q : Bx) : Bool := !emB (bmeet p q)
def mbox (p q : Bx) : Bx := bif touchB p q then bmeet p q else zeroB
def backS (s : Sp) (n : Int) : Sp := ⟨IntKind.i64.wrap (s.a - n), IntKind.i64.wrap (s.b - n)⟩
def insB (s : Sp) (lo hi : Int) : Bool := decide (lo ≤ s.a) && decide (s.b ≤ hi)
def rangedB (b : Bx) : Bool := insB b.x (-600) 600 && (insB b.y (-600) 600 && insB b.z 0 20000)
def firstNZ {α : Type} (f : α → Int) : List α → Int
 | [] => 0
 | a :: l => if f a = 0 then firstNZ f l else f a
theorem firstNZ_zero {α : Type} {f : α → Int} : ∀ {l : List α}, (∀ d, d ∈ l → f d = 0) → firstNZ f l = 0
 | [], _ => rfl
 | a :: l, h => by
  rw [firstNZ, if_pos (h a (by simp))]
  exact firstNZ_zero fun d hd => h d (by simp [hd])
theorem firstNZ_all {α : Type} {f : α → Int} : ∀ {l : List α}, firstNZ f l = 0 → ∀ d, d ∈ l → f d = 0
 | [], _, d, hd => by simp at hd
 | a :: l, h, d, hd => by
  rw [firstNZ] at h
  split at h
  ·rename_i h0
   rcases List.mem_cons.1 hd with rfl | hd
   ·exact h0
   ·exact firstNZ_all h d hd
  ·rename_i h0; exact absurd h h0
def checkL (l : List Df) : Int := if 64 < l.length then 4 else firstNZ dcheck l
def rdcheck (d : Df) : Int := bif decide (d.k < 1) || decide (6 < d.k) then 10 else bif emB d.b then 19 else bif !rangedB d.b then 9 else 0
theorem insideB_eq {s : Sp} (h : emS s = false) (lo hi : Int) : insideB s lo hi = insB s lo hi := by
 unfold emS at h
 have h := of_decide_eq_false h
 unfold insideB insB
 congr 1
 ·exact decide_eq_decide.2 (by omega)
 ·exact decide_eq_decide.2 (by omega)
theorem dcheck_eq (d : Df) : dcheck d = rdcheck d := by
 unfold dcheck rdcheck
 cases h : emB d.b
 ·unfold emB at h
  simp only [Bool.or_eq_false_iff] at h
  rw [insideB_eq h.1, insideB_eq h.2.1, insideB_eq h.2.2]
  simp [rangedB]
 ·simp
def Oks (l : List Df) : Prop := ∀ d, d ∈ l → d.ok
theorem Oks.at {l : List Df} (h : Oks l) {k : Nat} (hk : k < l.length) : (l[k]).ok := h _ (List.getElem_mem hk)
def backB (b q : Bx) : Bx := ⟨backS b.x q.x.a, backS b.y q.y.a, backS b.z q.z.a⟩
def clipOne (b : Bx) (d : Df) : Option Df := bif touchB d.b b then some ⟨d.k, backB (mbox d.b b) b⟩ else none
def b3 (b : Bx) : Nat → Sp
 | 0 => b.x
 | 1 => b.y
 | _ => b.z
def okB (b : Bx) : Prop := ∀ i, i < 3 → insideB (b3 b i) (-1099511627776) 1099511627776 = true
instance (b : Bx) : Decidable (okB b) := inferInstanceAs (Decidable (∀ i, i < 3 → _))
def clipD (l : List Df) (b : Bx) : List Df := if checkL l = 0 ∧ okB b then l.filterMap (clipOne b) else []
theorem checkL_len {l : List Df} (h : checkL l = 0) : l.length ≤ 64 := by
 unfold checkL at h
 split at h
 ·cases h
 ·omega
theorem span_meet_eq (a b : Sp) : span_Meet_g a b = meet a b := by unfold span_Meet_g meet; simp only [Bool.cond_decide]
theorem d_check_eq (d : Df) : defect_check_g d = dcheck d := by
 unfold defect_check_g dcheck letB emB insideB defect_isEmpty_g defect_inside_g emS
 grind
theorem r13_empty_eq (b : Bx) : r13_Empty_g b = emB b := by unfold r13_Empty_g emB emS; grind
theorem r13_ranged_eq (b : Bx) : r13_Ranged_g b = rangedB b := by unfold r13_Ranged_g rangedB insB r13_in_g; grind
theorem firstNZ_find {α : Type} (f : α → Int) : ∀ l : List α, firstNZ f l = (l.find? (fun e => f e != 0)).elim 0 f
 | [] => rfl
 | a :: l => by
  rw [firstNZ, List.find?_cons]
  by_cases h : f a = 0
  ·simp [h, firstNZ_find f l]
  ·have h' : (f a != 0) = true := by simpa using h
   rw [if_neg h, h']
   rfl
theorem d_checkL_eq {l : List Df} (hl : l.length ≤ 9223372036854775807) : defect_Check_g l = some (checkL l) := by
 unfold defect_Check_g checkL
 by_cases h : 64 < l.length
 ·rw [if_pos h, decide_eq_true (by omega), cond_true]
 ·have := loopO_find (step := fun q => defect_Check_s1 l q) l (fun j => ((j : Nat) : Int)) (fun e => dcheck e != 0) (fun e => Sum.inl (dcheck e)) (Sum.inr ()) (by
   intro j hj hp
   unfold defect_Check_s1
   rw [lt_nat hj, getI_at hj, cond_true, bind_some', d_check_eq, hp, cond_false, W64_succ (by omega)]) (by
   intro j hj hp
   unfold defect_Check_s1
   rw [lt_nat hj, getI_at hj, cond_true, bind_some', d_check_eq, hp, cond_true]) (by
   unfold defect_Check_s1
   rw [nlt_nat, cond_false])
  rw [show ((0 : Int)) = ((0 : Nat) : Int) from rfl, this, firstNZ_find, if_neg h, decide_eq_false (by omega), cond_false, bind_some']
  cases l.find? (fun e => dcheck e != 0) <;> rfl
theorem r13_checkL_eq {l : List Df} (hl : l.length ≤ 9223372036854775807) : r13_Check_g l = some (checkL l) := by
 unfold r13_Check_g checkL
 by_cases h : 64 < l.length
 ·rw [if_pos h, decide_eq_true (by omega), cond_true]
 ·have key : ∀ j (hj : j < l.length), r13_Check_s1 l (j : Int) = bif dcheck l[j] != 0 then some (Sum.inr (Sum.inl (dcheck l[j]))) else some (Sum.inl (((j + 1 : Nat)) : Int)) := by
   intro j hj
   unfold r13_Check_s1
   rw [lt_nat hj, getI_at hj, cond_true]
   simp only [bind_some', r13_empty_eq, r13_ranged_eq, W64_succ (show j < 9223372036854775807 by omega), dcheck_eq, rdcheck]
   grind
  have := loopO_find (step := fun q => r13_Check_s1 l q) l (fun j => ((j : Nat) : Int)) (fun e => dcheck e != 0) (fun e => Sum.inl (dcheck e)) (Sum.inr ()) (by
   intro j hj hp
   rw [key j hj, hp, cond_false]) (by
   intro j hj hp
   rw [key j hj, hp, cond_true]) (by
   unfold r13_Check_s1
   rw [nlt_nat, cond_false])
  rw [show ((0 : Int)) = ((0 : Nat) : Int) from rfl, this, firstNZ_find, if_neg h, decide_eq_false (by omega), cond_false, bind_some']
  cases l.find? (fun e => dcheck e != 0) <;> rfl
theorem dcheck_ok {d : Df} (h : dcheck d = 0) : 1 ≤ d.k ∧ d.k ≤ 6 ∧ d.b.x.a < d.b.x.b ∧ d.b.y.a < d.b.y.b ∧ d.b.z.a < d.b.z.b ∧ -600 ≤ d.b.x.a ∧ d.b.x.b ≤ 600 ∧ -600 ≤ d.b.y.a ∧ d.b.y.b ≤ 600 ∧ 0 ≤ d.b.z.a ∧ d.b.z.b ≤ 20000 := by
 rw [dcheck_eq] at h
 unfold rdcheck at h
 cases h1 : (decide (d.k < 1) || decide (6 < d.k)) with
 | true => rw [h1] at h; cases h
 | false =>
  cases h2 : emB d.b with
  | true => rw [h1, h2] at h; cases h
  | false =>
   cases h3 : rangedB d.b with
   | false => rw [h1, h2, h3] at h; cases h
   | true =>
    unfold emB emS at h2
    unfold rangedB insB at h3
    simp only [Bool.or_eq_false_iff, Bool.and_eq_true, decide_eq_false_iff_not, decide_eq_true_eq] at h1 h2 h3
    omega
theorem dcheck_of {d : Df} (h : 1 ≤ d.k ∧ d.k ≤ 6 ∧ d.b.x.a < d.b.x.b ∧ d.b.y.a < d.b.y.b ∧ d.b.z.a < d.b.z.b ∧ -600 ≤ d.b.x.a ∧ d.b.x.b ≤ 600 ∧ -600 ≤ d.b.y.a ∧ d.b.y.b ≤ 600 ∧ 0 ≤ d.b.z.a ∧ d.b.z.b ≤ 20000) : dcheck d = 0 := by
 rw [dcheck_eq]
 unfold rdcheck emB emS rangedB insB
 grind
theorem checkL_iff {l : List Df} : checkL l = 0 ↔ l.length ≤ 64 ∧ ∀ d ∈ l, dcheck d = 0 := by
 unfold checkL
 constructor
 ·intro h
  split at h
  ·cases h
  ·exact ⟨by omega, firstNZ_all h⟩
 ·rintro ⟨h1, h2⟩
  rw [if_neg (by omega)]
  exact firstNZ_zero h2
theorem em_meet {s t : Sp} : (!emS (meet s t)) = decide (max s.a t.a < min s.b t.b) := by
 unfold emS meet
 by_cases h : min s.b t.b ≤ max s.a t.a
 ·rw [if_pos h, decide_eq_false (show ¬ max s.a t.a < min s.b t.b by omega)]
  rfl
 ·rw [if_neg h, decide_eq_true (show max s.a t.a < min s.b t.b by omega)]
  dsimp only
  rw [decide_eq_false h]
  rfl
theorem d_meet_eq (p q : Bx) : defect_meet_g p q = (mbox p q, touchB p q) := by
 unfold defect_meet_g
 simp only [letB, span_meet_eq, defect_isEmpty_g]
 have e : ∀ s : Sp, decide (s.b ≤ s.a) = emS s := fun _ => rfl
 simp only [e]
 unfold mbox touchB emB bmeet zeroB
 dsimp only
 cases emS (meet p.x q.x) <;> cases emS (meet p.y q.y) <;> cases emS (meet p.z q.z) <;> rfl
theorem d_inside_eq (s : Sp) (lo hi : Int) : defect_inside_g s lo hi = insideB s lo hi := by
 unfold defect_inside_g insideB
 simp only [Bool.cond_false_right]
theorem b3_all (b : Bx) : ((List.range 3).all fun j => insideB (b3 b j) (-1099511627776) 1099511627776) = decide (okB b) := by
 rw [Bool.eq_iff_iff, List.all_eq_true, decide_eq_true_eq]
 unfold okB
 constructor
 ·intro h i hi
  exact h i (List.mem_range.2 hi)
 ·intro h i hi
  exact h i (List.mem_range.1 hi)
theorem foldl_opt {α β : Type} (g : α → Option β) : ∀ (l : List α) (s : List β), l.foldl (fun s e => s ++ (g e).toList) s = s ++ l.filterMap g
 | [], s => by simp
 | a :: l, s => by
  rw [List.foldl_cons, foldl_opt g l]
  cases h : g a <;> simp [h]
theorem d_clip_eq {l : List Df} (b : Bx) (hl : l.length ≤ 9223372036854775807) : defect_Clip_g l b = some (clipD l b) := by
 unfold defect_Clip_g clipD
 rw [d_checkL_eq hl, bind_some']
 by_cases hc : checkL l = 0
 ·have hlen := checkL_len hc
  rw [show (checkL l != 0) = false by simp [hc], cond_false]
  rw [show (0 : Int) = ((0 : Nat) : Int) from rfl, loopO_allN 3 (fun j => ((j : Nat) : Int)) (fun j => insideB (b3 b j) (-1099511627776) 1099511627776) ([] : List Df) (by
   intro j hj
   unfold defect_Clip_s1
   rw [decide_eq_true (show (j : Int) < 3 by omega), cond_true, show getI [b.x, b.y, b.z] (j : Int) = some (b3 b j) by
    match j, hj with
    | 0, _ => rfl
    | 1, _ => rfl
    | 2, _ => rfl, bind_some', d_inside_eq, W64_succ (by omega)]
   cases insideB (b3 b j) (-1099511627776) 1099511627776 <;> rfl) (by rfl), b3_all]
  by_cases hb : okB b
  ·rw [if_pos ⟨hc, hb⟩, decide_eq_true hb]
   simp only [cond_true, bind_some', Sum.elim_inr]
   rw [loopO_foldI l (fun s e => s ++ (clipOne b e).toList) [] (fun s j => (s, ((j : Nat) : Int))) id (fun j s => s.length ≤ j) (by simp) (by
    intro j s hj hs
    have : (clipOne b l[j]).toList.length ≤ 1 := by cases clipOne b l[j] <;> simp
    rw [List.length_append]
    omega) (by
    intro s j hj hs
    simp only [defect_Clip_s2]
    rw [lt_nat hj, getI_at hj, cond_true, bind_some', d_meet_eq, W64_succ (by omega)]
    simp only [letB]
    unfold clipOne
    cases ht : touchB l[j].b b with
    | false => simp
    | true =>
     simp only [cond_true]
     rw [appO_eq (by simp; omega) (by simp; omega)]
     rfl) (by
    intro s hs
    simp only [defect_Clip_s2]
    rw [nlt_nat]
    rfl), foldl_opt]
   simp
  ·rw [if_neg (fun h => hb h.2), decide_eq_false hb]
   rfl
 ·rw [show (checkL l != 0) = true by simpa using hc, cond_true, if_neg (fun h => hc h.1)]
def tch (s t : Sp) : Prop := max s.a t.a < min s.b t.b
instance (s t : Sp) : Decidable (tch s t) := inferInstanceAs (Decidable (_ < _))
def tchB (p q : Bx) : Prop := tch p.x q.x ∧ tch p.y q.y ∧ tch p.z q.z
instance (p q : Bx) : Decidable (tchB p q) := inferInstanceAs (Decidable (_ ∧ _))
def cut1 (s t : Sp) : Sp := ⟨max s.a t.a - t.a, min s.b t.b - t.a⟩
def cutB (p q : Bx) : Bx := ⟨cut1 p.x q.x, cut1 p.y q.y, cut1 p.z q.z⟩
theorem touchB_iff (p q : Bx) : touchB p q = decide (tchB p q) := by
 unfold touchB emB bmeet
 simp only [Bool.not_or, em_meet]
 unfold tchB tch
 rw [Bool.eq_iff_iff]
 simp only [Bool.and_eq_true, decide_eq_true_eq]
 exact decide_eq_true_iff.symm
theorem back_meet {s t : Sp} (h : tch s t) (ht : insideB t (-1099511627776) 1099511627776 = true) (hs : -20000 ≤ s.a ∧ s.b ≤ 20000) : backS (meet s t) t.a = cut1 s t := by
 unfold tch at h
 unfold insideB at ht
 simp only [Bool.and_eq_true, decide_eq_true_eq] at ht
 unfold meet backS cut1
 rw [if_neg (by omega), w64_id' (by dsimp only; omega) (by dsimp only; omega), w64_id' (by dsimp only; omega) (by dsimp only; omega)]
theorem clipOne_eq {b : Bx} {d : Df} (hb : okB b) (hd : dcheck d = 0) : clipOne b d = if tchB d.b b then some ⟨d.k, cutB d.b b⟩ else none := by
 have hv := dcheck_ok hd
 unfold clipOne mbox
 rw [touchB_iff]
 by_cases h : tchB d.b b
 ·rw [decide_eq_true h, cond_true, if_pos h, cond_true]
  unfold backB bmeet cutB
  dsimp only
  rw [back_meet h.1 (hb 0 (by omega)) (by omega), back_meet h.2.1 (hb 1 (by omega)) (by omega), back_meet h.2.2 (hb 2 (by omega)) (by omega)]
 ·rw [decide_eq_false h, cond_false, if_neg h]
structure FitsB (b : Bx) : Prop where
 x : -600 ≤ b.x.a ∧ b.x.a < b.x.b ∧ b.x.b ≤ 600
 y : -600 ≤ b.y.a ∧ b.y.a < b.y.b ∧ b.y.b ≤ 600
 z : 0 ≤ b.z.a ∧ b.z.a < b.z.b ∧ b.z.b ≤ 20000
 w : b.x.b - b.x.a ≤ 600 ∧ b.y.b - b.y.a ≤ 600
theorem okB_of {b : Bx} (hx : -1099511627776 ≤ min b.x.a b.x.b ∧ max b.x.a b.x.b ≤ 1099511627776) (hy : -1099511627776 ≤ min b.y.a b.y.b ∧ max b.y.a b.y.b ≤ 1099511627776) (hz : -1099511627776 ≤ min b.z.a b.z.b ∧ max b.z.a b.z.b ≤ 1099511627776) : okB b := by
 intro i hi
 match i, hi with
 | 0, _ => simp [b3, insideB, hx]
 | 1, _ => simp [b3, insideB, hy]
 | 2, _ => simp [b3, insideB, hz]
theorem FitsB.ok {b : Bx} (h : FitsB b) : okB b := okB_of (by have := h.x; omega) (by have := h.y; omega) (by have := h.z; omega)
theorem cut_valid {b : Bx} {d : Df} (hb : FitsB b) (hd : dcheck d = 0) (ht : tchB d.b b) : dcheck ⟨d.k, cutB d.b b⟩ = 0 := by
 have hv := dcheck_ok hd
 obtain ⟨h1, h2, h3⟩ := ht
 obtain ⟨x, y, z, w⟩ := hb
 unfold tch at h1 h2 h3
 apply dcheck_of
 unfold cutB cut1
 dsimp only
 omega
theorem clip_mem {l : List Df} {b : Bx} (hc : checkL l = 0) (hb : okB b) {d : Df} (h : d ∈ l.filterMap (clipOne b)) : ∃ e ∈ l, tchB e.b b ∧ d = ⟨e.k, cutB e.b b⟩ := by
 obtain ⟨e, he, hd⟩ := List.mem_filterMap.1 h
 rw [clipOne_eq hb ((checkL_iff.1 hc).2 e he)] at hd
 split at hd
 ·rename_i ht
  cases hd
  exact ⟨e, he, ht, rfl⟩
 ·cases hd
theorem clip_check {l : List Df} {b : Bx} (hc : checkL l = 0) (hb : FitsB b) : checkL (l.filterMap (clipOne b)) = 0 := by
 refine checkL_iff.2 ⟨Nat.le_trans (List.length_filterMap_le _ _) (checkL_iff.1 hc).1, fun d hd => ?_⟩
 obtain ⟨e, he, ht, rfl⟩ := clip_mem hc hb.ok hd
 exact cut_valid hb ((checkL_iff.1 hc).2 e he) ht
end Go.Proofs.YtpoehckffpbfiaaGreat
