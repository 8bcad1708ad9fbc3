/- C2: what functions of the program compute (written by mod.py). -/
import Derived.Test.YtpoehckffpbfiaaGreatXCC1
import Derived.KernelRfl
namespace Go.Proofs.YtpoehckffpbfiaaGreat
open Go Go.Ab
set_option linter.unusedSimpArgs false
set_option linter.unusedVariables false
set_option linter.unusedSectionVars false
set_option maxRecDepth 20000
set_option maxHeartbeats 1000000
def emS (s : Sp) : Bool := decide (s.b ≤ s.a)
def emB (b : Bx) : Bool := emS b.x || (emS b.y || emS b.z)
def insideB (s : Sp) (lo hi : Int) : Bool := decide (lo ≤ min s.a s.b) && decide (max s.a s.b ≤ hi)
def dcheck (d : Df) : Int :=
 bif decide (d.k < 1) || decide (6 < d.k) then 10
 else bif emB d.b then 19
 else bif !insideB d.b.x (-600) 600 || (!insideB d.b.y (-600) 600 || !insideB d.b.z 0 20000) then 9 else 0
def backS (s : Sp) (n : Int) : Sp := ⟨IntKind.i64.wrap (s.a - n), IntKind.i64.wrap (s.b - n)⟩
def insB (s : Sp) (lo hi : Int) : Bool := decide (lo ≤ s.a) && decide (s.b ≤ hi)
def rangedB (b : Bx) : Bool := insB b.x (-600) 600 && (insB b.y (-600) 600 && insB b.z 0 20000)
def firstNZ {α : Type} (f : α → Int) : List α → Int
 | [] => 0
 | a :: l => if f a = 0 then firstNZ f l else f a
def checkL (l : List Df) : Int := if 64 < l.length then 4 else firstNZ dcheck l
def rdcheck (d : Df) : Int := bif decide (d.k < 1) || decide (6 < d.k) then 10 else bif emB d.b then 19 else bif !rangedB d.b then 9 else 0
theorem insideB_eq {s : Sp} (h : emS s = false) (lo hi : Int) : insideB s lo hi = insB s lo hi := by
 unfold emS at h
 have h := of_decide_eq_false h
 unfold insideB insB
 congr 1
 ·exact decide_eq_decide.2 (by omega)
 ·exact decide_eq_decide.2 (by omega)
theorem dcheck_eq (d : Df) : dcheck d = rdcheck d := by
 unfold dcheck rdcheck
 cases h : emB d.b
 ·unfold emB at h
  simp only [Bool.or_eq_false_iff] at h
  rw [insideB_eq h.1, insideB_eq h.2.1, insideB_eq h.2.2]
  simp [rangedB]
 ·simp
def Oks (l : List Df) : Prop := ∀ d, d ∈ l → d.ok
theorem Oks.at {l : List Df} (h : Oks l) {k : Nat} (hk : k < l.length) : (l[k]).ok := h _ (List.getElem_mem hk)
def backB (b q : Bx) : Bx := ⟨backS b.x q.x.a, backS b.y q.y.a, backS b.z q.z.a⟩
def b3 (b : Bx) : Nat → Sp
 | 0 => b.x
 | 1 => b.y
 | _ => b.z
def okB (b : Bx) : Prop := ∀ i, i < 3 → insideB (b3 b i) (-1099511627776) 1099511627776 = true
instance (b : Bx) : Decidable (okB b) := inferInstanceAs (Decidable (∀ i, i < 3 → _))
theorem d_check_eq (d : Df) : defect_check_g d = dcheck d := by
 unfold defect_check_g dcheck letB emB insideB defect_isEmpty_g defect_inside_g emS
 grind
theorem r13_empty_eq (b : Bx) : r13_Empty_g b = emB b := by unfold r13_Empty_g emB emS; grind
theorem r13_ranged_eq (b : Bx) : r13_Ranged_g b = rangedB b := by unfold r13_Ranged_g rangedB insB r13_in_g; grind
theorem firstNZ_find {α : Type} (f : α → Int) : ∀ l : List α, firstNZ f l = (l.find? (fun e => f e != 0)).elim 0 f
 | [] => rfl
 | a :: l => by
  rw [firstNZ, List.find?_cons]
  by_cases h : f a = 0
  ·simp [h, firstNZ_find f l]
  ·have h' : (f a != 0) = true := by simpa using h
   rw [if_neg h, h']
   rfl
theorem d_checkL_eq {l : List Df} (hl : l.length ≤ 9223372036854775807) : defect_Check_g l = some (checkL l) := by
 unfold defect_Check_g checkL
 by_cases h : 64 < l.length
 ·rw [if_pos h, decide_eq_true (by omega), cond_true]
 ·have := loopO_find (step := fun q => defect_Check_s1 l q) l (fun j => ((j : Nat) : Int)) (fun e => dcheck e != 0) (fun e => Sum.inl (dcheck e)) (Sum.inr ()) (by
   intro j hj hp
   unfold defect_Check_s1
   rw [lt_nat hj, getI_at hj, cond_true, bind_some', d_check_eq, hp, cond_false, W64_succ (by omega)]) (by
   intro j hj hp
   unfold defect_Check_s1
   rw [lt_nat hj, getI_at hj, cond_true, bind_some', d_check_eq, hp, cond_true]) (by
   unfold defect_Check_s1
   rw [nlt_nat, cond_false])
  rw [show ((0 : Int)) = ((0 : Nat) : Int) from rfl, this, firstNZ_find, if_neg h, decide_eq_false (by omega), cond_false, bind_some']
  cases l.find? (fun e => dcheck e != 0) <;> rfl
theorem r13_checkL_eq {l : List Df} (hl : l.length ≤ 9223372036854775807) : r13_Check_g l = some (checkL l) := by
 unfold r13_Check_g checkL
 by_cases h : 64 < l.length
 ·rw [if_pos h, decide_eq_true (by omega), cond_true]
 ·have key : ∀ j (hj : j < l.length), r13_Check_s1 l (j : Int) = bif dcheck l[j] != 0 then some (Sum.inr (Sum.inl (dcheck l[j]))) else some (Sum.inl (((j + 1 : Nat)) : Int)) := by
   intro j hj
   unfold r13_Check_s1
   rw [lt_nat hj, getI_at hj, cond_true]
   simp only [bind_some', r13_empty_eq, r13_ranged_eq, W64_succ (show j < 9223372036854775807 by omega), dcheck_eq, rdcheck]
   grind
  have := loopO_find (step := fun q => r13_Check_s1 l q) l (fun j => ((j : Nat) : Int)) (fun e => dcheck e != 0) (fun e => Sum.inl (dcheck e)) (Sum.inr ()) (by
   intro j hj hp
   rw [key j hj, hp, cond_false]) (by
   intro j hj hp
   rw [key j hj, hp, cond_true]) (by
   unfold r13_Check_s1
   rw [nlt_nat, cond_false])
  rw [show ((0 : Int)) = ((0 : Nat) : Int) from rfl, this, firstNZ_find, if_neg h, decide_eq_false (by omega), cond_false, bind_some']
  cases l.find? (fun e => dcheck e != 0) <;> rfl
structure FitsB (b : Bx) : Prop where
 x : -600 ≤ b.x.a ∧ b.x.a < b.x.b ∧ b.x.b ≤ 600
 y : -600 ≤ b.y.a ∧ b.y.a < b.y.b ∧ b.y.b ≤ 600
 z : 0 ≤ b.z.a ∧ b.z.a < b.z.b ∧ b.z.b ≤ 20000
 w : b.x.b - b.x.a ≤ 600 ∧ b.y.b - b.y.a ≤ 600
theorem okB_of {b : Bx} (hx : -1099511627776 ≤ min b.x.a b.x.b ∧ max b.x.a b.x.b ≤ 1099511627776) (hy : -1099511627776 ≤ min b.y.a b.y.b ∧ max b.y.a b.y.b ≤ 1099511627776) (hz : -1099511627776 ≤ min b.z.a b.z.b ∧ max b.z.a b.z.b ≤ 1099511627776) : okB b := by
 intro i hi
 match i, hi with
 | 0, _ => simp [b3, insideB, hx]
 | 1, _ => simp [b3, insideB, hy]
 | 2, _ => simp [b3, insideB, hz]
theorem FitsB.ok {b : Bx} (h : FitsB b) : okB b := okB_of (by have := h.x; omega) (by have := h.y; omega) (by have := h.z; omega)
end Go.Proofs.YtpoehckffpbfiaaGreat
