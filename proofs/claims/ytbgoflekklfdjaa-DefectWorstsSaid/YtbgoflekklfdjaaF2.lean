/- F2: what functions of the program compute (written by gen.py). -/
import Derived.Test.YtbgoflekklfdjaaF1
import Derived.KernelRfl
namespace Go.Proofs.Ytbgoflekklfdjaa
open Go Go.Ab
set_option linter.unusedSimpArgs false
set_option linter.unusedVariables false

def emS (s : Sp) : Bool := decide (s.b ≤ s.a)
def emB (b : Bx) : Bool := emS b.x || (emS b.y || emS b.z)
def insideB (s : Sp) (lo hi : Int) : Bool := decide (lo ≤ min s.a s.b) && decide (max s.a s.b ≤ hi)
/-- The error of a defect. -/
def dcheck (d : Df) : Int :=
  bif decide (d.k < 1) || decide (6 < d.k) then 10
  else bif emB d.b then 19
  else bif !insideB d.b.x (-600) 600 || (!insideB d.b.y (-600) 600 || !insideB d.b.z 0 20000) then 9 else 0
def bmeet (p q : Bx) : Bx := ⟨meet p.x q.x, meet p.y q.y, meet p.z q.z⟩
def zeroB : Bx := ⟨⟨0, 0⟩, ⟨0, 0⟩, ⟨0, 0⟩⟩
def touchB (p q : Bx) : Bool := !emB (bmeet p q)
def mbox (p q : Bx) : Bx := bif touchB p q then bmeet p q else zeroB
def sizeD (d : Df) : Int := max (spanLen d.b.x) (spanLen d.b.y)
def backS (s : Sp) (n : Int) : Sp := ⟨IntKind.i64.wrap (s.a - n), IntKind.i64.wrap (s.b - n)⟩
def knotD (d : Df) : Bool := (d.k == 1) || (d.k == 2)


theorem isEmpty_h (s : Sp)  : Holds Try.prog 69 [encSp s] [] (B (emS s)) [] := by
  refine holds_fn Try.func69 rfl Try.ntmps69 rfl rfl rfl ?_
  refine awp_seq ?_
  refine awp_go hmix ?_
  refine go_run' ttok 2 rfl ?_
  refine go_nil nd ?_
  refine then_norm ?_
  refine awp_seq ?_
  refine awp_go hmix ?_
  refine go_run' ttok 6 rfl ?_
  refine go_nil nd ?_
  refine then_norm ?_
  refine awp_ret ?_
  refine ret_ret ?_
  refine fin0 ttok rfl rfl ?_
  exact rfl

theorem isEmpty_h_v1 (s0 s1 : Int)  : Holds Try.prog 69 [.agg [I s0, I s1]] [] (B (emS ⟨s0, s1⟩)) [] :=
  isEmpty_h ⟨s0, s1⟩


theorem inside_h (s : Sp) (l : Int) (h : Int)  : Holds Try.prog 63 [encSp s, I l, I h] [] (B (insideB s l h)) [] := by
  refine holds_fn Try.func63 rfl Try.ntmps63 rfl rfl rfl ?_
  refine awp_seq ?_
  refine awp_go hmix ?_
  refine go_run' ttok 2 rfl ?_
  refine go_nil nd ?_
  refine then_norm ?_
  refine awp_seq ?_
  refine awp_go hmix ?_
  refine go_run' ttok 8 rfl ?_
  refine go_gcase rfl rfl rfl (fun g14 => ?_) (fun g14 => ?_)
  · rw [g14]
    refine go_run' ttok 9 rfl ?_
    refine go_nil nd ?_
    refine then_norm ?_
    refine awp_ret ?_
    refine ret_ret ?_
    refine fin0 ttok rfl rfl ?_
    simp only [wkP, scEq, insideB, Bool.true_and, Bool.false_and, Bool.and_true, Bool.and_false, Bool.true_or, Bool.false_or, Bool.or_true, Bool.or_false, Bool.not_true, Bool.not_false, cond_true, cond_false, *]
  · rw [g14]
    refine go_run' ttok 9 rfl ?_
    refine go_nil nd ?_
    refine then_norm ?_
    refine awp_ret ?_
    refine ret_ret ?_
    refine fin0 ttok rfl rfl ?_
    simp only [wkP, scEq, insideB, Bool.true_and, Bool.false_and, Bool.and_true, Bool.and_false, Bool.true_or, Bool.false_or, Bool.or_true, Bool.or_false, Bool.not_true, Bool.not_false, cond_true, cond_false, *]

theorem inside_h_v1 (s0 s1 : Int) (l : Int) (h : Int)  : Holds Try.prog 63 [.agg [I s0, I s1], I l, I h] [] (B (insideB ⟨s0, s1⟩ l h)) [] :=
  inside_h ⟨s0, s1⟩ l h


theorem check_h (d : Df) : Holds Try.prog 61 [encDf d] [] (I (dcheck d)) [] := by
  refine holds_fn Try.func61 rfl Try.ntmps61 rfl rfl rfl ?_
  refine awp_seq ?_
  refine awp_go hmix ?_
  refine go_run' ttok 2 rfl ?_
  refine go_nil nd ?_
  refine then_norm ?_
  refine awp_seq ?_
  refine awp_go hmix ?_
  refine go_run' ttok 4 rfl ?_
  refine go_nil nd ?_
  refine then_norm ?_
  refine awp_seq ?_
  refine awp_block ?_
  refine awp_seq ?_
  refine awp_go hmix ?_
  refine go_run' ttok 4 rfl ?_
  refine go_gcase rfl rfl rfl (fun g10 => ?_) (fun g10 => ?_)
  · rw [g10]
    refine go_run' ttok 5 rfl ?_
    refine go_nil nd ?_
    refine then_norm ?_
    refine awp_cond rfl (fun tt0 => ?_) (fun h => by cases h)
    clear tt0
    refine awp_seq ?_
    refine awp_go hmix ?_
    refine go_run' ttok 1 rfl ?_
    refine go_nil nd ?_
    refine then_norm ?_
    refine awp_ret ?_
    refine block_ret ?_
    refine then_ret ?_
    refine ret_ret ?_
    refine fin0 ttok rfl rfl ?_
    refine ⟨rfl, ?_⟩
    simp only [wkP, scEq, dcheck, emB, Bool.true_and, Bool.false_and, Bool.and_true, Bool.and_false, Bool.true_or, Bool.false_or, Bool.or_true, Bool.or_false, Bool.not_true, Bool.not_false, cond_true, cond_false, *]
  · rw [g10]
    refine go_run' ttok 5 rfl ?_
    refine go_nil nd ?_
    refine then_norm ?_
    refine awp_cond rfl (fun c6 => ?_) (fun c6 => ?_)
    · skip
      refine awp_seq ?_
      refine awp_go hmix ?_
      refine go_run' ttok 1 rfl ?_
      refine go_nil nd ?_
      refine then_norm ?_
      refine awp_ret ?_
      refine block_ret ?_
      refine then_ret ?_
      refine ret_ret ?_
      refine fin0 ttok rfl rfl ?_
      refine ⟨rfl, ?_⟩
      simp only [wkP, scEq, dcheck, emB, Bool.true_and, Bool.false_and, Bool.and_true, Bool.and_false, Bool.true_or, Bool.false_or, Bool.or_true, Bool.or_false, Bool.not_true, Bool.not_false, cond_true, cond_false, *]
    · skip
      refine awp_seq ?_
      refine awp_go hmix ?_
      refine go_run' ttok 2 rfl ?_
      first
        | refine go_call fn69 (isEmpty_h _) rfl rfl rfl rfl rfl rfl rfl ?_
        | refine go_call fn69 (isEmpty_h_v1 _ _) rfl rfl rfl rfl rfl rfl rfl ?_
      refine go_run' ttok 1 rfl ?_
      refine go_gcase rfl rfl rfl (fun g19 => ?_) (fun g19 => ?_)
      · rw [g19]
        refine go_run' ttok 10 rfl ?_
        refine go_nil nd ?_
        refine then_norm ?_
        refine awp_cond rfl (fun tt0 => ?_) (fun h => by cases h)
        clear tt0
        refine awp_seq ?_
        refine awp_go hmix ?_
        refine go_run' ttok 1 rfl ?_
        refine go_nil nd ?_
        refine then_norm ?_
        refine awp_ret ?_
        refine block_ret ?_
        refine then_ret ?_
        refine ret_ret ?_
        refine fin0 ttok rfl rfl ?_
        refine ⟨rfl, ?_⟩
        simp only [wkP, scEq, dcheck, emB, Bool.true_and, Bool.false_and, Bool.and_true, Bool.and_false, Bool.true_or, Bool.false_or, Bool.or_true, Bool.or_false, Bool.not_true, Bool.not_false, cond_true, cond_false, *]
      · rw [g19]
        refine go_run' ttok 2 rfl ?_
        first
          | refine go_call fn69 (isEmpty_h _) rfl rfl rfl rfl rfl rfl rfl ?_
          | refine go_call fn69 (isEmpty_h_v1 _ _) rfl rfl rfl rfl rfl rfl rfl ?_
        refine go_run' ttok 2 rfl ?_
        refine go_gcase rfl rfl rfl (fun g24 => ?_) (fun g24 => ?_)
        · rw [g24]
          refine go_run' ttok 5 rfl ?_
          refine go_nil nd ?_
          refine then_norm ?_
          refine awp_cond rfl (fun tt0 => ?_) (fun h => by cases h)
          clear tt0
          refine awp_seq ?_
          refine awp_go hmix ?_
          refine go_run' ttok 1 rfl ?_
          refine go_nil nd ?_
          refine then_norm ?_
          refine awp_ret ?_
          refine block_ret ?_
          refine then_ret ?_
          refine ret_ret ?_
          refine fin0 ttok rfl rfl ?_
          refine ⟨rfl, ?_⟩
          simp only [wkP, scEq, dcheck, emB, Bool.true_and, Bool.false_and, Bool.and_true, Bool.and_false, Bool.true_or, Bool.false_or, Bool.or_true, Bool.or_false, Bool.not_true, Bool.not_false, cond_true, cond_false, *]
        · rw [g24]
          refine go_run' ttok 2 rfl ?_
          first
            | refine go_call fn69 (isEmpty_h _) rfl rfl rfl rfl rfl rfl rfl ?_
            | refine go_call fn69 (isEmpty_h_v1 _ _) rfl rfl rfl rfl rfl rfl rfl ?_
          refine go_run' ttok 2 rfl ?_
          refine go_nil nd ?_
          refine then_norm ?_
          refine awp_cond rfl (fun c15 => ?_) (fun c15 => ?_)
          · skip
            refine awp_seq ?_
            refine awp_go hmix ?_
            refine go_run' ttok 1 rfl ?_
            refine go_nil nd ?_
            refine then_norm ?_
            refine awp_ret ?_
            refine block_ret ?_
            refine then_ret ?_
            refine ret_ret ?_
            refine fin0 ttok rfl rfl ?_
            refine ⟨rfl, ?_⟩
            simp only [wkP, scEq, dcheck, emB, Bool.true_and, Bool.false_and, Bool.and_true, Bool.and_false, Bool.true_or, Bool.false_or, Bool.or_true, Bool.or_false, Bool.not_true, Bool.not_false, cond_true, cond_false, *]
          · skip
            refine awp_seq ?_
            refine awp_go hmix ?_
            refine go_run' ttok 2 rfl ?_
            first
              | refine go_call fn63 (inside_h _ _ _) rfl rfl rfl rfl rfl rfl rfl ?_
              | refine go_call fn63 (inside_h_v1 _ _ _ _) rfl rfl rfl rfl rfl rfl rfl ?_
            refine go_run' ttok 2 rfl ?_
            refine go_gcase rfl rfl rfl (fun g34 => ?_) (fun g34 => ?_)
            · rw [g34]
              refine go_run' ttok 12 rfl ?_
              refine go_nil nd ?_
              refine then_norm ?_
              refine awp_cond rfl (fun tt0 => ?_) (fun h => by cases h)
              clear tt0
              refine awp_seq ?_
              refine awp_go hmix ?_
              refine go_run' ttok 1 rfl ?_
              refine go_nil nd ?_
              refine then_norm ?_
              refine awp_ret ?_
              refine block_ret ?_
              refine then_ret ?_
              refine ret_ret ?_
              refine fin0 ttok rfl rfl ?_
              refine ⟨rfl, ?_⟩
              simp only [wkP, scEq, dcheck, emB, Bool.true_and, Bool.false_and, Bool.and_true, Bool.and_false, Bool.true_or, Bool.false_or, Bool.or_true, Bool.or_false, Bool.not_true, Bool.not_false, cond_true, cond_false, *]
            · rw [g34]
              refine go_run' ttok 2 rfl ?_
              first
                | refine go_call fn63 (inside_h _ _ _) rfl rfl rfl rfl rfl rfl rfl ?_
                | refine go_call fn63 (inside_h_v1 _ _ _ _) rfl rfl rfl rfl rfl rfl rfl ?_
              refine go_run' ttok 3 rfl ?_
              refine go_gcase rfl rfl rfl (fun g40 => ?_) (fun g40 => ?_)
              · rw [g40]
                refine go_run' ttok 6 rfl ?_
                refine go_nil nd ?_
                refine then_norm ?_
                refine awp_cond rfl (fun tt0 => ?_) (fun h => by cases h)
                clear tt0
                refine awp_seq ?_
                refine awp_go hmix ?_
                refine go_run' ttok 1 rfl ?_
                refine go_nil nd ?_
                refine then_norm ?_
                refine awp_ret ?_
                refine block_ret ?_
                refine then_ret ?_
                refine ret_ret ?_
                refine fin0 ttok rfl rfl ?_
                refine ⟨rfl, ?_⟩
                simp only [wkP, scEq, dcheck, emB, Bool.true_and, Bool.false_and, Bool.and_true, Bool.and_false, Bool.true_or, Bool.false_or, Bool.or_true, Bool.or_false, Bool.not_true, Bool.not_false, cond_true, cond_false, *]
              · rw [g40]
                refine go_run' ttok 2 rfl ?_
                first
                  | refine go_call fn63 (inside_h _ _ _) rfl rfl rfl rfl rfl rfl rfl ?_
                  | refine go_call fn63 (inside_h_v1 _ _ _ _) rfl rfl rfl rfl rfl rfl rfl ?_
                refine go_run' ttok 3 rfl ?_
                refine go_nil nd ?_
                refine then_norm ?_
                refine awp_cond rfl (fun c29 => ?_) (fun c29 => ?_)
                · skip
                  refine awp_seq ?_
                  refine awp_go hmix ?_
                  refine go_run' ttok 1 rfl ?_
                  refine go_nil nd ?_
                  refine then_norm ?_
                  refine awp_ret ?_
                  refine block_ret ?_
                  refine then_ret ?_
                  refine ret_ret ?_
                  refine fin0 ttok rfl rfl ?_
                  refine ⟨rfl, ?_⟩
                  simp only [wkP, scEq, dcheck, emB, Bool.true_and, Bool.false_and, Bool.and_true, Bool.and_false, Bool.true_or, Bool.false_or, Bool.or_true, Bool.or_false, Bool.not_true, Bool.not_false, cond_true, cond_false, *]
                · skip
                  refine awp_skip ?_
                  refine block_norm ?_
                  refine then_norm ?_
                  refine awp_seq ?_
                  refine awp_go hmix ?_
                  refine go_run' ttok 1 rfl ?_
                  refine go_nil nd ?_
                  refine then_norm ?_
                  refine awp_ret ?_
                  refine ret_ret ?_
                  refine fin0 ttok rfl rfl ?_
                  refine ⟨rfl, ?_⟩
                  simp only [wkP, scEq, dcheck, emB, Bool.true_and, Bool.false_and, Bool.and_true, Bool.and_false, Bool.true_or, Bool.false_or, Bool.or_true, Bool.or_false, Bool.not_true, Bool.not_false, cond_true, cond_false, *]

theorem dmeet_h (p q : Bx) : Holds Try.prog 62 [encBx p, encBx q] [] (.tup [encBx (mbox p q), B (touchB p q)]) [] := by
  refine holds_fn Try.func62 rfl Try.ntmps62 rfl rfl rfl ?_
  refine awp_seq ?_
  refine awp_go hmix ?_
  refine go_run' ttok 4 rfl ?_
  refine go_nil nd ?_
  refine then_norm ?_
  refine awp_seq ?_
  refine awp_go hmix ?_
  refine go_run' ttok 4 rfl ?_
  first
    | refine go_call fn70 (meet_h _ _) rfl rfl rfl rfl rfl rfl rfl ?_
    | refine go_call fn70 (meet_h_v1 _ _ _) rfl rfl rfl rfl rfl rfl rfl ?_
    | refine go_call fn70 (meet_h_v2 _ _ _) rfl rfl rfl rfl rfl rfl rfl ?_
    | refine go_call fn70 (meet_h_v3 _ _ _ _) rfl rfl rfl rfl rfl rfl rfl ?_
  refine go_run' ttok 4 rfl ?_
  first
    | refine go_call fn70 (meet_h _ _) rfl rfl rfl rfl rfl rfl rfl ?_
    | refine go_call fn70 (meet_h_v1 _ _ _) rfl rfl rfl rfl rfl rfl rfl ?_
    | refine go_call fn70 (meet_h_v2 _ _ _) rfl rfl rfl rfl rfl rfl rfl ?_
    | refine go_call fn70 (meet_h_v3 _ _ _ _) rfl rfl rfl rfl rfl rfl rfl ?_
  refine go_run' ttok 4 rfl ?_
  first
    | refine go_call fn70 (meet_h _ _) rfl rfl rfl rfl rfl rfl rfl ?_
    | refine go_call fn70 (meet_h_v1 _ _ _) rfl rfl rfl rfl rfl rfl rfl ?_
    | refine go_call fn70 (meet_h_v2 _ _ _) rfl rfl rfl rfl rfl rfl rfl ?_
    | refine go_call fn70 (meet_h_v3 _ _ _ _) rfl rfl rfl rfl rfl rfl rfl ?_
  refine go_run' ttok 3 rfl ?_
  refine go_nil (fun _ => by kernel_rfl) ?_
  refine then_norm ?_
  refine awp_seq ?_
  refine awp_seq ?_
  refine awp_go hmix ?_
  refine go_run' ttok 2 rfl ?_
  first
    | refine go_call fn69 (isEmpty_h _) rfl rfl rfl rfl rfl rfl rfl ?_
    | refine go_call fn69 (isEmpty_h_v1 _ _) rfl rfl rfl rfl rfl rfl rfl ?_
  refine go_run' ttok 1 rfl ?_
  refine go_gcase rfl rfl rfl (fun g26 => ?_) (fun g26 => ?_)
  · rw [g26]
    refine go_run' ttok 9 rfl ?_
    refine go_nil nd ?_
    refine then_norm ?_
    refine awp_cond rfl (fun tt0 => ?_) (fun h => by cases h)
    clear tt0
    refine awp_seq ?_
    refine awp_go hmix ?_
    refine go_run' ttok 3 rfl ?_
    refine go_nil nd ?_
    refine then_norm ?_
    refine awp_ret ?_
    refine then_ret ?_
    refine ret_ret ?_
    refine fin0 ttok rfl rfl ?_
    simp only [wkP, scEq, wkL, encBx, mbox, touchB, emB, bmeet, zeroB, Bool.true_and, Bool.false_and, Bool.and_true, Bool.and_false, Bool.true_or, Bool.false_or, Bool.or_true, Bool.or_false, Bool.not_true, Bool.not_false, cond_true, cond_false, *]
    simp
  · rw [g26]
    refine go_run' ttok 2 rfl ?_
    first
      | refine go_call fn69 (isEmpty_h _) rfl rfl rfl rfl rfl rfl rfl ?_
      | refine go_call fn69 (isEmpty_h_v1 _ _) rfl rfl rfl rfl rfl rfl rfl ?_
    refine go_run' ttok 2 rfl ?_
    refine go_gcase rfl rfl rfl (fun g31 => ?_) (fun g31 => ?_)
    · rw [g31]
      refine go_run' ttok 4 rfl ?_
      refine go_nil nd ?_
      refine then_norm ?_
      refine awp_cond rfl (fun tt0 => ?_) (fun h => by cases h)
      clear tt0
      refine awp_seq ?_
      refine awp_go hmix ?_
      refine go_run' ttok 3 rfl ?_
      refine go_nil nd ?_
      refine then_norm ?_
      refine awp_ret ?_
      refine then_ret ?_
      refine ret_ret ?_
      refine fin0 ttok rfl rfl ?_
      simp only [wkP, scEq, wkL, encBx, mbox, touchB, emB, bmeet, zeroB, Bool.true_and, Bool.false_and, Bool.and_true, Bool.and_false, Bool.true_or, Bool.false_or, Bool.or_true, Bool.or_false, Bool.not_true, Bool.not_false, cond_true, cond_false, *]
      simp
    · rw [g31]
      refine go_run' ttok 2 rfl ?_
      first
        | refine go_call fn69 (isEmpty_h _) rfl rfl rfl rfl rfl rfl rfl ?_
        | refine go_call fn69 (isEmpty_h_v1 _ _) rfl rfl rfl rfl rfl rfl rfl ?_
      refine go_run' ttok 1 rfl ?_
      refine go_nil nd ?_
      refine then_norm ?_
      refine awp_cond rfl (fun c35 => ?_) (fun c35 => ?_)
      · skip
        refine awp_seq ?_
        refine awp_go hmix ?_
        refine go_run' ttok 3 rfl ?_
        refine go_nil nd ?_
        refine then_norm ?_
        refine awp_ret ?_
        refine then_ret ?_
        refine ret_ret ?_
        refine fin0 ttok rfl rfl ?_
        simp only [wkP, scEq, wkL, encBx, mbox, touchB, emB, bmeet, zeroB, Bool.true_and, Bool.false_and, Bool.and_true, Bool.and_false, Bool.true_or, Bool.false_or, Bool.or_true, Bool.or_false, Bool.not_true, Bool.not_false, cond_true, cond_false, *]
        simp
      · skip
        refine awp_skip ?_
        refine then_norm ?_
        refine awp_seq ?_
        refine awp_go hmix ?_
        refine go_run' ttok 3 rfl ?_
        refine go_nil nd ?_
        refine then_norm ?_
        refine awp_ret ?_
        refine ret_ret ?_
        refine fin0 ttok rfl rfl ?_
        simp only [wkP, scEq, wkL, encBx, mbox, touchB, emB, bmeet, zeroB, Bool.true_and, Bool.false_and, Bool.and_true, Bool.and_false, Bool.true_or, Bool.false_or, Bool.or_true, Bool.or_false, Bool.not_true, Bool.not_false, cond_true, cond_false, *]
        simp

theorem touches_h (d : Df) (q : Bx) : Holds Try.prog 38 [encDf d, encBx q] [] (B (touchB d.b q)) [] := by
  refine holds_fn Try.func38 rfl Try.ntmps38 rfl rfl rfl ?_
  refine awp_seq ?_
  refine awp_go hmix ?_
  refine go_run' ttok 3 rfl ?_
  refine go_nil nd ?_
  refine then_norm ?_
  refine awp_seq ?_
  refine awp_go hmix ?_
  refine go_run' ttok 3 rfl ?_
  refine go_call fn62 (dmeet_h _ _) rfl rfl rfl rfl rfl rfl rfl ?_
  refine go_run' ttok 6 rfl ?_
  refine go_nil nd ?_
  refine then_norm ?_
  refine awp_seq ?_
  refine awp_go hmix ?_
  refine go_run' ttok 2 rfl ?_
  refine go_nil nd ?_
  refine then_norm ?_
  refine awp_ret ?_
  refine ret_ret ?_
  refine fin0 ttok rfl rfl ?_
  exact rfl

theorem back_h (s : Sp) (n : Int)  : Holds Try.prog 64 [encSp s, I n] [] (encSp (backS s n)) [] := by
  refine holds_fn Try.func64 rfl Try.ntmps64 rfl rfl rfl ?_
  refine awp_seq ?_
  refine awp_go hmix ?_
  refine go_run' ttok 2 rfl ?_
  refine go_nil nd ?_
  refine then_norm ?_
  refine awp_seq ?_
  refine awp_go hmix ?_
  refine go_run' ttok 10 rfl ?_
  refine go_nil nd ?_
  refine then_norm ?_
  refine awp_ret ?_
  refine ret_ret ?_
  refine fin0 ttok rfl rfl ?_
  exact ⟨⟨rfl, rfl⟩, ⟨rfl, rfl⟩, trivial⟩

theorem back_h_v1 (s0 s1 : Int) (n : Int)  : Holds Try.prog 64 [.agg [I s0, I s1], I n] [] (encSp (backS ⟨s0, s1⟩ n)) [] :=
  back_h ⟨s0, s1⟩ n


theorem isKnot_h (d : Df) : Holds Try.prog 68 [encDf d] [] (B (knotD d)) [] := by
  refine holds_fn Try.func68 rfl Try.ntmps68 rfl rfl rfl ?_
  refine awp_seq ?_
  refine awp_go hmix ?_
  refine go_run' ttok 2 rfl ?_
  refine go_nil nd ?_
  refine then_norm ?_
  refine awp_seq ?_
  refine awp_go hmix ?_
  refine go_run' ttok 4 rfl ?_
  refine go_gcase rfl rfl rfl (fun g6 => ?_) (fun g6 => ?_)
  · rw [g6]
    refine go_run' ttok 5 rfl ?_
    refine go_nil nd ?_
    refine then_norm ?_
    refine awp_ret ?_
    refine ret_ret ?_
    refine fin0 ttok rfl rfl ?_
    simp only [wkP, scEq, knotD, Bool.true_and, Bool.false_and, Bool.and_true, Bool.and_false, Bool.true_or, Bool.false_or, Bool.or_true, Bool.or_false, Bool.not_true, Bool.not_false, cond_true, cond_false, *]
  · rw [g6]
    refine go_run' ttok 5 rfl ?_
    refine go_nil nd ?_
    refine then_norm ?_
    refine awp_ret ?_
    refine ret_ret ?_
    refine fin0 ttok rfl rfl ?_
    simp only [wkP, scEq, knotD, Bool.true_and, Bool.false_and, Bool.and_true, Bool.and_false, Bool.true_or, Bool.false_or, Bool.or_true, Bool.or_false, Bool.not_true, Bool.not_false, cond_true, cond_false, *]

theorem dsize_h (d : Df) (hd : d.ok) : Holds Try.prog 31 [encDf d] [] (I (sizeD d)) [] := by
  obtain ⟨hk, hx, hy, hz⟩ := hd
  refine holds_fn Try.func31 rfl Try.ntmps31 rfl rfl rfl ?_
  refine awp_seq ?_
  refine awp_go hmix ?_
  refine go_run' ttok 2 rfl ?_
  refine go_nil nd ?_
  refine then_norm ?_
  refine awp_seq ?_
  refine awp_go hmix ?_
  refine go_run' ttok 3 rfl ?_
  first
    | refine go_call fn56 (len_h _ (by assumption)) rfl rfl rfl rfl rfl rfl rfl ?_
    | refine go_call fn56 (len_h_v1 _ _ (by assumption)) rfl rfl rfl rfl rfl rfl rfl ?_
  refine go_run' ttok 3 rfl ?_
  first
    | refine go_call fn56 (len_h _ (by assumption)) rfl rfl rfl rfl rfl rfl rfl ?_
    | refine go_call fn56 (len_h_v1 _ _ (by assumption)) rfl rfl rfl rfl rfl rfl rfl ?_
  refine go_run' ttok 2 rfl ?_
  refine go_nil (fun _ => by kernel_rfl) ?_
  refine then_norm ?_
  refine awp_ret ?_
  refine ret_ret ?_
  refine fin0 ttok rfl rfl ?_
  exact ⟨rfl, rfl⟩

def insB (s : Sp) (lo hi : Int) : Bool := decide (lo ≤ s.a) && decide (s.b ≤ hi)
def rangedB (b : Bx) : Bool := insB b.x (-600) 600 && (insB b.y (-600) 600 && insB b.z 0 20000)
def boundedS (s : Sp) : Bool := decide (-1099511627776 ≤ s.a) && (decide (s.a ≤ 1099511627776) && (decide (-1099511627776 ≤ s.b) && decide (s.b ≤ 1099511627776)))
def byS (s : Sp) (n : Int) : Sp := ⟨IntKind.i64.wrap (s.a + n), IntKind.i64.wrap (s.b + n)⟩
def moveB (b : Bx) (x y z : Int) : Bx := ⟨byS b.x x, byS b.y y, byS b.z z⟩
def quarterB (b : Bx) : Bx := ⟨⟨IntKind.i64.wrap (0 - b.y.b), IntKind.i64.wrap (0 - b.y.a)⟩, b.x, b.z⟩


theorem rin_h (s : Sp) (l : Int) (h : Int)  : Holds Try.prog 79 [encSp s, I l, I h] [] (B (insB s l h)) [] := by
  refine holds_fn Try.func79 rfl Try.ntmps79 rfl rfl rfl ?_
  refine awp_seq ?_
  refine awp_go hmix ?_
  refine go_run' ttok 2 rfl ?_
  refine go_nil nd ?_
  refine then_norm ?_
  refine awp_seq ?_
  refine awp_go hmix ?_
  refine go_run' ttok 5 rfl ?_
  refine go_gcase rfl rfl rfl (fun g11 => ?_) (fun g11 => ?_)
  · rw [g11]
    refine go_run' ttok 6 rfl ?_
    refine go_nil nd ?_
    refine then_norm ?_
    refine awp_ret ?_
    refine ret_ret ?_
    refine fin0 ttok rfl rfl ?_
    simp only [wkP, scEq, insB, Bool.true_and, Bool.false_and, Bool.and_true, Bool.and_false, Bool.true_or, Bool.false_or, Bool.or_true, Bool.or_false, Bool.not_true, Bool.not_false, cond_true, cond_false, *]
  · rw [g11]
    refine go_run' ttok 6 rfl ?_
    refine go_nil nd ?_
    refine then_norm ?_
    refine awp_ret ?_
    refine ret_ret ?_
    refine fin0 ttok rfl rfl ?_
    simp only [wkP, scEq, insB, Bool.true_and, Bool.false_and, Bool.and_true, Bool.and_false, Bool.true_or, Bool.false_or, Bool.or_true, Bool.or_false, Bool.not_true, Bool.not_false, cond_true, cond_false, *]

theorem rin_h_v1 (s0 s1 : Int) (l : Int) (h : Int)  : Holds Try.prog 79 [.agg [I s0, I s1], I l, I h] [] (B (insB ⟨s0, s1⟩ l h)) [] :=
  rin_h ⟨s0, s1⟩ l h


theorem ranged_h (b : Bx) : Holds Try.prog 60 [encBx b] [] (B (rangedB b)) [] := by
  refine holds_fn Try.func60 rfl Try.ntmps60 rfl rfl rfl ?_
  refine awp_seq ?_
  refine awp_go hmix ?_
  refine go_run' ttok 2 rfl ?_
  refine go_nil nd ?_
  refine then_norm ?_
  refine awp_seq ?_
  refine awp_go hmix ?_
  refine go_run' ttok 2 rfl ?_
  first
    | refine go_call fn79 (rin_h _ _ _) rfl rfl rfl rfl rfl rfl rfl ?_
    | refine go_call fn79 (rin_h_v1 _ _ _ _) rfl rfl rfl rfl rfl rfl rfl ?_
  refine go_run' ttok 1 rfl ?_
  refine go_gcase rfl rfl rfl (fun g6 => ?_) (fun g6 => ?_)
  · rw [g6]
    refine go_run' ttok 2 rfl ?_
    first
      | refine go_call fn79 (rin_h _ _ _) rfl rfl rfl rfl rfl rfl rfl ?_
      | refine go_call fn79 (rin_h_v1 _ _ _ _) rfl rfl rfl rfl rfl rfl rfl ?_
    refine go_run' ttok 2 rfl ?_
    refine go_gcase rfl rfl rfl (fun g11 => ?_) (fun g11 => ?_)
    · rw [g11]
      refine go_run' ttok 2 rfl ?_
      first
        | refine go_call fn79 (rin_h _ _ _) rfl rfl rfl rfl rfl rfl rfl ?_
        | refine go_call fn79 (rin_h_v1 _ _ _ _) rfl rfl rfl rfl rfl rfl rfl ?_
      refine go_run' ttok 2 rfl ?_
      refine go_nil nd ?_
      refine then_norm ?_
      refine awp_ret ?_
      refine ret_ret ?_
      refine fin0 ttok rfl rfl ?_
      simp only [wkP, scEq, rangedB, Bool.true_and, Bool.false_and, Bool.and_true, Bool.and_false, Bool.true_or, Bool.false_or, Bool.or_true, Bool.or_false, Bool.not_true, Bool.not_false, cond_true, cond_false, *]
    · rw [g11]
      refine go_run' ttok 5 rfl ?_
      refine go_nil nd ?_
      refine then_norm ?_
      refine awp_ret ?_
      refine ret_ret ?_
      refine fin0 ttok rfl rfl ?_
      simp only [wkP, scEq, rangedB, Bool.true_and, Bool.false_and, Bool.and_true, Bool.and_false, Bool.true_or, Bool.false_or, Bool.or_true, Bool.or_false, Bool.not_true, Bool.not_false, cond_true, cond_false, *]
  · rw [g6]
    refine go_run' ttok 10 rfl ?_
    refine go_nil nd ?_
    refine then_norm ?_
    refine awp_ret ?_
    refine ret_ret ?_
    refine fin0 ttok rfl rfl ?_
    simp only [wkP, scEq, rangedB, Bool.true_and, Bool.false_and, Bool.and_true, Bool.and_false, Bool.true_or, Bool.false_or, Bool.or_true, Bool.or_false, Bool.not_true, Bool.not_false, cond_true, cond_false, *]

theorem rempty_h (b : Bx) : Holds Try.prog 50 [encBx b] [] (B (emB b)) [] := by
  refine holds_fn Try.func50 rfl Try.ntmps50 rfl rfl rfl ?_
  refine awp_seq ?_
  refine awp_go hmix ?_
  refine go_run' ttok 2 rfl ?_
  refine go_nil nd ?_
  refine then_norm ?_
  refine awp_seq ?_
  refine awp_go hmix ?_
  refine go_run' ttok 8 rfl ?_
  refine go_gcase rfl rfl rfl (fun g10 => ?_) (fun g10 => ?_)
  · rw [g10]
    refine go_run' ttok 18 rfl ?_
    refine go_nil nd ?_
    refine then_norm ?_
    refine awp_ret ?_
    refine ret_ret ?_
    refine fin0 ttok rfl rfl ?_
    simp only [wkP, scEq, emB, emS, Bool.true_and, Bool.false_and, Bool.and_true, Bool.and_false, Bool.true_or, Bool.false_or, Bool.or_true, Bool.or_false, Bool.not_true, Bool.not_false, cond_true, cond_false, *]
  · rw [g10]
    refine go_run' ttok 9 rfl ?_
    refine go_gcase rfl rfl rfl (fun g19 => ?_) (fun g19 => ?_)
    · rw [g19]
      refine go_run' ttok 9 rfl ?_
      refine go_nil nd ?_
      refine then_norm ?_
      refine awp_ret ?_
      refine ret_ret ?_
      refine fin0 ttok rfl rfl ?_
      simp only [wkP, scEq, emB, emS, Bool.true_and, Bool.false_and, Bool.and_true, Bool.and_false, Bool.true_or, Bool.false_or, Bool.or_true, Bool.or_false, Bool.not_true, Bool.not_false, cond_true, cond_false, *]
    · rw [g19]
      refine go_run' ttok 9 rfl ?_
      refine go_nil nd ?_
      refine then_norm ?_
      refine awp_ret ?_
      refine ret_ret ?_
      refine fin0 ttok rfl rfl ?_
      simp only [wkP, scEq, emB, emS, Bool.true_and, Bool.false_and, Bool.and_true, Bool.and_false, Bool.true_or, Bool.false_or, Bool.or_true, Bool.or_false, Bool.not_true, Bool.not_false, cond_true, cond_false, *]

theorem rbmeet_h (p q : Bx) : Holds Try.prog 49 [encBx p, encBx q] [] (encBx (bmeet p q)) [] := by
  refine holds_fn Try.func49 rfl Try.ntmps49 rfl rfl rfl ?_
  refine awp_seq ?_
  refine awp_go hmix ?_
  refine go_run' ttok 3 rfl ?_
  refine go_nil nd ?_
  refine then_norm ?_
  refine awp_seq ?_
  refine awp_go hmix ?_
  refine go_run' ttok 4 rfl ?_
  first
    | refine go_call fn72 (rmeet_h _ _) rfl rfl rfl rfl rfl rfl rfl ?_
    | refine go_call fn72 (rmeet_h_v1 _ _ _) rfl rfl rfl rfl rfl rfl rfl ?_
    | refine go_call fn72 (rmeet_h_v2 _ _ _) rfl rfl rfl rfl rfl rfl rfl ?_
    | refine go_call fn72 (rmeet_h_v3 _ _ _ _) rfl rfl rfl rfl rfl rfl rfl ?_
  refine go_run' ttok 4 rfl ?_
  first
    | refine go_call fn72 (rmeet_h _ _) rfl rfl rfl rfl rfl rfl rfl ?_
    | refine go_call fn72 (rmeet_h_v1 _ _ _) rfl rfl rfl rfl rfl rfl rfl ?_
    | refine go_call fn72 (rmeet_h_v2 _ _ _) rfl rfl rfl rfl rfl rfl rfl ?_
    | refine go_call fn72 (rmeet_h_v3 _ _ _ _) rfl rfl rfl rfl rfl rfl rfl ?_
  refine go_run' ttok 4 rfl ?_
  first
    | refine go_call fn72 (rmeet_h _ _) rfl rfl rfl rfl rfl rfl rfl ?_
    | refine go_call fn72 (rmeet_h_v1 _ _ _) rfl rfl rfl rfl rfl rfl rfl ?_
    | refine go_call fn72 (rmeet_h_v2 _ _ _) rfl rfl rfl rfl rfl rfl rfl ?_
    | refine go_call fn72 (rmeet_h_v3 _ _ _ _) rfl rfl rfl rfl rfl rfl rfl ?_
  refine go_run' ttok 2 rfl ?_
  refine go_nil (fun _ => by kernel_rfl) ?_
  refine then_norm ?_
  refine awp_ret ?_
  refine ret_ret ?_
  refine fin0 ttok rfl rfl ?_
  simp [wkP, wkL, scEq, encBx, bmeet]

theorem rtouches_h (d : Df) (q : Bx) : Holds Try.prog 39 [encDf d, encBx q] [] (B (touchB d.b q)) [] := by
  refine holds_fn Try.func39 rfl Try.ntmps39 rfl rfl rfl ?_
  refine awp_seq ?_
  refine awp_go hmix ?_
  refine go_run' ttok 3 rfl ?_
  refine go_nil nd ?_
  refine then_norm ?_
  refine awp_seq ?_
  refine awp_go hmix ?_
  refine go_run' ttok 3 rfl ?_
  refine go_call fn49 (rbmeet_h _ _) rfl rfl rfl rfl rfl rfl rfl ?_
  refine go_call fn50 (rempty_h _) rfl rfl rfl rfl rfl rfl rfl ?_
  refine go_run' ttok 2 rfl ?_
  refine go_nil nd ?_
  refine then_norm ?_
  refine awp_ret ?_
  refine ret_ret ?_
  refine fin0 ttok rfl rfl ?_
  exact rfl

theorem rby_h (s : Sp) (n : Int)  : Holds Try.prog 73 [encSp s, I n] [] (encSp (byS s n)) [] := by
  refine holds_fn Try.func73 rfl Try.ntmps73 rfl rfl rfl ?_
  refine awp_seq ?_
  refine awp_go hmix ?_
  refine go_run' ttok 2 rfl ?_
  refine go_nil nd ?_
  refine then_norm ?_
  refine awp_seq ?_
  refine awp_go hmix ?_
  refine go_run' ttok 10 rfl ?_
  refine go_nil nd ?_
  refine then_norm ?_
  refine awp_ret ?_
  refine ret_ret ?_
  refine fin0 ttok rfl rfl ?_
  simp [wkP, wkL, scEq, encSp, byS]

theorem rby_h_v1 (s0 s1 : Int) (n : Int)  : Holds Try.prog 73 [.agg [I s0, I s1], I n] [] (encSp (byS ⟨s0, s1⟩ n)) [] :=
  rby_h ⟨s0, s1⟩ n


theorem rmove_h (b : Bx) (x y z : Int) : Holds Try.prog 51 [encBx b, I x, I y, I z] [] (encBx (moveB b x y z)) [] := by
  refine holds_fn Try.func51 rfl Try.ntmps51 rfl rfl rfl ?_
  refine awp_seq ?_
  refine awp_go hmix ?_
  refine go_run' ttok 2 rfl ?_
  refine go_nil nd ?_
  refine then_norm ?_
  refine awp_seq ?_
  refine awp_go hmix ?_
  refine go_run' ttok 3 rfl ?_
  first
    | refine go_call fn73 (rby_h _ _) rfl rfl rfl rfl rfl rfl rfl ?_
    | refine go_call fn73 (rby_h_v1 _ _ _) rfl rfl rfl rfl rfl rfl rfl ?_
  refine go_run' ttok 3 rfl ?_
  first
    | refine go_call fn73 (rby_h _ _) rfl rfl rfl rfl rfl rfl rfl ?_
    | refine go_call fn73 (rby_h_v1 _ _ _) rfl rfl rfl rfl rfl rfl rfl ?_
  refine go_run' ttok 3 rfl ?_
  first
    | refine go_call fn73 (rby_h _ _) rfl rfl rfl rfl rfl rfl rfl ?_
    | refine go_call fn73 (rby_h_v1 _ _ _) rfl rfl rfl rfl rfl rfl rfl ?_
  refine go_run' ttok 2 rfl ?_
  refine go_nil (fun _ => by kernel_rfl) ?_
  refine then_norm ?_
  refine awp_ret ?_
  refine ret_ret ?_
  refine fin0 ttok rfl rfl ?_
  simp [wkP, wkL, scEq, encBx, moveB]

theorem rbounded_h (s : Sp)  : Holds Try.prog 65 [encSp s] [] (B (boundedS s)) [] := by
  refine holds_fn Try.func65 rfl Try.ntmps65 rfl rfl rfl ?_
  refine awp_seq ?_
  refine awp_go hmix ?_
  refine go_run' ttok 2 rfl ?_
  refine go_nil nd ?_
  refine then_norm ?_
  refine awp_seq ?_
  refine awp_go hmix ?_
  refine go_run' ttok 4 rfl ?_
  refine go_gcase rfl rfl rfl (fun g6 => ?_) (fun g6 => ?_)
  · rw [g6]
    refine go_run' ttok 5 rfl ?_
    refine go_gcase rfl rfl rfl (fun g11 => ?_) (fun g11 => ?_)
    · rw [g11]
      refine go_run' ttok 5 rfl ?_
      refine go_gcase rfl rfl rfl (fun g16 => ?_) (fun g16 => ?_)
      · rw [g16]
        refine go_run' ttok 5 rfl ?_
        refine go_nil nd ?_
        refine then_norm ?_
        refine awp_ret ?_
        refine ret_ret ?_
        refine fin0 ttok rfl rfl ?_
        simp only [wkP, scEq, boundedS, Bool.true_and, Bool.false_and, Bool.and_true, Bool.and_false, Bool.true_or, Bool.false_or, Bool.or_true, Bool.or_false, Bool.not_true, Bool.not_false, cond_true, cond_false, *]
      · rw [g16]
        refine go_run' ttok 5 rfl ?_
        refine go_nil nd ?_
        refine then_norm ?_
        refine awp_ret ?_
        refine ret_ret ?_
        refine fin0 ttok rfl rfl ?_
        simp only [wkP, scEq, boundedS, Bool.true_and, Bool.false_and, Bool.and_true, Bool.and_false, Bool.true_or, Bool.false_or, Bool.or_true, Bool.or_false, Bool.not_true, Bool.not_false, cond_true, cond_false, *]
    · rw [g11]
      refine go_run' ttok 10 rfl ?_
      refine go_nil nd ?_
      refine then_norm ?_
      refine awp_ret ?_
      refine ret_ret ?_
      refine fin0 ttok rfl rfl ?_
      simp only [wkP, scEq, boundedS, Bool.true_and, Bool.false_and, Bool.and_true, Bool.and_false, Bool.true_or, Bool.false_or, Bool.or_true, Bool.or_false, Bool.not_true, Bool.not_false, cond_true, cond_false, *]
  · rw [g6]
    refine go_run' ttok 15 rfl ?_
    refine go_nil nd ?_
    refine then_norm ?_
    refine awp_ret ?_
    refine ret_ret ?_
    refine fin0 ttok rfl rfl ?_
    simp only [wkP, scEq, boundedS, Bool.true_and, Bool.false_and, Bool.and_true, Bool.and_false, Bool.true_or, Bool.false_or, Bool.or_true, Bool.or_false, Bool.not_true, Bool.not_false, cond_true, cond_false, *]

theorem rbounded_h_v1 (s0 s1 : Int)  : Holds Try.prog 65 [.agg [I s0, I s1]] [] (B (boundedS ⟨s0, s1⟩)) [] :=
  rbounded_h ⟨s0, s1⟩


theorem rquarter_h (b : Bx) : Holds Try.prog 67 [encBx b] [] (encBx (quarterB b)) [] := by
  refine holds_fn Try.func67 rfl Try.ntmps67 rfl rfl rfl ?_
  refine awp_seq ?_
  refine awp_go hmix ?_
  refine go_run' ttok 2 rfl ?_
  refine go_nil nd ?_
  refine then_norm ?_
  refine awp_seq ?_
  refine awp_go hmix ?_
  refine go_run' ttok 15 rfl ?_
  refine go_nil nd ?_
  refine then_norm ?_
  refine awp_ret ?_
  refine ret_ret ?_
  refine fin0 ttok rfl rfl ?_
  simp [wkP, wkL, scEq, encBx, quarterB]

theorem rdsize_h (d : Df) (hd : d.ok) : Holds Try.prog 32 [encDf d] [] (I (sizeD d)) [] := by
  obtain ⟨hk, hx, hy, hz⟩ := hd
  refine holds_fn Try.func32 rfl Try.ntmps32 rfl rfl rfl ?_
  refine awp_seq ?_
  refine awp_go hmix ?_
  refine go_run' ttok 2 rfl ?_
  refine go_nil nd ?_
  refine then_norm ?_
  refine awp_seq ?_
  refine awp_go hmix ?_
  refine go_run' ttok 3 rfl ?_
  first
    | refine go_call fn28 (rlen_h _ (by assumption)) rfl rfl rfl rfl rfl rfl rfl ?_
    | refine go_call fn28 (rlen_h_v1 _ _ (by assumption)) rfl rfl rfl rfl rfl rfl rfl ?_
  refine go_run' ttok 3 rfl ?_
  first
    | refine go_call fn28 (rlen_h _ (by assumption)) rfl rfl rfl rfl rfl rfl rfl ?_
    | refine go_call fn28 (rlen_h_v1 _ _ (by assumption)) rfl rfl rfl rfl rfl rfl rfl ?_
  refine go_run' ttok 2 rfl ?_
  refine go_nil (fun _ => by kernel_rfl) ?_
  refine then_norm ?_
  refine awp_ret ?_
  refine ret_ret ?_
  refine fin0 ttok rfl rfl ?_
  exact ⟨rfl, rfl⟩

theorem rknot_h (d : Df) : Holds Try.prog 27 [encDf d] [] (B (knotD d)) [] := by
  refine holds_fn Try.func27 rfl Try.ntmps27 rfl rfl rfl ?_
  refine awp_seq ?_
  refine awp_go hmix ?_
  refine go_run' ttok 2 rfl ?_
  refine go_nil nd ?_
  refine then_norm ?_
  refine awp_seq ?_
  refine awp_go hmix ?_
  refine go_run' ttok 4 rfl ?_
  refine go_gcase rfl rfl rfl (fun g6 => ?_) (fun g6 => ?_)
  · rw [g6]
    refine go_run' ttok 5 rfl ?_
    refine go_nil nd ?_
    refine then_norm ?_
    refine awp_ret ?_
    refine ret_ret ?_
    refine fin0 ttok rfl rfl ?_
    simp only [wkP, scEq, knotD, Bool.true_and, Bool.false_and, Bool.and_true, Bool.and_false, Bool.true_or, Bool.false_or, Bool.or_true, Bool.or_false, Bool.not_true, Bool.not_false, cond_true, cond_false, *]
  · rw [g6]
    refine go_run' ttok 5 rfl ?_
    refine go_nil nd ?_
    refine then_norm ?_
    refine awp_ret ?_
    refine ret_ret ?_
    refine fin0 ttok rfl rfl ?_
    simp only [wkP, scEq, knotD, Bool.true_and, Bool.false_and, Bool.and_true, Bool.and_false, Bool.true_or, Bool.false_or, Bool.or_true, Bool.or_false, Bool.not_true, Bool.not_false, cond_true, cond_false, *]

def quartersI (q : Int) : Int := IntKind.i64.wrap (q.tmod 4 + 4) |>.tmod 4


theorem quarters_h (q : Int) : Holds Try.prog 66 [I q] [] (I (quartersI q)) [] := by
  refine holds_fn Try.func66 rfl Try.ntmps66 rfl rfl rfl ?_
  refine awp_seq ?_
  refine awp_go hmix ?_
  refine go_run' ttok 1 rfl ?_
  refine go_nil nd ?_
  refine then_norm ?_
  refine awp_seq ?_
  refine awp_go hmix ?_
  refine go_run' ttok 5 rfl ?_
  refine go_nil nd ?_
  refine then_norm ?_
  refine awp_ret ?_
  refine ret_ret ?_
  refine fin0 ttok rfl rfl ?_
  exact ⟨rfl, rfl⟩

theorem lbox_h (a b c d e f : Int) : Holds Try.prog 48 [I a, I b, I c, I d, I e, I f] [] (encBx ⟨⟨a, b⟩, ⟨c, d⟩, ⟨e, f⟩⟩) [] := by
  refine holds_fn Try.func48 rfl Try.ntmps48 rfl rfl rfl ?_
  refine awp_seq ?_
  refine awp_go hmix ?_
  refine go_run' ttok 1 rfl ?_
  refine go_nil nd ?_
  refine then_norm ?_
  refine awp_seq ?_
  refine awp_go hmix ?_
  refine go_run' ttok 11 rfl ?_
  refine go_nil nd ?_
  refine then_norm ?_
  refine awp_ret ?_
  refine ret_ret ?_
  refine fin0 ttok rfl rfl ?_
  simp [wkP, wkL, scEq, encBx]

theorem fits_h (b : Bx) : Holds Try.prog 47 [encBx b] [] (B (rangedB b && (!emB b && (decide (IntKind.i64.wrap (b.x.b - b.x.a) ≤ 600) && decide (IntKind.i64.wrap (b.y.b - b.y.a) ≤ 600))))) [] := by
  refine holds_fn Try.func47 rfl Try.ntmps47 rfl rfl rfl ?_
  refine awp_seq ?_
  refine awp_go hmix ?_
  refine go_run' ttok 2 rfl ?_
  refine go_nil nd ?_
  refine then_norm ?_
  refine awp_seq ?_
  refine awp_go hmix ?_
  refine go_run' ttok 1 rfl ?_
  refine go_call fn60 (ranged_h _) rfl rfl rfl rfl rfl rfl rfl ?_
  refine go_run' ttok 1 rfl ?_
  refine go_gcase rfl rfl rfl (fun g5 => ?_) (fun g5 => ?_)
  · rw [g5]
    refine go_run' ttok 1 rfl ?_
    refine go_call fn50 (rempty_h _) rfl rfl rfl rfl rfl rfl rfl ?_
    refine go_run' ttok 3 rfl ?_
    refine go_gcase rfl rfl rfl (fun g10 => ?_) (fun g10 => ?_)
    · rw [g10]
      refine go_run' ttok 10 rfl ?_
      refine go_gcase rfl rfl rfl (fun g20 => ?_) (fun g20 => ?_)
      · rw [g20]
        refine go_run' ttok 10 rfl ?_
        refine go_nil nd ?_
        refine then_norm ?_
        refine awp_ret ?_
        refine ret_ret ?_
        refine fin0 ttok rfl rfl ?_
        simp only [wkP, scEq, Bool.true_and, Bool.false_and, Bool.and_true, Bool.and_false, Bool.true_or, Bool.false_or, Bool.or_true, Bool.or_false, Bool.not_true, Bool.not_false, cond_true, cond_false, *]
      · rw [g20]
        refine go_run' ttok 10 rfl ?_
        refine go_nil nd ?_
        refine then_norm ?_
        refine awp_ret ?_
        refine ret_ret ?_
        refine fin0 ttok rfl rfl ?_
        simp only [wkP, scEq, Bool.true_and, Bool.false_and, Bool.and_true, Bool.and_false, Bool.true_or, Bool.false_or, Bool.or_true, Bool.or_false, Bool.not_true, Bool.not_false, cond_true, cond_false, *]
    · rw [g10]
      refine go_run' ttok 20 rfl ?_
      refine go_nil nd ?_
      refine then_norm ?_
      refine awp_ret ?_
      refine ret_ret ?_
      refine fin0 ttok rfl rfl ?_
      simp only [wkP, scEq, Bool.true_and, Bool.false_and, Bool.and_true, Bool.and_false, Bool.true_or, Bool.false_or, Bool.or_true, Bool.or_false, Bool.not_true, Bool.not_false, cond_true, cond_false, *]
  · rw [g5]
    refine go_run' ttok 25 rfl ?_
    refine go_nil nd ?_
    refine then_norm ?_
    refine awp_ret ?_
    refine ret_ret ?_
    refine fin0 ttok rfl rfl ?_
    simp only [wkP, scEq, Bool.true_and, Bool.false_and, Bool.and_true, Bool.and_false, Bool.true_or, Bool.false_or, Bool.or_true, Bool.or_false, Bool.not_true, Bool.not_false, cond_true, cond_false, *]

end Go.Proofs.Ytbgoflekklfdjaa
