/- F1: what functions of the program compute (written by gen.py). -/
import Derived.Test.YtpoehckffpbfiaaTt
import Derived.KernelRfl
namespace Go.Proofs.Ytpoehckffpbfiaa
open Go Go.Ab
set_option linter.unusedSimpArgs false
set_option linter.unusedVariables false

def I64 (n : Int) : Prop := -9223372036854775808 ≤ n ∧ n ≤ 9223372036854775807

theorem w64 (n : Int) : IntKind.i64.wrap n = if n % 18446744073709551616 ≥ 9223372036854775808 then n % 18446744073709551616 - 18446744073709551616 else n % 18446744073709551616 := by
  simp [IntKind.wrap, IntKind.signed, IntKind.bits]
theorem wu64 (n : Int) : IntKind.u64.wrap n = n % 18446744073709551616 := by
  simp [IntKind.wrap, IntKind.signed, IntKind.bits]
theorem w64_id {n : Int} (h : I64 n) : IntKind.i64.wrap n = n := by
  unfold I64 at h; rw [w64]; split <;> omega
theorem w64_id' {n : Int} (h1 : -9223372036854775808 ≤ n) (h2 : n ≤ 9223372036854775807) : IntKind.i64.wrap n = n := w64_id ⟨h1, h2⟩
theorem w64_I64 (n : Int) : I64 (IntKind.i64.wrap n) := by unfold I64; rw [w64]; split <;> omega

structure Sp where
  a : Int
  b : Int
  deriving DecidableEq
structure Bx where
  x : Sp
  y : Sp
  z : Sp
  deriving DecidableEq
structure Df where
  k : Int
  b : Bx
  deriving DecidableEq
def encSp (s : Sp) : AV := .agg [I s.a, I s.b]
def encBx (b : Bx) : AV := .agg [I b.x.a, I b.x.b, I b.y.a, I b.y.b, I b.z.a, I b.z.b]
def encDf (d : Df) : AV := .agg [I d.k, I d.b.x.a, I d.b.x.b, I d.b.y.a, I d.b.y.b, I d.b.z.a, I d.b.z.b]
def Sp.ok (s : Sp) : Prop := I64 s.a ∧ I64 s.b
def Bx.ok (b : Bx) : Prop := b.x.ok ∧ b.y.ok ∧ b.z.ok
def Df.ok (d : Df) : Prop := I64 d.k ∧ d.b.ok

theorem take_succ_get {α : Type} {l : List α} {k : Nat} (h : k < l.length) : l.take (k + 1) = l.take k ++ [l[k]] := by
  rw [List.take_succ_eq_append_getElem h]
theorem get_map {α : Type} {l : List α} {f : α → AV} {k : Nat} (h : k < l.length) : (l.map f)[((k : Nat) : Int).toNat]? = some (f l[k]) := by
  simp [h]

/-- The number of integers of a span. -/
def spanLenU (s : Sp) : Int := if s.b ≤ s.a then 0 else s.b - s.a
def spanLen (s : Sp) : Int := min (spanLenU s) 9223372036854775807
theorem spanLenU_lo {s : Sp} (h : s.ok) : 0 ≤ spanLenU s ∧ spanLenU s < 18446744073709551616 := by
  obtain ⟨ha, hb⟩ := h
  unfold spanLenU; unfold I64 at ha hb; split <;> omega
theorem spanLen_lo {s : Sp} (h : s.ok) : 0 ≤ spanLen s ∧ spanLen s ≤ 9223372036854775807 := by
  have := spanLenU_lo h; unfold spanLen; omega
def meet (s t : Sp) : Sp := if min s.b t.b ≤ max s.a t.a then ⟨0, 0⟩ else ⟨max s.a t.a, min s.b t.b⟩


theorem size_h (s : Sp) (h : s.ok) : Holds Try.prog 96 [encSp s] [] (.sc (.int .u64 (spanLenU s))) [] := by
  refine holds_fn Try.func96 rfl Try.ntmps96 rfl rfl rfl (fun lim => ?_)
  refine awp_seq ?_
  refine awp_go hmix ?_
  refine go_run' ttok 2 rfl ?_
  refine go_nil nd ?_
  refine then_norm ?_
  refine awp_seq ?_
  refine awp_seq ?_
  refine awp_go hmix ?_
  refine go_run' ttok 5 rfl ?_
  refine go_nil nd ?_
  refine then_norm ?_
  refine awp_cond rfl (fun c7 => ?_) (fun c7 => ?_)
  · skip
    refine awp_seq ?_
    refine awp_go hmix ?_
    refine go_run' ttok 1 rfl ?_
    refine go_nil nd ?_
    refine then_norm ?_
    refine awp_ret ?_
    refine then_ret ?_
    refine ret_ret ?_
    refine fin0 ttok rfl rfl ?_
    simp at c7
    exact ⟨rfl, by simp [spanLenU, c7]⟩
  · skip
    refine awp_skip ?_
    refine then_norm ?_
    refine awp_seq ?_
    refine awp_go hmix ?_
    refine go_run' ttok 8 rfl ?_
    refine go_nil nd ?_
    refine then_norm ?_
    refine awp_ret ?_
    refine ret_ret ?_
    refine fin0 ttok rfl rfl ?_
    simp at c7
    refine ⟨rfl, ?_⟩
    obtain ⟨ha, hb⟩ := h
    unfold I64 at ha hb
    simp only [wu64, spanLenU]
    rw [if_neg (by omega)]
    omega

theorem size_h_v1 (s0 s1 : Int) (h : (⟨s0, s1⟩ : Sp).ok) : Holds Try.prog 96 [.agg [I s0, I s1]] [] (.sc (.int .u64 (spanLenU ⟨s0, s1⟩))) [] :=
  size_h ⟨s0, s1⟩ h


theorem limited_h (u : Int) (hu : 0 ≤ u ∧ u < 18446744073709551616) : Holds Try.prog 95 [.sc (.int .u64 u)] [] (I (min u 9223372036854775807)) [] := by
  refine holds_fn Try.func95 rfl Try.ntmps95 rfl rfl rfl (fun lim => ?_)
  refine awp_seq ?_
  refine awp_go hmix ?_
  refine go_run' ttok 1 rfl ?_
  refine go_nil nd ?_
  refine then_norm ?_
  refine awp_seq ?_
  refine awp_go hmix ?_
  refine go_run' ttok 4 rfl ?_
  refine go_nil nd ?_
  refine then_norm ?_
  refine awp_ret ?_
  refine ret_ret ?_
  refine fin0 ttok rfl rfl ?_
  refine ⟨rfl, ?_⟩
  rw [w64_id]
  unfold I64
  omega

theorem len_h (s : Sp) (h : s.ok) : Holds Try.prog 75 [encSp s] [] (I (spanLen s)) [] := by
  refine holds_fn Try.func75 rfl Try.ntmps75 rfl rfl rfl (fun lim => ?_)
  refine awp_seq ?_
  refine awp_go hmix ?_
  refine go_run' ttok 2 rfl ?_
  refine go_nil nd ?_
  refine then_norm ?_
  refine awp_seq ?_
  refine awp_go hmix ?_
  refine go_run' ttok 1 rfl ?_
  first
    | refine go_call fn96 (size_h _ (by assumption)) rfl rfl rfl rfl rfl rfl rfl ?_
    | refine go_call fn96 (size_h_v1 _ _ (by assumption)) rfl rfl rfl rfl rfl rfl rfl ?_
  refine go_call fn95 (limited_h _ (spanLenU_lo (by assumption))) rfl rfl rfl rfl rfl rfl rfl ?_
  refine go_run' ttok 1 rfl ?_
  refine go_nil nd ?_
  refine then_norm ?_
  refine awp_ret ?_
  refine ret_ret ?_
  refine fin0 ttok rfl rfl ?_
  exact ⟨rfl, rfl⟩

theorem len_h_v1 (s0 s1 : Int) (h : (⟨s0, s1⟩ : Sp).ok) : Holds Try.prog 75 [.agg [I s0, I s1]] [] (I (spanLen ⟨s0, s1⟩)) [] :=
  len_h ⟨s0, s1⟩ h


theorem meet_h (s : Sp) (t : Sp)  : Holds Try.prog 76 [encSp s, encSp t] [] (encSp (meet s t)) [] := by
  refine holds_fn Try.func76 rfl Try.ntmps76 rfl rfl rfl (fun lim => ?_)
  refine awp_seq ?_
  refine awp_go hmix ?_
  refine go_run' ttok 3 rfl ?_
  refine go_nil nd ?_
  refine then_norm ?_
  refine awp_seq ?_
  refine awp_go hmix ?_
  refine go_run' ttok 13 rfl ?_
  refine go_nil nd ?_
  refine then_norm ?_
  refine awp_seq ?_
  refine awp_seq ?_
  refine awp_go hmix ?_
  refine go_run' ttok 5 rfl ?_
  refine go_nil nd ?_
  refine then_norm ?_
  refine awp_cond rfl (fun c21 => ?_) (fun c21 => ?_)
  · skip
    refine awp_seq ?_
    refine awp_go hmix ?_
    refine go_run' ttok 2 rfl ?_
    refine go_nil nd ?_
    refine then_norm ?_
    refine awp_ret ?_
    refine then_ret ?_
    refine ret_ret ?_
    refine fin0 ttok rfl rfl ?_
    simp at c21
    simp [wkP, wkL, scEq, encSp, meet, c21]
  · skip
    refine awp_skip ?_
    refine then_norm ?_
    refine awp_seq ?_
    refine awp_go hmix ?_
    refine go_run' ttok 2 rfl ?_
    refine go_nil nd ?_
    refine then_norm ?_
    refine awp_ret ?_
    refine ret_ret ?_
    refine fin0 ttok rfl rfl ?_
    simp at c21
    simp [wkP, wkL, scEq, encSp, meet, Int.not_le.2 c21]

theorem meet_h_v1 (s0 s1 : Int) (t : Sp)  : Holds Try.prog 76 [.agg [I s0, I s1], encSp t] [] (encSp (meet ⟨s0, s1⟩ t)) [] :=
  meet_h ⟨s0, s1⟩ t


theorem meet_h_v2 (s : Sp) (t0 t1 : Int)  : Holds Try.prog 76 [encSp s, .agg [I t0, I t1]] [] (encSp (meet s ⟨t0, t1⟩)) [] :=
  meet_h s ⟨t0, t1⟩


theorem meet_h_v3 (s0 s1 : Int) (t0 t1 : Int)  : Holds Try.prog 76 [.agg [I s0, I s1], .agg [I t0, I t1]] [] (encSp (meet ⟨s0, s1⟩ ⟨t0, t1⟩)) [] :=
  meet_h ⟨s0, s1⟩ ⟨t0, t1⟩


end Go.Proofs.Ytpoehckffpbfiaa
