/- F1: what functions of the program compute (written by gen.py). -/
import Derived.Test.YtmfgheklnjmbjaaTt
import Derived.KernelRfl
namespace Go.Proofs.Ytmfgheklnjmbjaa
open Go Go.Ab
set_option linter.unusedSimpArgs false
set_option linter.unusedVariables false

def I64 (n : Int) : Prop := -9223372036854775808 ≤ n ∧ n ≤ 9223372036854775807

theorem w64 (n : Int) : IntKind.i64.wrap n = if n % 18446744073709551616 ≥ 9223372036854775808 then n % 18446744073709551616 - 18446744073709551616 else n % 18446744073709551616 := by
  simp [IntKind.wrap, IntKind.signed, IntKind.bits]
theorem wu64 (n : Int) : IntKind.u64.wrap n = n % 18446744073709551616 := by
  simp [IntKind.wrap, IntKind.signed, IntKind.bits]
theorem w64_id {n : Int} (h : I64 n) : IntKind.i64.wrap n = n := by
  unfold I64 at h; rw [w64]; split <;> omega
theorem w64_id' {n : Int} (h1 : -9223372036854775808 ≤ n) (h2 : n ≤ 9223372036854775807) : IntKind.i64.wrap n = n := w64_id ⟨h1, h2⟩
theorem w64_I64 (n : Int) : I64 (IntKind.i64.wrap n) := by unfold I64; rw [w64]; split <;> omega

structure Sp where
  a : Int
  b : Int
  deriving DecidableEq
structure Bx where
  x : Sp
  y : Sp
  z : Sp
  deriving DecidableEq
structure Df where
  k : Int
  b : Bx
  deriving DecidableEq
def encSp (s : Sp) : AV := .agg [I s.a, I s.b]
def encBx (b : Bx) : AV := .agg [I b.x.a, I b.x.b, I b.y.a, I b.y.b, I b.z.a, I b.z.b]
def encDf (d : Df) : AV := .agg [I d.k, I d.b.x.a, I d.b.x.b, I d.b.y.a, I d.b.y.b, I d.b.z.a, I d.b.z.b]
def Sp.ok (s : Sp) : Prop := I64 s.a ∧ I64 s.b
def Bx.ok (b : Bx) : Prop := b.x.ok ∧ b.y.ok ∧ b.z.ok
def Df.ok (d : Df) : Prop := I64 d.k ∧ d.b.ok

theorem take_succ_get {α : Type} {l : List α} {k : Nat} (h : k < l.length) : l.take (k + 1) = l.take k ++ [l[k]] := by
  rw [List.take_succ_eq_append_getElem h]
theorem get_map {α : Type} {l : List α} {f : α → AV} {k : Nat} (h : k < l.length) : (l.map f)[((k : Nat) : Int).toNat]? = some (f l[k]) := by
  simp [h]

/-- The number of integers of a span. -/
def spanLenU (s : Sp) : Int := if s.b ≤ s.a then 0 else s.b - s.a
def spanLen (s : Sp) : Int := min (spanLenU s) 9223372036854775807
theorem spanLenU_lo {s : Sp} (h : s.ok) : 0 ≤ spanLenU s ∧ spanLenU s < 18446744073709551616 := by
  obtain ⟨ha, hb⟩ := h
  unfold spanLenU; unfold I64 at ha hb; split <;> omega
theorem spanLen_lo {s : Sp} (h : s.ok) : 0 ≤ spanLen s ∧ spanLen s ≤ 9223372036854775807 := by
  have := spanLenU_lo h; unfold spanLen; omega
def meet (s t : Sp) : Sp := if min s.b t.b ≤ max s.a t.a then ⟨0, 0⟩ else ⟨max s.a t.a, min s.b t.b⟩


end Go.Proofs.Ytmfgheklnjmbjaa
