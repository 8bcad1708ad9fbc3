/- F1: what functions of the program compute (written by gen.py). -/
import Derived.Test.YtpoehckffpbfiaaGreatXATt
import Derived.KernelRfl
namespace Go.Proofs.YtpoehckffpbfiaaGreat
open Go Go.Ab
set_option linter.unusedSimpArgs false
set_option linter.unusedVariables false
def I64 (n : Int) : Prop := -9223372036854775808 ≤ n ∧ n ≤ 9223372036854775807
theorem w64 (n : Int) : IntKind.i64.wrap n = if n % 18446744073709551616 ≥ 9223372036854775808 then n % 18446744073709551616 - 18446744073709551616 else n % 18446744073709551616 := by
 simp [IntKind.wrap, IntKind.signed, IntKind.bits]
theorem wu64 (n : Int) : IntKind.u64.wrap n = n % 18446744073709551616 := by
 simp [IntKind.wrap, IntKind.signed, IntKind.bits]
theorem w64_id {n : Int} (h : I64 n) : IntKind.i64.wrap n = n := by
 unfold I64 at h; rw [w64]; split <;> omega
theorem w64_id' {n : Int} (h1 : -9223372036854775808 ≤ n) (h2 : n ≤ 9223372036854775807) : IntKind.i64.wrap n = n := w64_id ⟨h1, h2⟩
structure Sp where
 a : Int
 b : Int
 deriving DecidableEq
structure Bx where
 x : Sp
 y : Sp
 z : Sp
 deriving DecidableEq
structure Df where
 k : Int
 b : Bx
 deriving DecidableEq
def encSp (s : Sp) : AV := .agg [I s.a, I s.b]
def encBx (b : Bx) : AV := .agg [I b.x.a, I b.x.b, I b.y.a, I b.y.b, I b.z.a, I b.z.b]
def encDf (d : Df) : AV := .agg [I d.k, I d.b.x.a, I d.b.x.b, I d.b.y.a, I d.b.y.b, I d.b.z.a, I d.b.z.b]
def Sp.ok (s : Sp) : Prop := I64 s.a ∧ I64 s.b
def Bx.ok (b : Bx) : Prop := b.x.ok ∧ b.y.ok ∧ b.z.ok
def Df.ok (d : Df) : Prop := I64 d.k ∧ d.b.ok
def meet (s t : Sp) : Sp := if min s.b t.b ≤ max s.a t.a then ⟨0, 0⟩ else ⟨max s.a t.a, min s.b t.b⟩
end Go.Proofs.YtpoehckffpbfiaaGreat
