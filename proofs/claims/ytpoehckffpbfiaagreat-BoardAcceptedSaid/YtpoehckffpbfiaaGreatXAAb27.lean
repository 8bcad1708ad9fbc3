/- The abstract layer, part 27: arrays of two numbers, compared. -/
import Derived.Test.YtpoehckffpbfiaaGreatXAAb26
import Derived.ChangeKeysEq
namespace Go.Ab
open Go.RowKit
section
variable {P : Program} {o : Oper} {s : St}
theorem eqArr2_run (w : World) {t e : Nat} {k : IntKind} {E : TyD} (hu : P.underlying t = some (.array 2 e)) (hE : tyOf P e = some E) (hk : E.k = .int k) (hz : E.size = 1) (a b c d : Int) (q : Nat) :
  (Op.equalIn (q + 2) t (.agg #[.int k a, .int k b]) (.agg #[.int k c, .int k d])).run P w = .ok (a == c && (b == d && true)) w := by
 have hui := int_und hE hk
 obtain ⟨i, z, u, hi, _, _, hsz, _, _, _, _⟩ := tyOf_facts hE
 have hce : P.cellsOf e = 1 := by
  have : P.cellsOf e = i.size := by simp [Program.cellsOf, hi]
  rw [this, hsz, hz]
 rw [run_equalIn_array w (q + 1) _ _ hu hi, hce]
 have p : ∀ (xs : Array Value) (j : Nat) (v : Value), xs[j]? = some v → (part e xs (j * 1)).run P w = .ok v w := by
  intro xs j v hv
  simp [part, isAgg, run_underlying hui, hv]
 have hr : List.range 2 = [0, 1] := rfl
 rw [hr]
 have p0 := p #[.int k a, .int k b] 0 (.int k a) rfl
 have p1 := p #[.int k a, .int k b] 1 (.int k b) rfl
 have q0 := p #[.int k c, .int k d] 0 (.int k c) rfl
 have q1 := p #[.int k c, .int k d] 1 (.int k d) rfl
 have e0 := run_equalIn_int w q e k _ a c hui
 have e1 := run_equalIn_int w q e k _ b d hui
 simp only [Op.eqItems, Sem.run_bind, p0, q0, p1, q1, Result.andThen_ok, e0, e1]
 rw [Nat.mul_one] at p1 q1
 cases h1 : (a == c) <;> cases h2 : (b == d) <;> simp [p1, q1, e1, h2]
theorem as_neArr2 {t ty e : Nat} {x y : Operand} {k : IntKind} {E : TyD} {a b c d : Int} (hu : P.underlying t = some (.array 2 e)) (hE : tyOf P e = some E) (hk : E.k = .int k) (hz : E.size = 1) (hm : P.eqGuardType P.depth t = false) (ho : o.op = .binOp .neq t x y ty)
  (hx : s.ev x = .agg [.sc (.int k a), .sc (.int k b)]) (hy : s.ev y = .agg [.sc (.int k c), .sc (.int k d)]) : AStep P o s ⟨.sc (.bool (!(a == c && (b == d && true)))), [], [], []⟩ := by
 intro s' _ hop _ _
 refine opok_val fun cc φ R ac w hs => ⟨.bool (!(a == c && (b == d && true))), ?_, .sc rfl⟩
 have g1 := hs.ev x
 rw [hop x (by simp [ho, Op.operands]), hx] at g1
 have g1 := Rel.agg_sc (c := [.int k a, .int k b]) g1
 have g2 := hs.ev y
 rw [hop y (by simp [ho, Op.operands]), hy] at g2
 have g2 := Rel.agg_sc (c := [.int k c, .int k d]) g2
 have hrun := eqArr2_run (P := P) w hu hE hk hz a b c d 9998
 simp [execOp, ho, g1, g2, run_eqGuard_agg w .neq t x y _ _ hm, binOp, Op.equal, Op.maxDepth, hrun]
end
end Go.Ab
