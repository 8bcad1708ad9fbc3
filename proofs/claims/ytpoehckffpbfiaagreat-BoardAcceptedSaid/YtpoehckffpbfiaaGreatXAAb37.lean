/- The abstract layer, part 37: small steps for functions that hold a range over a function. -/
import Derived.Test.YtpoehckffpbfiaaGreatXAAb36
namespace Go.Ab
open Go.RowKit
variable {P : Program}
def plainOp : Op → Bool
 | .move _ | .assign _ | .load _ _ | .store _ _ _ => true
 | _ => false
theorem plainOp_spec {ops : Array Oper} (h : (ops.toList.all fun o => plainOp o.op) = true) : ∀ o ∈ ops, ∀ ρ w d w', (execOp ρ o).run P w ≠ .ok (.defer d) w' := by
 intro o ho ρ w d w' he
 have := List.all_eq_true.1 h o (by simpa using ho)
 unfold execOp at he
 cases hop : o.op <;> simp only [hop, plainOp] at this he <;> first | (cases this; done) | skip
 ·simp at he
 ·simp at he
 ·rename_i t x
  cases hr : (Instr.loadAt t (ρ x)).run P w <;> simp [hr] at he
 ·rename_i t x y
  cases hr : (Instr.storeAt t (ρ x) (ρ y)).run P w <;> simp [hr] at he
theorem callFunc_ok {f : Nat} (h : FnOK P f) : ∀ args w, (callFunc f args).run P w = .ok (.enter f args) w := by
 obtain ⟨fn, h1, h2, h3⟩ := h
 intro args w
 have e1 : ¬ fn.name = "runtime.NumGoroutine" := by simpa using h2
 have e2 : ¬ fn.body = none := by
  intro h
  rw [h] at h3
  cases h3
 simp [callFunc, h1, e1, e2]
theorem assign_round {id ps xs : Nat} {ty : TypeId} {po : String} {af : Array Edge} {lp m : Nat} {W : World} {K : Act → World → Prop} {tm : Array Value} (hK : K { tmps := tm.setIfInBounds xs (tm.getD ps undef), defers := [] } W) : (Code.region id #[{ dst := some xs, op := .assign (.tmp ps), type := ty, pos := po, guard := none, after := af }] false).wpIn (Fence.wide.inRound lp) m P (Exit.then K (fun _ _ _ => False)) { tmps := tm, defers := [] } W := by
 refine wpIn_region (wpOps_round ?_ ?_ _ _ _ ?_)
 ·intro o ho c hc
  simp at ho
  subst ho
  cases hc
 ·rintro ⟨_, _, h⟩
  exact h
 ·simp [wpOps, List.range_succ, Region.wanted, Oper.wp, Oper.upon, execOp, Act.eval, Act.put]
  refine .inl ?_
  rw [Array.getD_eq_getD_getElem?] at hK
  exact hK
theorem wkF_one {n : Nat} {t mt : List (Nat × AV)} {m mm : Mem} (L : Mem) (ρ : Rho) (hr : rhoOK ρ mm = true) (hL : lendsOK ρ m L) (hmt : wkTL L ρ ⟨n, t, m⟩ mt) (hmm : wkML L ρ m mm) : WkF ⟨n, t, m⟩ ⟨n, mt, mm⟩ := ⟨L, ρ, rfl, hr, hL, hmt, hmm⟩
end Go.Ab
