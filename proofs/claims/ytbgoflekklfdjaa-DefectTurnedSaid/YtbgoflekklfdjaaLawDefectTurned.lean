/- For every input the law 'DefectTurned' returns true, and each argument reads afterwards as it did before. No condition. -/
import Derived.Test.YtbgoflekklfdjaaRows
import Derived.Test.YtbgoflekklfdjaaP3
namespace Go.Proofs.Ytbgoflekklfdjaa
open Go.ChangeShapes Go.WideShapes Go.ChangeAt Go.RowKit Go.Ab

theorem defectTurned_own : ownKnob Try.prog.godebug = none := by kernel_rfl
theorem defectTurned_laid : laidOutB Try.prog = true := by kernel_rfl

theorem defectTurned_walk (xs : List AV) (h : OfAll [(.slice shDf), shBx, (.struct [(.int .i64), (.int .i64)])] xs) : Holds Try.prog 13 xs [] (.sc (.bool true)) [] := by
  obtain ⟨x1, x2, x3, rfl, h1, h2, h3⟩ := of3 h
  obtain ⟨a1, rfl, k1⟩ := of_c (fun _ => (el_slice (fun _ => el_df))) h1
  obtain ⟨a2, rfl, k2⟩ := of_c (fun _ => el_bx) h2
  obtain ⟨a3, rfl, k3⟩ := of_c (fun _ => (el_arr2 (fun _ => c_int))) h3
  exact l13_DefectTurned_w a1 a2 a3 true (defectTurned_true a1 a2 a3 k1.1)

set_option maxRecDepth 100000 in
theorem defectTurned_lifted (os : Os) (started : os.Started) (H : Type) (enc : TypeId × Value → H) :
    ReturnsInHanded {} Try.checked os 13 .any (Rows.defectTurnedSpec.pre6 enc Try.prog Try.f13 Rows.defectTurnedRow.domain false) (Rows.defectTurnedSpec.post enc Try.prog Try.f13 false true false false) := by
  refine returnsInHanded_of_change (C := Try.checked) defectTurned_own started (by kernel_rfl) Try.func13
    (ChangeSpec.witness6 (enc := enc) (C := Try.checked) false ⟨#[], #[.slice none 0 0, .agg #[.int .i64 0, .int .i64 0, .int .i64 0, .int .i64 0, .int .i64 0, .int .i64 0], .agg #[.int .i64 0, .int .i64 0]], []⟩ 8 (by kernel_rfl) (by kernel_rfl) (by kernel_rfl) (by kernel_rfl)) ?_
  intro W base args ds gs before hval hW hcnd _
  refine law_inner (fn := Try.f13) (spec := Rows.defectTurnedSpec) [(.slice shDf), shBx, (.struct [(.int .i64), (.int .i64)])] defectTurned_laid (by kernel_rfl) (by kernel_rfl) rfl (by kernel_rfl : Try.f13.resultTypes = #[4]) Try.underlying4 ?_ defectTurned_walk hval hW
  intro ds hds
  match ds, hds with
  | [_, _, _], _ => exact ⟨rfl, rfl, rfl⟩

theorem defectTurned_holds : Rows.DefectTurnedSaid :=
  OpenClaim.holds_of_wide 13 Try.f13 rfl rfl rfl rfl rfl rfl rfl ⟨rfl, rfl, rfl, rfl, rfl⟩ rfl rfl rfl rfl rfl (by kernel_rfl) Try.func13 (by kernel_rfl)
    (of_decide_eq_true (by kernel_rfl)) (by unfold Func.isWrapper; first | (rw [if_pos (by decide +kernel)]; kernel_rfl) | (rw [if_neg (by decide +kernel)]; exact ⟨rfl, rfl⟩))
    (fun os started H enc _ => defectTurned_lifted os started H enc)

end Go.Proofs.Ytbgoflekklfdjaa
