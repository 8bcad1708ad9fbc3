/- For every input the law 'StrengthMoved' returns true, and each argument reads afterwards as it did before. No condition. -/
import Derived.Test.YtbgoflekklfdjaaRows
import Derived.Test.YtbgoflekklfdjaaP2
namespace Go.Proofs.Ytbgoflekklfdjaa
open Go.ChangeShapes Go.WideShapes Go.ChangeAt Go.RowKit Go.Ab

theorem strengthMoved_own : ownKnob Try.prog.godebug = none := by kernel_rfl
theorem strengthMoved_laid : laidOutB Try.prog = true := by kernel_rfl

theorem strengthMoved_walk (xs : List AV) (h : OfAll [shTBoard, shTSpecies, shTBoard] xs) : Holds Try.prog 6 xs [] (.sc (.bool true)) [] := by
  obtain ⟨x1, x2, x3, rfl, h1, h2, h3⟩ := of3 h
  obtain ⟨a1, rfl, k1⟩ := of_c (fun _ => el_TBoard) h1
  obtain ⟨a2, rfl, k2⟩ := of_c (fun _ => el_TSpecies) h2
  obtain ⟨a3, rfl, k3⟩ := of_c (fun _ => el_TBoard) h3
  exact l41_StrengthMoved_w a1 a2 a3 true (strengthMoved_true a1 a2 a3 k1 k3)

set_option maxRecDepth 100000 in
theorem strengthMoved_lifted (os : Os) (started : os.Started) (H : Type) (enc : TypeId × Value → H) :
    ReturnsInHanded {} Try.checked os 6 .any (Rows.strengthMovedSpec.pre6 enc Try.prog Try.f6 Rows.strengthMovedRow.domain false) (Rows.strengthMovedSpec.post enc Try.prog Try.f6 false true false false) := by
  refine returnsInHanded_of_change (C := Try.checked) strengthMoved_own started (by kernel_rfl) Try.func6
    (ChangeSpec.witness6 (enc := enc) (C := Try.checked) false ⟨#[], #[.agg #[.string ⟨#[]⟩, .string ⟨#[]⟩, .string ⟨#[]⟩, .int .i64 0, .int .i64 0, .int .i64 0, .int .i64 0, .int .i64 0, .int .i64 0, .int .i64 0, .int .i64 0, .slice none 0 0, .int .i64 0, .int .i64 0, .int .i64 0, .int .i64 0, .bool false, .int .i64 0], .agg #[.string ⟨#[]⟩, .int .i64 0, .int .i64 0, .int .i64 0, .int .i64 0, .int .i64 0, .int .i64 0, .int .i64 0, .int .i64 0, .int .i64 0, .int .i64 0, .int .i64 0, .int .i64 0], .agg #[.string ⟨#[]⟩, .string ⟨#[]⟩, .string ⟨#[]⟩, .int .i64 0, .int .i64 0, .int .i64 0, .int .i64 0, .int .i64 0, .int .i64 0, .int .i64 0, .int .i64 0, .slice none 0 0, .int .i64 0, .int .i64 0, .int .i64 0, .int .i64 0, .bool false, .int .i64 0]], []⟩ 8 (by kernel_rfl) (by kernel_rfl) (by kernel_rfl) (by kernel_rfl)) ?_
  intro W base args ds gs before hval hW hcnd _
  refine law_inner (fn := Try.f6) (spec := Rows.strengthMovedSpec) [shTBoard, shTSpecies, shTBoard] strengthMoved_laid (by kernel_rfl) (by kernel_rfl) rfl (by kernel_rfl : Try.f6.resultTypes = #[4]) Try.underlying4 ?_ strengthMoved_walk hval hW
  intro ds hds
  match ds, hds with
  | [_, _, _], _ => exact ⟨rfl, rfl, rfl⟩

theorem strengthMoved_holds : Rows.StrengthMovedSaid :=
  OpenClaim.holds_of_wide 6 Try.f6 rfl rfl rfl rfl rfl rfl rfl ⟨rfl, rfl, rfl, rfl, rfl⟩ rfl rfl rfl rfl rfl (by kernel_rfl) Try.func6 (by kernel_rfl)
    (of_decide_eq_true (by kernel_rfl)) (by unfold Func.isWrapper; first | (rw [if_pos (by decide +kernel)]; kernel_rfl) | (rw [if_neg (by decide +kernel)]; exact ⟨rfl, rfl⟩))
    (fun os started H enc _ => strengthMoved_lifted os started H enc)

end Go.Proofs.Ytbgoflekklfdjaa
