/- For every input the law 'StrengthOf' returns true, and each argument reads afterwards as it did before. No condition. -/
import Derived.Test.YtbgoflekklfdjaaRows
import Derived.Test.YtbgoflekklfdjaaP2
namespace Go.Proofs.Ytbgoflekklfdjaa
open Go.ChangeShapes Go.WideShapes Go.ChangeAt Go.RowKit Go.Ab

theorem strengthOf_own : ownKnob Try.prog.godebug = none := by kernel_rfl
theorem strengthOf_laid : laidOutB Try.prog = true := by kernel_rfl

theorem strengthOf_walk (xs : List AV) (h : OfAll [shTBoard, shTSpecies] xs) : Holds Try.prog 3 xs [] (.sc (.bool true)) [] := by
  obtain ⟨x1, x2, rfl, h1, h2⟩ := of2 h
  obtain ⟨a1, rfl, k1⟩ := of_c (fun _ => el_TBoard) h1
  obtain ⟨a2, rfl, k2⟩ := of_c (fun _ => el_TSpecies) h2
  exact l41_StrengthOf_w a1 a2 true (strengthOf_true a1 a2 k1)

set_option maxRecDepth 100000 in
theorem strengthOf_lifted (os : Os) (started : os.Started) (H : Type) (enc : TypeId × Value → H) :
    ReturnsInHanded {} Try.checked os 3 .any (Rows.strengthOfSpec.pre6 enc Try.prog Try.f3 Rows.strengthOfRow.domain false) (Rows.strengthOfSpec.post enc Try.prog Try.f3 false true false false) := by
  refine returnsInHanded_of_change (C := Try.checked) strengthOf_own started (by kernel_rfl) Try.func3
    (ChangeSpec.witness6 (enc := enc) (C := Try.checked) false ⟨#[], #[.agg #[.string ⟨#[]⟩, .string ⟨#[]⟩, .string ⟨#[]⟩, .int .i64 0, .int .i64 0, .int .i64 0, .int .i64 0, .int .i64 0, .int .i64 0, .int .i64 0, .int .i64 0, .slice none 0 0, .int .i64 0, .int .i64 0, .int .i64 0, .int .i64 0, .bool false, .int .i64 0], .agg #[.string ⟨#[]⟩, .int .i64 0, .int .i64 0, .int .i64 0, .int .i64 0, .int .i64 0, .int .i64 0, .int .i64 0, .int .i64 0, .int .i64 0, .int .i64 0, .int .i64 0, .int .i64 0]], []⟩ 8 (by kernel_rfl) (by kernel_rfl) (by kernel_rfl) (by kernel_rfl)) ?_
  intro W base args ds gs before hval hW hcnd _
  refine law_inner (fn := Try.f3) (spec := Rows.strengthOfSpec) [shTBoard, shTSpecies] strengthOf_laid (by kernel_rfl) (by kernel_rfl) rfl (by kernel_rfl : Try.f3.resultTypes = #[4]) Try.underlying4 ?_ strengthOf_walk hval hW
  intro ds hds
  match ds, hds with
  | [_, _], _ => exact ⟨rfl, rfl, rfl⟩

theorem strengthOf_holds : Rows.StrengthOfSaid :=
  OpenClaim.holds_of_wide 3 Try.f3 rfl rfl rfl rfl rfl rfl rfl ⟨rfl, rfl, rfl, rfl, rfl⟩ rfl rfl rfl rfl rfl (by kernel_rfl) Try.func3 (by kernel_rfl)
    (of_decide_eq_true (by kernel_rfl)) (by unfold Func.isWrapper; first | (rw [if_pos (by decide +kernel)]; kernel_rfl) | (rw [if_neg (by decide +kernel)]; exact ⟨rfl, rfl⟩))
    (fun os started H enc _ => strengthOf_lifted os started H enc)

end Go.Proofs.Ytbgoflekklfdjaa
