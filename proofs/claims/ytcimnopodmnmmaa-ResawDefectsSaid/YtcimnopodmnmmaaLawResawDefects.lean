/- For every input the law 'ResawDefects' returns true, and each argument reads afterwards as it did before. No condition. -/
import Derived.Test.YtcimnopodmnmmaaRows
import Derived.Test.YtcimnopodmnmmaaP6
namespace Go.Proofs.Ytcimnopodmnmmaa
open Go.ChangeShapes Go.WideShapes Go.ChangeAt Go.RowKit Go.Ab

theorem resawDefects_own : ownKnob Try.prog.godebug = none := by kernel_rfl
theorem resawDefects_laid : laidOutB Try.prog = true := by kernel_rfl

theorem resawDefects_walk (xs : List AV) (h : OfAll [shTsawmilllaw27_Split] xs) : Holds Try.prog 10 xs [] (.sc (.bool true)) [] := by
  obtain ⟨x1, rfl, h1⟩ := of1 h
  obtain ⟨a1, rfl, k1⟩ := of_c (fun _ => el_Tsawmilllaw27_Split) h1
  exact l27_ResawDefects_w a1 true (resawDefects_true a1)

set_option maxRecDepth 100000 in
theorem resawDefects_lifted (os : Os) (started : os.Started) (H : Type) (enc : TypeId × Value → H) :
    ReturnsInHanded {} Try.checked os 10 .any (Rows.resawDefectsSpec.pre6 enc Try.prog Try.f10 Rows.resawDefectsRow.domain false) (Rows.resawDefectsSpec.post enc Try.prog Try.f10 false true false false) := by
  refine returnsInHanded_of_change (C := Try.checked) resawDefects_own started (by kernel_rfl) Try.func10
    (ChangeSpec.witness6 (enc := enc) (C := Try.checked) false ⟨#[], #[.agg #[.string ⟨#[]⟩, .string ⟨#[]⟩, .string ⟨#[]⟩, .int .i64 0, .int .i64 0, .int .i64 0, .int .i64 0, .int .i64 0, .int .i64 0, .int .i64 0, .int .i64 0, .slice none 0 0, .int .i64 0, .int .i64 0, .int .i64 0, .int .i64 0, .bool false, .int .i64 0, .slice none 0 0, .slice none 0 0, .int .i64 0]], []⟩ 8 (by kernel_rfl) (by kernel_rfl) (by kernel_rfl) (by kernel_rfl)) ?_
  intro W base args ds gs before hval hW hcnd _
  refine law_inner (fn := Try.f10) (spec := Rows.resawDefectsSpec) [shTsawmilllaw27_Split] resawDefects_laid (by kernel_rfl) (by kernel_rfl) rfl (by kernel_rfl : Try.f10.resultTypes = #[4]) Try.underlying4 ?_ resawDefects_walk hval hW
  intro ds hds
  match ds, hds with
  | [_], _ => exact ⟨rfl, rfl, rfl⟩

theorem resawDefects_holds : Rows.ResawDefectsSaid :=
  OpenClaim.holds_of_wide 10 Try.f10 rfl rfl rfl rfl rfl rfl rfl ⟨rfl, rfl, rfl, rfl, rfl⟩ rfl rfl rfl rfl rfl (by kernel_rfl) Try.func10 (by kernel_rfl)
    (of_decide_eq_true (by kernel_rfl)) (by unfold Func.isWrapper; first | (rw [if_pos (by decide +kernel)]; kernel_rfl) | (rw [if_neg (by decide +kernel)]; exact ⟨rfl, rfl⟩))
    (fun os started H enc _ => resawDefects_lifted os started H enc)

end Go.Proofs.Ytcimnopodmnmmaa
