/- For every input the law 'ResawBoards' returns true, and each argument reads afterwards as it did before. No condition. -/
import Derived.Test.YtcimnopodmnmmaaRows
import Derived.Test.YtcimnopodmnmmaaP5
namespace Go.Proofs.Ytcimnopodmnmmaa
open Go.ChangeShapes Go.WideShapes Go.ChangeAt Go.RowKit Go.Ab

theorem resawBoards_own : ownKnob Try.prog.godebug = none := by kernel_rfl
theorem resawBoards_laid : laidOutB Try.prog = true := by kernel_rfl

theorem resawBoards_walk (xs : List AV) (h : OfAll [shTsawmilllaw27_Split] xs) : Holds Try.prog 9 xs [] (.sc (.bool true)) [] := by
  obtain ⟨x1, rfl, h1⟩ := of1 h
  obtain ⟨a1, rfl, k1⟩ := of_c (fun _ => el_Tsawmilllaw27_Split) h1
  exact l27_ResawBoards_w a1 true (resawBoards_true a1)

set_option maxRecDepth 100000 in
theorem resawBoards_lifted (os : Os) (started : os.Started) (H : Type) (enc : TypeId × Value → H) :
    ReturnsInHanded {} Try.checked os 9 .any (Rows.resawBoardsSpec.pre6 enc Try.prog Try.f9 Rows.resawBoardsRow.domain false) (Rows.resawBoardsSpec.post enc Try.prog Try.f9 false true false false) := by
  refine returnsInHanded_of_change (C := Try.checked) resawBoards_own started (by kernel_rfl) Try.func9
    (ChangeSpec.witness6 (enc := enc) (C := Try.checked) false ⟨#[], #[.agg #[.string ⟨#[]⟩, .string ⟨#[]⟩, .string ⟨#[]⟩, .int .i64 0, .int .i64 0, .int .i64 0, .int .i64 0, .int .i64 0, .int .i64 0, .int .i64 0, .int .i64 0, .slice none 0 0, .int .i64 0, .int .i64 0, .int .i64 0, .int .i64 0, .bool false, .int .i64 0, .slice none 0 0, .slice none 0 0, .int .i64 0]], []⟩ 8 (by kernel_rfl) (by kernel_rfl) (by kernel_rfl) (by kernel_rfl)) ?_
  intro W base args ds gs before hval hW hcnd _
  refine law_inner (fn := Try.f9) (spec := Rows.resawBoardsSpec) [shTsawmilllaw27_Split] resawBoards_laid (by kernel_rfl) (by kernel_rfl) rfl (by kernel_rfl : Try.f9.resultTypes = #[4]) Try.underlying4 ?_ resawBoards_walk hval hW
  intro ds hds
  match ds, hds with
  | [_], _ => exact ⟨rfl, rfl, rfl⟩

theorem resawBoards_holds : Rows.ResawBoardsSaid :=
  OpenClaim.holds_of_wide 9 Try.f9 rfl rfl rfl rfl rfl rfl rfl ⟨rfl, rfl, rfl, rfl, rfl⟩ rfl rfl rfl rfl rfl (by kernel_rfl) Try.func9 (by kernel_rfl)
    (of_decide_eq_true (by kernel_rfl)) (by unfold Func.isWrapper; first | (rw [if_pos (by decide +kernel)]; kernel_rfl) | (rw [if_neg (by decide +kernel)]; exact ⟨rfl, rfl⟩))
    (fun os started H enc _ => resawBoards_lifted os started H enc)

end Go.Proofs.Ytcimnopodmnmmaa
