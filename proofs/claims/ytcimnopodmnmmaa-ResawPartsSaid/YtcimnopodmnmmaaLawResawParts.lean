/- For every input the law 'ResawParts' returns true, and each argument reads afterwards as it did before. No condition. -/
import Derived.Test.YtcimnopodmnmmaaRows
import Derived.Test.YtcimnopodmnmmaaP2
namespace Go.Proofs.Ytcimnopodmnmmaa
open Go.ChangeShapes Go.WideShapes Go.ChangeAt Go.RowKit Go.Ab

theorem resawParts_own : ownKnob Try.prog.godebug = none := by kernel_rfl
theorem resawParts_laid : laidOutB Try.prog = true := by kernel_rfl

theorem resawParts_walk (xs : List AV) (h : OfAll [shTsawmilllaw27_Parts] xs) : Holds Try.prog 6 xs [] (.sc (.bool true)) [] := by
  obtain ⟨x1, rfl, h1⟩ := of1 h
  obtain ⟨a1, rfl, k1⟩ := of_c (fun _ => el_Tsawmilllaw27_Parts) h1
  exact l27_ResawParts_w a1 true (resawParts_true a1)

set_option maxRecDepth 100000 in
theorem resawParts_lifted (os : Os) (started : os.Started) (H : Type) (enc : TypeId × Value → H) :
    ReturnsInHanded {} Try.checked os 6 .any (Rows.resawPartsSpec.pre6 enc Try.prog Try.f6 Rows.resawPartsRow.domain false) (Rows.resawPartsSpec.post enc Try.prog Try.f6 false true false false) := by
  refine returnsInHanded_of_change (C := Try.checked) resawParts_own started (by kernel_rfl) Try.func6
    (ChangeSpec.witness6 (enc := enc) (C := Try.checked) false ⟨#[], #[.agg #[.int .i64 0, .int .i64 0, .slice none 0 0, .slice none 0 0]], []⟩ 8 (by kernel_rfl) (by kernel_rfl) (by kernel_rfl) (by kernel_rfl)) ?_
  intro W base args ds gs before hval hW hcnd _
  refine law_inner (fn := Try.f6) (spec := Rows.resawPartsSpec) [shTsawmilllaw27_Parts] resawParts_laid (by kernel_rfl) (by kernel_rfl) rfl (by kernel_rfl : Try.f6.resultTypes = #[4]) Try.underlying4 ?_ resawParts_walk hval hW
  intro ds hds
  match ds, hds with
  | [_], _ => exact ⟨rfl, rfl, rfl⟩

theorem resawParts_holds : Rows.ResawPartsSaid :=
  OpenClaim.holds_of_wide 6 Try.f6 rfl rfl rfl rfl rfl rfl rfl ⟨rfl, rfl, rfl, rfl, rfl⟩ rfl rfl rfl rfl rfl (by kernel_rfl) Try.func6 (by kernel_rfl)
    (of_decide_eq_true (by kernel_rfl)) (by unfold Func.isWrapper; first | (rw [if_pos (by decide +kernel)]; kernel_rfl) | (rw [if_neg (by decide +kernel)]; exact ⟨rfl, rfl⟩))
    (fun os started H enc _ => resawParts_lifted os started H enc)

end Go.Proofs.Ytcimnopodmnmmaa
