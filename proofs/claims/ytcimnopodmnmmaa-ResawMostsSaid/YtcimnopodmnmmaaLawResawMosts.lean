/- For every input the law 'ResawMosts' returns true, and each argument reads afterwards as it did before. No condition. -/
import Derived.Test.YtcimnopodmnmmaaRows
import Derived.Test.YtcimnopodmnmmaaP14
namespace Go.Proofs.Ytcimnopodmnmmaa
open Go.ChangeShapes Go.WideShapes Go.ChangeAt Go.RowKit Go.Ab

theorem resawMosts_own : ownKnob Try.prog.godebug = none := by kernel_rfl
theorem resawMosts_laid : laidOutB Try.prog = true := by kernel_rfl

theorem resawMosts_walk (xs : List AV) (h : OfAll [shTsawmilllaw27_Parts] xs) : Holds Try.prog 4 xs [] (.sc (.bool true)) [] := by
  obtain ⟨x1, rfl, h1⟩ := of1 h
  obtain ⟨a1, rfl, k1⟩ := of_c (fun _ => el_Tsawmilllaw27_Parts) h1
  exact l27_ResawMosts_w a1 true (resawMosts_true a1)

set_option maxRecDepth 100000 in
theorem resawMosts_lifted (os : Os) (started : os.Started) (H : Type) (enc : TypeId × Value → H) :
    ReturnsInHanded {} Try.checked os 4 .any (Rows.resawMostsSpec.pre6 enc Try.prog Try.f4 Rows.resawMostsRow.domain false) (Rows.resawMostsSpec.post enc Try.prog Try.f4 false true false false) := by
  refine returnsInHanded_of_change (C := Try.checked) resawMosts_own started (by kernel_rfl) Try.func4
    (ChangeSpec.witness6 (enc := enc) (C := Try.checked) false ⟨#[], #[.agg #[.int .i64 0, .int .i64 0, .slice none 0 0, .slice none 0 0]], []⟩ 8 (by kernel_rfl) (by kernel_rfl) (by kernel_rfl) (by kernel_rfl)) ?_
  intro W base args ds gs before hval hW hcnd _
  refine law_inner (fn := Try.f4) (spec := Rows.resawMostsSpec) [shTsawmilllaw27_Parts] resawMosts_laid (by kernel_rfl) (by kernel_rfl) rfl (by kernel_rfl : Try.f4.resultTypes = #[4]) Try.underlying4 ?_ resawMosts_walk hval hW
  intro ds hds
  match ds, hds with
  | [_], _ => exact ⟨rfl, rfl, rfl⟩

theorem resawMosts_holds : Rows.ResawMostsSaid :=
  OpenClaim.holds_of_wide 4 Try.f4 rfl rfl rfl rfl rfl rfl rfl ⟨rfl, rfl, rfl, rfl, rfl⟩ rfl rfl rfl rfl rfl (by kernel_rfl) Try.func4 (by kernel_rfl)
    (of_decide_eq_true (by kernel_rfl)) (by unfold Func.isWrapper; first | (rw [if_pos (by decide +kernel)]; kernel_rfl) | (rw [if_neg (by decide +kernel)]; exact ⟨rfl, rfl⟩))
    (fun os started H enc _ => resawMosts_lifted os started H enc)

end Go.Proofs.Ytcimnopodmnmmaa
