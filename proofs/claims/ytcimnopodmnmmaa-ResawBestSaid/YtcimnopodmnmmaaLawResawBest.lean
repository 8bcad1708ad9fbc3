/- For every input the law 'ResawBest' returns true, and each argument reads afterwards as it did before. No condition. -/
import Derived.Test.YtcimnopodmnmmaaRows
import Derived.Test.YtcimnopodmnmmaaP11
namespace Go.Proofs.Ytcimnopodmnmmaa
open Go.ChangeShapes Go.WideShapes Go.ChangeAt Go.RowKit Go.Ab

theorem resawBest_own : ownKnob Try.prog.godebug = none := by kernel_rfl
theorem resawBest_laid : laidOutB Try.prog = true := by kernel_rfl

theorem resawBest_walk (xs : List AV) (h : OfAll [shTsawmilllaw27_Parts, (.slice (.int .i64))] xs) : Holds Try.prog 7 xs [] (.sc (.bool true)) [] := by
  obtain ⟨x1, x2, rfl, h1, h2⟩ := of2 h
  obtain ⟨a1, rfl, k1⟩ := of_c (fun _ => el_Tsawmilllaw27_Parts) h1
  obtain ⟨a2, rfl, k2⟩ := of_c (fun _ => (el_slice (fun _ => el_int))) h2
  exact l27_ResawBest_w a1 a2 true (resawBest_true a1 a2)

set_option maxRecDepth 100000 in
theorem resawBest_lifted (os : Os) (started : os.Started) (H : Type) (enc : TypeId × Value → H) :
    ReturnsInHanded {} Try.checked os 7 .any (Rows.resawBestSpec.pre6 enc Try.prog Try.f7 Rows.resawBestRow.domain false) (Rows.resawBestSpec.post enc Try.prog Try.f7 false true false false) := by
  refine returnsInHanded_of_change (C := Try.checked) resawBest_own started (by kernel_rfl) Try.func7
    (ChangeSpec.witness6 (enc := enc) (C := Try.checked) false ⟨#[], #[.agg #[.int .i64 0, .int .i64 0, .slice none 0 0, .slice none 0 0], .slice none 0 0], []⟩ 8 (by kernel_rfl) (by kernel_rfl) (by kernel_rfl) (by kernel_rfl)) ?_
  intro W base args ds gs before hval hW hcnd _
  refine law_inner (fn := Try.f7) (spec := Rows.resawBestSpec) [shTsawmilllaw27_Parts, (.slice (.int .i64))] resawBest_laid (by kernel_rfl) (by kernel_rfl) rfl (by kernel_rfl : Try.f7.resultTypes = #[4]) Try.underlying4 ?_ resawBest_walk hval hW
  intro ds hds
  match ds, hds with
  | [_, _], _ => exact ⟨rfl, rfl, rfl⟩

theorem resawBest_holds : Rows.ResawBestSaid :=
  OpenClaim.holds_of_wide 7 Try.f7 rfl rfl rfl rfl rfl rfl rfl ⟨rfl, rfl, rfl, rfl, rfl⟩ rfl rfl rfl rfl rfl (by kernel_rfl) Try.func7 (by kernel_rfl)
    (of_decide_eq_true (by kernel_rfl)) (by unfold Func.isWrapper; first | (rw [if_pos (by decide +kernel)]; kernel_rfl) | (rw [if_neg (by decide +kernel)]; exact ⟨rfl, rfl⟩))
    (fun os started H enc _ => resawBest_lifted os started H enc)

end Go.Proofs.Ytcimnopodmnmmaa
