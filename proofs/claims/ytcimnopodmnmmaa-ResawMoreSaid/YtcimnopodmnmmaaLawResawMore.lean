/- For every input the law 'ResawMore' returns true, and each argument reads afterwards as it did before. No condition. -/
import Derived.Test.YtcimnopodmnmmaaRows
import Derived.Test.YtcimnopodmnmmaaP12
namespace Go.Proofs.Ytcimnopodmnmmaa
open Go.ChangeShapes Go.WideShapes Go.ChangeAt Go.RowKit Go.Ab

theorem resawMore_own : ownKnob Try.prog.godebug = none := by kernel_rfl
theorem resawMore_laid : laidOutB Try.prog = true := by kernel_rfl

theorem resawMore_walk (xs : List AV) (h : OfAll [shTsawmilllaw27_Parts, (.struct [(.int .i64), (.int .i64), (.int .i64), (.int .i64)])] xs) : Holds Try.prog 8 xs [] (.sc (.bool true)) [] := by
  obtain ⟨x1, x2, rfl, h1, h2⟩ := of2 h
  obtain ⟨a1, rfl, k1⟩ := of_c (fun _ => el_Tsawmilllaw27_Parts) h1
  obtain ⟨a2, rfl, k2⟩ := of_c (fun _ => (el_arr4 (fun _ => c_int))) h2
  exact l27_ResawMore_w a1 a2 true (resawMore_true a1 a2)

set_option maxRecDepth 100000 in
theorem resawMore_lifted (os : Os) (started : os.Started) (H : Type) (enc : TypeId × Value → H) :
    ReturnsInHanded {} Try.checked os 8 .any (Rows.resawMoreSpec.pre6 enc Try.prog Try.f8 Rows.resawMoreRow.domain false) (Rows.resawMoreSpec.post enc Try.prog Try.f8 false true false false) := by
  refine returnsInHanded_of_change (C := Try.checked) resawMore_own started (by kernel_rfl) Try.func8
    (ChangeSpec.witness6 (enc := enc) (C := Try.checked) false ⟨#[], #[.agg #[.int .i64 0, .int .i64 0, .slice none 0 0, .slice none 0 0], .agg #[.int .i64 0, .int .i64 0, .int .i64 0, .int .i64 0]], []⟩ 8 (by kernel_rfl) (by kernel_rfl) (by kernel_rfl) (by kernel_rfl)) ?_
  intro W base args ds gs before hval hW hcnd _
  refine law_inner (fn := Try.f8) (spec := Rows.resawMoreSpec) [shTsawmilllaw27_Parts, (.struct [(.int .i64), (.int .i64), (.int .i64), (.int .i64)])] resawMore_laid (by kernel_rfl) (by kernel_rfl) rfl (by kernel_rfl : Try.f8.resultTypes = #[4]) Try.underlying4 ?_ resawMore_walk hval hW
  intro ds hds
  match ds, hds with
  | [_, _], _ => exact ⟨rfl, rfl, rfl⟩

theorem resawMore_holds : Rows.ResawMoreSaid :=
  OpenClaim.holds_of_wide 8 Try.f8 rfl rfl rfl rfl rfl rfl rfl ⟨rfl, rfl, rfl, rfl, rfl⟩ rfl rfl rfl rfl rfl (by kernel_rfl) Try.func8 (by kernel_rfl)
    (of_decide_eq_true (by kernel_rfl)) (by unfold Func.isWrapper; first | (rw [if_pos (by decide +kernel)]; kernel_rfl) | (rw [if_neg (by decide +kernel)]; exact ⟨rfl, rfl⟩))
    (fun os started H enc _ => resawMore_lifted os started H enc)

end Go.Proofs.Ytcimnopodmnmmaa
