/- For every input the law 'WorthWanes' returns true, and each argument reads afterwards as it did before. No condition. -/
import Derived.Test.YtjdgaclkcmjjcaaRows
import Derived.Test.YtjdgaclkcmjjcaaP6
namespace Go.Proofs.Ytjdgaclkcmjjcaa
open Go.ChangeShapes Go.WideShapes Go.ChangeAt Go.RowKit Go.Ab

theorem worthWanes_own : ownKnob Try.prog.godebug = none := by kernel_rfl
theorem worthWanes_laid : laidOutB Try.prog = true := by kernel_rfl

theorem worthWanes_walk (xs : List AV) (h : OfAll [(.slice shTSlice), shBx] xs) : Holds Try.prog 4 xs [] (.sc (.bool true)) [] := by
  obtain ⟨x1, x2, rfl, h1, h2⟩ := of2 h
  obtain ⟨a1, rfl, k1⟩ := of_c (fun _ => (el_slice (fun _ => el_TSlice))) h1
  obtain ⟨a2, rfl, k2⟩ := of_c (fun _ => el_bx) h2
  exact l20_WorthWanes_w a1 a2 true (worthWanes_true a1 a2 (lowOk_of k1.2))

set_option maxRecDepth 100000 in
theorem worthWanes_lifted (os : Os) (started : os.Started) (H : Type) (enc : TypeId × Value → H) :
    ReturnsInHanded {} Try.checked os 4 .any (Rows.worthWanesSpec.pre6 enc Try.prog Try.f4 Rows.worthWanesRow.domain false) (Rows.worthWanesSpec.post enc Try.prog Try.f4 false true false false) := by
  refine returnsInHanded_of_change (C := Try.checked) worthWanes_own started (by kernel_rfl) Try.func4
    (ChangeSpec.witness6 (enc := enc) (C := Try.checked) false ⟨#[], #[.slice none 0 0, .agg #[.int .i64 0, .int .i64 0, .int .i64 0, .int .i64 0, .int .i64 0, .int .i64 0]], []⟩ 8 (by kernel_rfl) (by kernel_rfl) (by kernel_rfl) (by kernel_rfl)) ?_
  intro W base args ds gs before hval hW hcnd _
  refine law_inner (fn := Try.f4) (spec := Rows.worthWanesSpec) [(.slice shTSlice), shBx] worthWanes_laid (by kernel_rfl) (by kernel_rfl) rfl (by kernel_rfl : Try.f4.resultTypes = #[4]) Try.underlying4 ?_ worthWanes_walk hval hW
  intro ds hds
  match ds, hds with
  | [_, _], _ => exact ⟨rfl, rfl, rfl⟩

theorem worthWanes_holds : Rows.WorthWanesSaid :=
  OpenClaim.holds_of_wide 4 Try.f4 rfl rfl rfl rfl rfl rfl rfl ⟨rfl, rfl, rfl, rfl, rfl⟩ rfl rfl rfl rfl rfl (by kernel_rfl) Try.func4 (by kernel_rfl)
    (of_decide_eq_true (by kernel_rfl)) (by unfold Func.isWrapper; first | (rw [if_pos (by decide +kernel)]; kernel_rfl) | (rw [if_neg (by decide +kernel)]; exact ⟨rfl, rfl⟩))
    (fun os started H enc _ => worthWanes_lifted os started H enc)

end Go.Proofs.Ytjdgaclkcmjjcaa
