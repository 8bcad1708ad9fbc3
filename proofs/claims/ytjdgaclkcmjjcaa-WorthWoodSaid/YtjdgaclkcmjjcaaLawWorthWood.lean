/- For every input the law 'WorthWood' returns true, and each argument reads afterwards as it did before. No condition. -/
import Derived.Test.YtjdgaclkcmjjcaaRows
import Derived.Test.YtjdgaclkcmjjcaaP18
namespace Go.Proofs.Ytjdgaclkcmjjcaa
open Go.ChangeShapes Go.WideShapes Go.ChangeAt Go.RowKit Go.Ab

theorem worthWood_own : ownKnob Try.prog.godebug = none := by kernel_rfl
theorem worthWood_laid : laidOutB Try.prog = true := by kernel_rfl

theorem worthWood_walk (xs : List AV) (h : OfAll [(.slice shTSlice), shBx, shSp] xs) : Holds Try.prog 10 xs [] (.sc (.bool true)) [] := by
  obtain ⟨x1, x2, x3, rfl, h1, h2, h3⟩ := of3 h
  obtain ⟨a1, rfl, k1⟩ := of_c (fun _ => (el_slice (fun _ => el_TSlice))) h1
  obtain ⟨a2, rfl, k2⟩ := of_c (fun _ => el_bx) h2
  obtain ⟨a3, rfl, k3⟩ := of_c (fun _ => el_sp) h3
  exact l20_WorthWood_w a1 a2 a3 true (worthWood_true a1 a2 a3 (lowOk_of k1.2))

set_option maxRecDepth 100000 in
theorem worthWood_lifted (os : Os) (started : os.Started) (H : Type) (enc : TypeId × Value → H) :
    ReturnsInHanded {} Try.checked os 10 .any (Rows.worthWoodSpec.pre6 enc Try.prog Try.f10 Rows.worthWoodRow.domain false) (Rows.worthWoodSpec.post enc Try.prog Try.f10 false true false false) := by
  refine returnsInHanded_of_change (C := Try.checked) worthWood_own started (by kernel_rfl) Try.func10
    (ChangeSpec.witness6 (enc := enc) (C := Try.checked) false ⟨#[], #[.slice none 0 0, .agg #[.int .i64 0, .int .i64 0, .int .i64 0, .int .i64 0, .int .i64 0, .int .i64 0], .agg #[.int .i64 0, .int .i64 0]], []⟩ 8 (by kernel_rfl) (by kernel_rfl) (by kernel_rfl) (by kernel_rfl)) ?_
  intro W base args ds gs before hval hW hcnd _
  refine law_inner (fn := Try.f10) (spec := Rows.worthWoodSpec) [(.slice shTSlice), shBx, shSp] worthWood_laid (by kernel_rfl) (by kernel_rfl) rfl (by kernel_rfl : Try.f10.resultTypes = #[4]) Try.underlying4 ?_ worthWood_walk hval hW
  intro ds hds
  match ds, hds with
  | [_, _, _], _ => exact ⟨rfl, rfl, rfl⟩

theorem worthWood_holds : Rows.WorthWoodSaid :=
  OpenClaim.holds_of_wide 10 Try.f10 rfl rfl rfl rfl rfl rfl rfl ⟨rfl, rfl, rfl, rfl, rfl⟩ rfl rfl rfl rfl rfl (by kernel_rfl) Try.func10 (by kernel_rfl)
    (of_decide_eq_true (by kernel_rfl)) (by unfold Func.isWrapper; first | (rw [if_pos (by decide +kernel)]; kernel_rfl) | (rw [if_neg (by decide +kernel)]; exact ⟨rfl, rfl⟩))
    (fun os started H enc _ => worthWood_lifted os started H enc)

end Go.Proofs.Ytjdgaclkcmjjcaa
