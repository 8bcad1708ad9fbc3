/- For every input the law 'DefectClip' returns true, and each argument reads afterwards as it did before. No condition. -/
import Derived.Test.YtbgoflekklfdjaaRows
import Derived.Test.YtbgoflekklfdjaaP3
namespace Go.Proofs.Ytbgoflekklfdjaa
open Go.ChangeShapes Go.WideShapes Go.ChangeAt Go.RowKit Go.Ab

theorem defectClip_own : ownKnob Try.prog.godebug = none := by kernel_rfl
theorem defectClip_laid : laidOutB Try.prog = true := by kernel_rfl

theorem defectClip_walk (xs : List AV) (h : OfAll [(.slice shDf), shBx, shBx] xs) : Holds Try.prog 12 xs [] (.sc (.bool true)) [] := by
  obtain ⟨x1, x2, x3, rfl, h1, h2, h3⟩ := of3 h
  obtain ⟨a1, rfl, k1⟩ := of_c (fun _ => (el_slice (fun _ => el_df))) h1
  obtain ⟨a2, rfl, k2⟩ := of_c (fun _ => el_bx) h2
  obtain ⟨a3, rfl, k3⟩ := of_c (fun _ => el_bx) h3
  exact l13_DefectClip_w a1 a2 a3 true (defectClip_true a1 a2 a3 k1.1)

set_option maxRecDepth 100000 in
theorem defectClip_lifted (os : Os) (started : os.Started) (H : Type) (enc : TypeId × Value → H) :
    ReturnsInHanded {} Try.checked os 12 .any (Rows.defectClipSpec.pre6 enc Try.prog Try.f12 Rows.defectClipRow.domain false) (Rows.defectClipSpec.post enc Try.prog Try.f12 false true false false) := by
  refine returnsInHanded_of_change (C := Try.checked) defectClip_own started (by kernel_rfl) Try.func12
    (ChangeSpec.witness6 (enc := enc) (C := Try.checked) false ⟨#[], #[.slice none 0 0, .agg #[.int .i64 0, .int .i64 0, .int .i64 0, .int .i64 0, .int .i64 0, .int .i64 0], .agg #[.int .i64 0, .int .i64 0, .int .i64 0, .int .i64 0, .int .i64 0, .int .i64 0]], []⟩ 8 (by kernel_rfl) (by kernel_rfl) (by kernel_rfl) (by kernel_rfl)) ?_
  intro W base args ds gs before hval hW hcnd _
  refine law_inner (fn := Try.f12) (spec := Rows.defectClipSpec) [(.slice shDf), shBx, shBx] defectClip_laid (by kernel_rfl) (by kernel_rfl) rfl (by kernel_rfl : Try.f12.resultTypes = #[4]) Try.underlying4 ?_ defectClip_walk hval hW
  intro ds hds
  match ds, hds with
  | [_, _, _], _ => exact ⟨rfl, rfl, rfl⟩

theorem defectClip_holds : Rows.DefectClipSaid :=
  OpenClaim.holds_of_wide 12 Try.f12 rfl rfl rfl rfl rfl rfl rfl ⟨rfl, rfl, rfl, rfl, rfl⟩ rfl rfl rfl rfl rfl (by kernel_rfl) Try.func12 (by kernel_rfl)
    (of_decide_eq_true (by kernel_rfl)) (by unfold Func.isWrapper; first | (rw [if_pos (by decide +kernel)]; kernel_rfl) | (rw [if_neg (by decide +kernel)]; exact ⟨rfl, rfl⟩))
    (fun os started H enc _ => defectClip_lifted os started H enc)

end Go.Proofs.Ytbgoflekklfdjaa
