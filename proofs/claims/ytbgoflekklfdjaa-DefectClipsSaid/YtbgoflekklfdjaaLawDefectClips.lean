/- For every input the law 'DefectClips' returns true, and each argument reads afterwards as it did before. No condition. -/
import Derived.Test.YtbgoflekklfdjaaRows
import Derived.Test.YtbgoflekklfdjaaF7
namespace Go.Proofs.Ytbgoflekklfdjaa
open Go.ChangeShapes Go.WideShapes Go.ChangeAt Go.RowKit Go.Ab

theorem defectClips_own : ownKnob Try.prog.godebug = none := by kernel_rfl
theorem defectClips_laid : laidOutB Try.prog = true := by kernel_rfl

theorem defectClips_walk (xs : List AV) (h : OfAll [.slice shDf, shBx] xs) : Holds Try.prog 9 xs [] (.sc (.bool true)) [] := by
  obtain ⟨a1, a2, rfl, h1, h2⟩ := of2 h
  obtain ⟨l, rfl, hl, ho⟩ := of_dfs h1
  obtain ⟨b, rfl, _⟩ := of_bx h2
  exact defectClips_h l b hl ho

set_option maxRecDepth 100000 in
theorem defectClips_lifted (os : Os) (started : os.Started) (H : Type) (enc : TypeId × Value → H) :
    ReturnsInHanded {} Try.checked os 9 .any (Rows.defectClipsSpec.pre6 enc Try.prog Try.f9 Rows.defectClipsRow.domain false) (Rows.defectClipsSpec.post enc Try.prog Try.f9 false true false false) := by
  refine returnsInHanded_of_change (C := Try.checked) defectClips_own started (by kernel_rfl) Try.func9
    (ChangeSpec.witness6 (enc := enc) (C := Try.checked) false ⟨#[], #[.slice none 0 0, .agg #[.int .i64 0, .int .i64 0, .int .i64 0, .int .i64 0, .int .i64 0, .int .i64 0]], []⟩ 8 (by kernel_rfl) (by kernel_rfl) (by kernel_rfl) (by kernel_rfl)) ?_
  intro W base args ds gs before hval hW hcnd _
  refine law_inner (fn := Try.f9) (spec := Rows.defectClipsSpec) [.slice shDf, shBx] defectClips_laid (by kernel_rfl) (by kernel_rfl) rfl (by kernel_rfl : Try.f9.resultTypes = #[4]) Try.underlying4 ?_ defectClips_walk hval hW
  intro ds hds
  match ds, hds with
  | [_, _], _ => exact ⟨rfl, rfl, rfl⟩

theorem defectClips_holds : Rows.DefectClipsSaid :=
  OpenClaim.holds_of_wide 9 Try.f9 rfl rfl rfl rfl rfl rfl rfl ⟨rfl, rfl, rfl, rfl, rfl⟩ rfl rfl rfl rfl rfl (by kernel_rfl) Try.func9 (by kernel_rfl)
    (of_decide_eq_true (by kernel_rfl)) (by unfold Func.isWrapper; first | (rw [if_pos (by decide +kernel)]; kernel_rfl) | (rw [if_neg (by decide +kernel)]; exact ⟨rfl, rfl⟩))
    (fun os started H enc _ => defectClips_lifted os started H enc)

end Go.Proofs.Ytbgoflekklfdjaa
