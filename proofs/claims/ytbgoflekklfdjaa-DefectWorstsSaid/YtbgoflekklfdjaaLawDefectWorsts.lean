/- For every input the law 'DefectWorsts' returns true, and each argument reads afterwards as it did before. No condition. -/
import Derived.Test.YtbgoflekklfdjaaRows
import Derived.Test.YtbgoflekklfdjaaF7
namespace Go.Proofs.Ytbgoflekklfdjaa
open Go.ChangeShapes Go.WideShapes Go.ChangeAt Go.RowKit Go.Ab

theorem defectWorsts_own : ownKnob Try.prog.godebug = none := by kernel_rfl
theorem defectWorsts_laid : laidOutB Try.prog = true := by kernel_rfl

theorem defectWorsts_walk (xs : List AV) (h : OfAll [.slice shDf, .int .i64] xs) : Holds Try.prog 11 xs [] (.sc (.bool true)) [] := by
  obtain ⟨a1, a2, rfl, h1, h2⟩ := of2 h
  obtain ⟨l, rfl, hl, ho⟩ := of_dfs h1
  obtain ⟨n, rfl, _⟩ := of_int h2
  exact defectWorsts_h l n hl ho

set_option maxRecDepth 100000 in
theorem defectWorsts_lifted (os : Os) (started : os.Started) (H : Type) (enc : TypeId × Value → H) :
    ReturnsInHanded {} Try.checked os 11 .any (Rows.defectWorstsSpec.pre6 enc Try.prog Try.f11 Rows.defectWorstsRow.domain false) (Rows.defectWorstsSpec.post enc Try.prog Try.f11 false true false false) := by
  refine returnsInHanded_of_change (C := Try.checked) defectWorsts_own started (by kernel_rfl) Try.func11
    (ChangeSpec.witness6 (enc := enc) (C := Try.checked) false ⟨#[], #[.slice none 0 0, .int .i64 0], []⟩ 8 (by kernel_rfl) (by kernel_rfl) (by kernel_rfl) (by kernel_rfl)) ?_
  intro W base args ds gs before hval hW hcnd _
  refine law_inner (fn := Try.f11) (spec := Rows.defectWorstsSpec) [.slice shDf, .int .i64] defectWorsts_laid (by kernel_rfl) (by kernel_rfl) rfl (by kernel_rfl : Try.f11.resultTypes = #[4]) Try.underlying4 ?_ defectWorsts_walk hval hW
  intro ds hds
  match ds, hds with
  | [_, _], _ => exact ⟨rfl, rfl, rfl⟩

theorem defectWorsts_holds : Rows.DefectWorstsSaid :=
  OpenClaim.holds_of_wide 11 Try.f11 rfl rfl rfl rfl rfl rfl rfl ⟨rfl, rfl, rfl, rfl, rfl⟩ rfl rfl rfl rfl rfl (by kernel_rfl) Try.func11 (by kernel_rfl)
    (of_decide_eq_true (by kernel_rfl)) (by unfold Func.isWrapper; first | (rw [if_pos (by decide +kernel)]; kernel_rfl) | (rw [if_neg (by decide +kernel)]; exact ⟨rfl, rfl⟩))
    (fun os started H enc _ => defectWorsts_lifted os started H enc)

end Go.Proofs.Ytbgoflekklfdjaa
