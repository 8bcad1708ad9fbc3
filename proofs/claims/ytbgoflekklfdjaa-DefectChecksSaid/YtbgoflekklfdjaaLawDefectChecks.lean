/- For every input the law 'DefectChecks' returns true, and each argument reads afterwards as it did before. No condition. -/
import Derived.Test.YtbgoflekklfdjaaRows
import Derived.Test.YtbgoflekklfdjaaF7
namespace Go.Proofs.Ytbgoflekklfdjaa
open Go.ChangeShapes Go.WideShapes Go.ChangeAt Go.RowKit Go.Ab

theorem defectChecks_own : ownKnob Try.prog.godebug = none := by kernel_rfl
theorem defectChecks_laid : laidOutB Try.prog = true := by kernel_rfl

theorem defectChecks_walk (xs : List AV) (h : OfAll [.slice shDf, .int .i64] xs) : Holds Try.prog 8 xs [] (.sc (.bool true)) [] := by
  obtain ⟨a1, a2, rfl, h1, h2⟩ := of2 h
  obtain ⟨l, rfl, hl, ho⟩ := of_dfs h1
  obtain ⟨n, rfl, _⟩ := of_int h2
  exact defectChecks_h l n hl ho

set_option maxRecDepth 100000 in
theorem defectChecks_lifted (os : Os) (started : os.Started) (H : Type) (enc : TypeId × Value → H) :
    ReturnsInHanded {} Try.checked os 8 .any (Rows.defectChecksSpec.pre6 enc Try.prog Try.f8 Rows.defectChecksRow.domain false) (Rows.defectChecksSpec.post enc Try.prog Try.f8 false true false false) := by
  refine returnsInHanded_of_change (C := Try.checked) defectChecks_own started (by kernel_rfl) Try.func8
    (ChangeSpec.witness6 (enc := enc) (C := Try.checked) false ⟨#[], #[.slice none 0 0, .int .i64 0], []⟩ 8 (by kernel_rfl) (by kernel_rfl) (by kernel_rfl) (by kernel_rfl)) ?_
  intro W base args ds gs before hval hW hcnd _
  refine law_inner (fn := Try.f8) (spec := Rows.defectChecksSpec) [.slice shDf, .int .i64] defectChecks_laid (by kernel_rfl) (by kernel_rfl) rfl (by kernel_rfl : Try.f8.resultTypes = #[4]) Try.underlying4 ?_ defectChecks_walk hval hW
  intro ds hds
  match ds, hds with
  | [_, _], _ => exact ⟨rfl, rfl, rfl⟩

theorem defectChecks_holds : Rows.DefectChecksSaid :=
  OpenClaim.holds_of_wide 8 Try.f8 rfl rfl rfl rfl rfl rfl rfl ⟨rfl, rfl, rfl, rfl, rfl⟩ rfl rfl rfl rfl rfl (by kernel_rfl) Try.func8 (by kernel_rfl)
    (of_decide_eq_true (by kernel_rfl)) (by unfold Func.isWrapper; first | (rw [if_pos (by decide +kernel)]; kernel_rfl) | (rw [if_neg (by decide +kernel)]; exact ⟨rfl, rfl⟩))
    (fun os started H enc _ => defectChecks_lifted os started H enc)

end Go.Proofs.Ytbgoflekklfdjaa
