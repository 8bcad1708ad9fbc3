/- For every input the law 'StrengthRanks' returns true, and each argument reads afterwards as it did before. No condition. -/
import Derived.Test.YtbgoflekklfdjaaRows
import Derived.Test.YtbgoflekklfdjaaP2
namespace Go.Proofs.Ytbgoflekklfdjaa
open Go.ChangeShapes Go.WideShapes Go.ChangeAt Go.RowKit Go.Ab

theorem strengthRanks_own : ownKnob Try.prog.godebug = none := by kernel_rfl
theorem strengthRanks_laid : laidOutB Try.prog = true := by kernel_rfl

theorem strengthRanks_walk (xs : List AV) (h : OfAll [(.int .i64), (.int .i64)] xs) : Holds Try.prog 7 xs [] (.sc (.bool true)) [] := by
  obtain ⟨x1, x2, rfl, h1, h2⟩ := of2 h
  obtain ⟨a1, rfl, k1⟩ := of_c (fun _ => el_int) h1
  obtain ⟨a2, rfl, k2⟩ := of_c (fun _ => el_int) h2
  exact l41_StrengthRanks_w a1 a2 true (strengthRanks_true a1 a2)

set_option maxRecDepth 100000 in
theorem strengthRanks_lifted (os : Os) (started : os.Started) (H : Type) (enc : TypeId × Value → H) :
    ReturnsInHanded {} Try.checked os 7 .any (Rows.strengthRanksSpec.pre6 enc Try.prog Try.f7 Rows.strengthRanksRow.domain false) (Rows.strengthRanksSpec.post enc Try.prog Try.f7 false true false false) := by
  refine returnsInHanded_of_change (C := Try.checked) strengthRanks_own started (by kernel_rfl) Try.func7
    (ChangeSpec.witness6 (enc := enc) (C := Try.checked) false ⟨#[], #[.int .i64 0, .int .i64 0], []⟩ 8 (by kernel_rfl) (by kernel_rfl) (by kernel_rfl) (by kernel_rfl)) ?_
  intro W base args ds gs before hval hW hcnd _
  refine law_inner (fn := Try.f7) (spec := Rows.strengthRanksSpec) [(.int .i64), (.int .i64)] strengthRanks_laid (by kernel_rfl) (by kernel_rfl) rfl (by kernel_rfl : Try.f7.resultTypes = #[4]) Try.underlying4 ?_ strengthRanks_walk hval hW
  intro ds hds
  match ds, hds with
  | [_, _], _ => exact ⟨rfl, rfl, rfl⟩

theorem strengthRanks_holds : Rows.StrengthRanksSaid :=
  OpenClaim.holds_of_wide 7 Try.f7 rfl rfl rfl rfl rfl rfl rfl ⟨rfl, rfl, rfl, rfl, rfl⟩ rfl rfl rfl rfl rfl (by kernel_rfl) Try.func7 (by kernel_rfl)
    (of_decide_eq_true (by kernel_rfl)) (by unfold Func.isWrapper; first | (rw [if_pos (by decide +kernel)]; kernel_rfl) | (rw [if_neg (by decide +kernel)]; exact ⟨rfl, rfl⟩))
    (fun os started H enc _ => strengthRanks_lifted os started H enc)

end Go.Proofs.Ytbgoflekklfdjaa
