/- For every input the law 'WireNumbers' returns true, and each argument reads afterwards as it did before. No condition. -/
import Derived.Test.YtlkmdaojdongjaaRows
import Derived.Test.YtlkmdaojdongjaaP1
namespace Go.Proofs.Ytlkmdaojdongjaa
open Go.ChangeShapes Go.WideShapes Go.ChangeAt Go.RowKit Go.Ab

theorem wireNumbers_own : ownKnob Try.prog.godebug = none := by kernel_rfl
theorem wireNumbers_laid : laidOutB Try.prog = true := by kernel_rfl

theorem wireNumbers_walk (xs : List AV) (h : OfAll [(.int .u64), (.int .i64)] xs) : Holds Try.prog 3 xs [] (.sc (.bool true)) [] := by
  obtain ⟨x1, x2, rfl, h1, h2⟩ := of2 h
  obtain ⟨a1, rfl, k1⟩ := of_c (fun _ => el_u64) h1
  obtain ⟨a2, rfl, k2⟩ := of_c (fun _ => el_int) h2
  exact l05_WireNumbers_w a1 a2 true (wireNumbers_true a1 a2 k1 k2)

set_option maxRecDepth 100000 in
theorem wireNumbers_lifted (os : Os) (started : os.Started) (H : Type) (enc : TypeId × Value → H) :
    ReturnsInHanded {} Try.checked os 3 .any (Rows.wireNumbersSpec.pre6 enc Try.prog Try.f3 Rows.wireNumbersRow.domain false) (Rows.wireNumbersSpec.post enc Try.prog Try.f3 false true false false) := by
  refine returnsInHanded_of_change (C := Try.checked) wireNumbers_own started (by kernel_rfl) Try.func3
    (ChangeSpec.witness6 (enc := enc) (C := Try.checked) false ⟨#[], #[.int .u64 0, .int .i64 0], []⟩ 8 (by kernel_rfl) (by kernel_rfl) (by kernel_rfl) (by kernel_rfl)) ?_
  intro W base args ds gs before hval hW hcnd _
  refine law_inner (fn := Try.f3) (spec := Rows.wireNumbersSpec) [(.int .u64), (.int .i64)] wireNumbers_laid (by kernel_rfl) (by kernel_rfl) rfl (by kernel_rfl : Try.f3.resultTypes = #[4]) Try.underlying4 ?_ wireNumbers_walk hval hW
  intro ds hds
  match ds, hds with
  | [_, _], _ => exact ⟨rfl, rfl, rfl⟩

theorem wireNumbers_holds : Rows.WireNumbersSaid :=
  OpenClaim.holds_of_wide 3 Try.f3 rfl rfl rfl rfl rfl rfl rfl ⟨rfl, rfl, rfl, rfl, rfl⟩ rfl rfl rfl rfl rfl (by kernel_rfl) Try.func3 (by kernel_rfl)
    (of_decide_eq_true (by kernel_rfl)) (by unfold Func.isWrapper; first | (rw [if_pos (by decide +kernel)]; kernel_rfl) | (rw [if_neg (by decide +kernel)]; exact ⟨rfl, rfl⟩))
    (fun os started H enc _ => wireNumbers_lifted os started H enc)

end Go.Proofs.Ytlkmdaojdongjaa
