/- For every input the law 'WireRanges' returns true, and each argument reads afterwards as it did before. No condition. -/
import Derived.Test.YtlkmdaojdongjaaRows
import Derived.Test.YtlkmdaojdongjaaP8
namespace Go.Proofs.Ytlkmdaojdongjaa
open Go.ChangeShapes Go.WideShapes Go.ChangeAt Go.RowKit Go.Ab

theorem wireRanges_own : ownKnob Try.prog.godebug = none := by kernel_rfl
theorem wireRanges_laid : laidOutB Try.prog = true := by kernel_rfl

theorem wireRanges_walk (xs : List AV) (h : OfAll [(.int .i64), .str, shTsawmilllaw05_Op] xs) : Holds Try.prog 5 xs [] (.sc (.bool true)) [] := by
  obtain ⟨x1, x2, x3, rfl, h1, h2, h3⟩ := of3 h
  obtain ⟨a1, rfl, k1⟩ := of_c (fun _ => el_int) h1
  obtain ⟨a2, rfl, k2⟩ := of_c (fun _ => el_str) h2
  obtain ⟨a3, rfl, k3⟩ := of_c (fun _ => el_Tsawmilllaw05_Op) h3
  exact l05_WireRanges_w a1 a2 a3 true (wireRanges_true a1 a2 a3 k1 k3)

set_option maxRecDepth 100000 in
theorem wireRanges_lifted (os : Os) (started : os.Started) (H : Type) (enc : TypeId × Value → H) :
    ReturnsInHanded {} Try.checked os 5 .any (Rows.wireRangesSpec.pre6 enc Try.prog Try.f5 Rows.wireRangesRow.domain false) (Rows.wireRangesSpec.post enc Try.prog Try.f5 false true false false) := by
  refine returnsInHanded_of_change (C := Try.checked) wireRanges_own started (by kernel_rfl) Try.func5
    (ChangeSpec.witness6 (enc := enc) (C := Try.checked) false ⟨#[], #[.int .i64 0, .string ⟨#[]⟩, .agg #[.int .u8 0, .int .i64 0, .int .i64 0, .int .i64 0]], []⟩ 8 (by kernel_rfl) (by kernel_rfl) (by kernel_rfl) (by kernel_rfl)) ?_
  intro W base args ds gs before hval hW hcnd _
  refine law_inner (fn := Try.f5) (spec := Rows.wireRangesSpec) [(.int .i64), .str, shTsawmilllaw05_Op] wireRanges_laid (by kernel_rfl) (by kernel_rfl) rfl (by kernel_rfl : Try.f5.resultTypes = #[4]) Try.underlying4 ?_ wireRanges_walk hval hW
  intro ds hds
  match ds, hds with
  | [_, _, _], _ => exact ⟨rfl, rfl, rfl⟩

theorem wireRanges_holds : Rows.WireRangesSaid :=
  OpenClaim.holds_of_wide 5 Try.f5 rfl rfl rfl rfl rfl rfl rfl ⟨rfl, rfl, rfl, rfl, rfl⟩ rfl rfl rfl rfl rfl (by kernel_rfl) Try.func5 (by kernel_rfl)
    (of_decide_eq_true (by kernel_rfl)) (by unfold Func.isWrapper; first | (rw [if_pos (by decide +kernel)]; kernel_rfl) | (rw [if_neg (by decide +kernel)]; exact ⟨rfl, rfl⟩))
    (fun os started H enc _ => wireRanges_lifted os started H enc)

end Go.Proofs.Ytlkmdaojdongjaa
