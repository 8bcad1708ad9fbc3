/- For every input the law 'WireNil' returns true, and each argument reads afterwards as it did before. No condition. -/
import Derived.Test.YtlkmdaojdongjaaRows
import Derived.Test.YtlkmdaojdongjaaP2
namespace Go.Proofs.Ytlkmdaojdongjaa
open Go.ChangeShapes Go.WideShapes Go.ChangeAt Go.RowKit Go.Ab

theorem wireNil_own : ownKnob Try.prog.godebug = none := by kernel_rfl
theorem wireNil_laid : laidOutB Try.prog = true := by kernel_rfl

theorem wireNil_walk (xs : List AV) (h : OfAll [shTsawmilllaw05_Op] xs) : Holds Try.prog 11 xs [] (.sc (.bool true)) [] := by
  obtain ⟨x1, rfl, h1⟩ := of1 h
  obtain ⟨a1, rfl, k1⟩ := of_c (fun _ => el_Tsawmilllaw05_Op) h1
  exact l05_WireNil_w a1 true (wireNil_true a1)

set_option maxRecDepth 100000 in
theorem wireNil_lifted (os : Os) (started : os.Started) (H : Type) (enc : TypeId × Value → H) :
    ReturnsInHanded {} Try.checked os 11 .any (Rows.wireNilSpec.pre6 enc Try.prog Try.f11 Rows.wireNilRow.domain false) (Rows.wireNilSpec.post enc Try.prog Try.f11 false true false false) := by
  refine returnsInHanded_of_change (C := Try.checked) wireNil_own started (by kernel_rfl) Try.func11
    (ChangeSpec.witness6 (enc := enc) (C := Try.checked) false ⟨#[], #[.agg #[.int .u8 0, .int .i64 0, .int .i64 0, .int .i64 0]], []⟩ 8 (by kernel_rfl) (by kernel_rfl) (by kernel_rfl) (by kernel_rfl)) ?_
  intro W base args ds gs before hval hW hcnd _
  refine law_inner (fn := Try.f11) (spec := Rows.wireNilSpec) [shTsawmilllaw05_Op] wireNil_laid (by kernel_rfl) (by kernel_rfl) rfl (by kernel_rfl : Try.f11.resultTypes = #[4]) Try.underlying4 ?_ wireNil_walk hval hW
  intro ds hds
  match ds, hds with
  | [_], _ => exact ⟨rfl, rfl, rfl⟩

theorem wireNil_holds : Rows.WireNilSaid :=
  OpenClaim.holds_of_wide 11 Try.f11 rfl rfl rfl rfl rfl rfl rfl ⟨rfl, rfl, rfl, rfl, rfl⟩ rfl rfl rfl rfl rfl (by kernel_rfl) Try.func11 (by kernel_rfl)
    (of_decide_eq_true (by kernel_rfl)) (by unfold Func.isWrapper; first | (rw [if_pos (by decide +kernel)]; kernel_rfl) | (rw [if_neg (by decide +kernel)]; exact ⟨rfl, rfl⟩))
    (fun os started H enc _ => wireNil_lifted os started H enc)

end Go.Proofs.Ytlkmdaojdongjaa
