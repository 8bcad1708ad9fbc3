/- For every input the law 'WireCut' returns true, and each argument reads afterwards as it did before. No condition. -/
import Derived.Test.YtlkmdaojdongjaaRows
import Derived.Test.YtlkmdaojdongjaaP8
namespace Go.Proofs.Ytlkmdaojdongjaa
open Go.ChangeShapes Go.WideShapes Go.ChangeAt Go.RowKit Go.Ab

theorem wireCut_own : ownKnob Try.prog.godebug = none := by kernel_rfl
theorem wireCut_laid : laidOutB Try.prog = true := by kernel_rfl

theorem wireCut_walk (xs : List AV) (h : OfAll [shTsawmilllaw05_Field, (.int .u16)] xs) : Holds Try.prog 10 xs [] (.sc (.bool true)) [] := by
  obtain ⟨x1, x2, rfl, h1, h2⟩ := of2 h
  obtain ⟨a1, rfl, k1⟩ := of_c (fun _ => el_Tsawmilllaw05_Field) h1
  obtain ⟨a2, rfl, k2⟩ := of_c (fun _ => el_u16) h2
  exact l05_WireCut_w a1 a2 true (wireCut_true a1 a2 k1 k2)

set_option maxRecDepth 100000 in
theorem wireCut_lifted (os : Os) (started : os.Started) (H : Type) (enc : TypeId × Value → H) :
    ReturnsInHanded {} Try.checked os 10 .any (Rows.wireCutSpec.pre6 enc Try.prog Try.f10 Rows.wireCutRow.domain false) (Rows.wireCutSpec.post enc Try.prog Try.f10 false true false false) := by
  refine returnsInHanded_of_change (C := Try.checked) wireCut_own started (by kernel_rfl) Try.func10
    (ChangeSpec.witness6 (enc := enc) (C := Try.checked) false ⟨#[], #[.agg #[.int .u8 0, .int .u64 0, .int .i64 0, .string ⟨#[]⟩, .slice none 0 0], .int .u16 0], []⟩ 8 (by kernel_rfl) (by kernel_rfl) (by kernel_rfl) (by kernel_rfl)) ?_
  intro W base args ds gs before hval hW hcnd _
  refine law_inner (fn := Try.f10) (spec := Rows.wireCutSpec) [shTsawmilllaw05_Field, (.int .u16)] wireCut_laid (by kernel_rfl) (by kernel_rfl) rfl (by kernel_rfl : Try.f10.resultTypes = #[4]) Try.underlying4 ?_ wireCut_walk hval hW
  intro ds hds
  match ds, hds with
  | [_, _], _ => exact ⟨rfl, rfl, rfl⟩

theorem wireCut_holds : Rows.WireCutSaid :=
  OpenClaim.holds_of_wide 10 Try.f10 rfl rfl rfl rfl rfl rfl rfl ⟨rfl, rfl, rfl, rfl, rfl⟩ rfl rfl rfl rfl rfl (by kernel_rfl) Try.func10 (by kernel_rfl)
    (of_decide_eq_true (by kernel_rfl)) (by unfold Func.isWrapper; first | (rw [if_pos (by decide +kernel)]; kernel_rfl) | (rw [if_neg (by decide +kernel)]; exact ⟨rfl, rfl⟩))
    (fun os started H enc _ => wireCut_lifted os started H enc)

end Go.Proofs.Ytlkmdaojdongjaa
