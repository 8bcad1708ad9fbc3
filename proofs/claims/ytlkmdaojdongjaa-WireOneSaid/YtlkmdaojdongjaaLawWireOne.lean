/- For every input the law 'WireOne' returns true, and each argument reads afterwards as it did before. No condition. -/
import Derived.Test.YtlkmdaojdongjaaRows
import Derived.Test.YtlkmdaojdongjaaP9
namespace Go.Proofs.Ytlkmdaojdongjaa
open Go.ChangeShapes Go.WideShapes Go.ChangeAt Go.RowKit Go.Ab

theorem wireOne_own : ownKnob Try.prog.godebug = none := by kernel_rfl
theorem wireOne_laid : laidOutB Try.prog = true := by kernel_rfl

theorem wireOne_walk (xs : List AV) (h : OfAll [.str, (.slice shTsawmilllaw05_Op)] xs) : Holds Try.prog 8 xs [] (.sc (.bool true)) [] := by
  obtain ⟨x1, x2, rfl, h1, h2⟩ := of2 h
  obtain ⟨a1, rfl, k1⟩ := of_c (fun _ => el_str) h1
  obtain ⟨a2, rfl, k2⟩ := of_c (fun _ => (el_slice (fun _ => el_Tsawmilllaw05_Op))) h2
  exact l05_WireOne_w a1 a2 true (wireOne_true a1 a2 k2.2)

set_option maxRecDepth 100000 in
theorem wireOne_lifted (os : Os) (started : os.Started) (H : Type) (enc : TypeId × Value → H) :
    ReturnsInHanded {} Try.checked os 8 .any (Rows.wireOneSpec.pre6 enc Try.prog Try.f8 Rows.wireOneRow.domain false) (Rows.wireOneSpec.post enc Try.prog Try.f8 false true false false) := by
  refine returnsInHanded_of_change (C := Try.checked) wireOne_own started (by kernel_rfl) Try.func8
    (ChangeSpec.witness6 (enc := enc) (C := Try.checked) false ⟨#[], #[.string ⟨#[]⟩, .slice none 0 0], []⟩ 8 (by kernel_rfl) (by kernel_rfl) (by kernel_rfl) (by kernel_rfl)) ?_
  intro W base args ds gs before hval hW hcnd _
  refine law_inner (fn := Try.f8) (spec := Rows.wireOneSpec) [.str, (.slice shTsawmilllaw05_Op)] wireOne_laid (by kernel_rfl) (by kernel_rfl) rfl (by kernel_rfl : Try.f8.resultTypes = #[4]) Try.underlying4 ?_ wireOne_walk hval hW
  intro ds hds
  match ds, hds with
  | [_, _], _ => exact ⟨rfl, rfl, rfl⟩

theorem wireOne_holds : Rows.WireOneSaid :=
  OpenClaim.holds_of_wide 8 Try.f8 rfl rfl rfl rfl rfl rfl rfl ⟨rfl, rfl, rfl, rfl, rfl⟩ rfl rfl rfl rfl rfl (by kernel_rfl) Try.func8 (by kernel_rfl)
    (of_decide_eq_true (by kernel_rfl)) (by unfold Func.isWrapper; first | (rw [if_pos (by decide +kernel)]; kernel_rfl) | (rw [if_neg (by decide +kernel)]; exact ⟨rfl, rfl⟩))
    (fun os started H enc _ => wireOne_lifted os started H enc)

end Go.Proofs.Ytlkmdaojdongjaa
