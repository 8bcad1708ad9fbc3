/- For every input the law 'WireStops' returns true, and each argument reads afterwards as it did before. No condition. -/
import Derived.Test.YtlkmdaojdongjaaRows
import Derived.Test.YtlkmdaojdongjaaP6
namespace Go.Proofs.Ytlkmdaojdongjaa
open Go.ChangeShapes Go.WideShapes Go.ChangeAt Go.RowKit Go.Ab

theorem wireStops_own : ownKnob Try.prog.godebug = none := by kernel_rfl
theorem wireStops_laid : laidOutB Try.prog = true := by kernel_rfl

theorem wireStops_walk (xs : List AV) (h : OfAll [.str, (.slice shTsawmilllaw05_Op)] xs) : Holds Try.prog 9 xs [] (.sc (.bool true)) [] := by
  obtain ⟨x1, x2, rfl, h1, h2⟩ := of2 h
  obtain ⟨a1, rfl, k1⟩ := of_c (fun _ => el_str) h1
  obtain ⟨a2, rfl, k2⟩ := of_c (fun _ => (el_slice (fun _ => el_Tsawmilllaw05_Op))) h2
  exact l05_WireStops_w a1 a2 true (wireStops_true a1 a2 k2.2)

set_option maxRecDepth 100000 in
theorem wireStops_lifted (os : Os) (started : os.Started) (H : Type) (enc : TypeId × Value → H) :
    ReturnsInHanded {} Try.checked os 9 .any (Rows.wireStopsSpec.pre6 enc Try.prog Try.f9 Rows.wireStopsRow.domain false) (Rows.wireStopsSpec.post enc Try.prog Try.f9 false true false false) := by
  refine returnsInHanded_of_change (C := Try.checked) wireStops_own started (by kernel_rfl) Try.func9
    (ChangeSpec.witness6 (enc := enc) (C := Try.checked) false ⟨#[], #[.string ⟨#[]⟩, .slice none 0 0], []⟩ 8 (by kernel_rfl) (by kernel_rfl) (by kernel_rfl) (by kernel_rfl)) ?_
  intro W base args ds gs before hval hW hcnd _
  refine law_inner (fn := Try.f9) (spec := Rows.wireStopsSpec) [.str, (.slice shTsawmilllaw05_Op)] wireStops_laid (by kernel_rfl) (by kernel_rfl) rfl (by kernel_rfl : Try.f9.resultTypes = #[4]) Try.underlying4 ?_ wireStops_walk hval hW
  intro ds hds
  match ds, hds with
  | [_, _], _ => exact ⟨rfl, rfl, rfl⟩

theorem wireStops_holds : Rows.WireStopsSaid :=
  OpenClaim.holds_of_wide 9 Try.f9 rfl rfl rfl rfl rfl rfl rfl ⟨rfl, rfl, rfl, rfl, rfl⟩ rfl rfl rfl rfl rfl (by kernel_rfl) Try.func9 (by kernel_rfl)
    (of_decide_eq_true (by kernel_rfl)) (by unfold Func.isWrapper; first | (rw [if_pos (by decide +kernel)]; kernel_rfl) | (rw [if_neg (by decide +kernel)]; exact ⟨rfl, rfl⟩))
    (fun os started H enc _ => wireStops_lifted os started H enc)

end Go.Proofs.Ytlkmdaojdongjaa
