/- For every input the law 'WorthDefects' returns true, and each argument reads afterwards as it did before. No condition. -/
import Derived.Test.YtjdgaclkcmjjcaaRows
import Derived.Test.YtjdgaclkcmjjcaaP17
namespace Go.Proofs.Ytjdgaclkcmjjcaa
open Go.ChangeShapes Go.WideShapes Go.ChangeAt Go.RowKit Go.Ab

theorem worthDefects_own : ownKnob Try.prog.godebug = none := by kernel_rfl
theorem worthDefects_laid : laidOutB Try.prog = true := by kernel_rfl

theorem worthDefects_walk (xs : List AV) (h : OfAll [shTsawmilllaw20_Given, shBx, shTsawmilllaw20_Given] xs) : Holds Try.prog 8 xs [] (.sc (.bool true)) [] := by
  obtain ⟨x1, x2, x3, rfl, h1, h2, h3⟩ := of3 h
  obtain ⟨a1, rfl, k1⟩ := of_c (fun _ => el_Tsawmilllaw20_Given) h1
  obtain ⟨a2, rfl, k2⟩ := of_c (fun _ => el_bx) h2
  obtain ⟨a3, rfl, k3⟩ := of_c (fun _ => el_Tsawmilllaw20_Given) h3
  exact l20_WorthDefects_w a1 a2 a3 true (worthDefects_true a1 a2 a3 (lowOk_of k1.1.2))

set_option maxRecDepth 100000 in
theorem worthDefects_lifted (os : Os) (started : os.Started) (H : Type) (enc : TypeId × Value → H) :
    ReturnsInHanded {} Try.checked os 8 .any (Rows.worthDefectsSpec.pre6 enc Try.prog Try.f8 Rows.worthDefectsRow.domain false) (Rows.worthDefectsSpec.post enc Try.prog Try.f8 false true false false) := by
  refine returnsInHanded_of_change (C := Try.checked) worthDefects_own started (by kernel_rfl) Try.func8
    (ChangeSpec.witness6 (enc := enc) (C := Try.checked) false ⟨#[], #[.agg #[.slice none 0 0, .slice none 0 0, .string ⟨#[]⟩, .int .i64 0, .int .i64 0, .int .i64 0, .int .i64 0, .slice none 0 0, .slice none 0 0, .int .i64 0], .agg #[.int .i64 0, .int .i64 0, .int .i64 0, .int .i64 0, .int .i64 0, .int .i64 0], .agg #[.slice none 0 0, .slice none 0 0, .string ⟨#[]⟩, .int .i64 0, .int .i64 0, .int .i64 0, .int .i64 0, .slice none 0 0, .slice none 0 0, .int .i64 0]], []⟩ 8 (by kernel_rfl) (by kernel_rfl) (by kernel_rfl) (by kernel_rfl)) ?_
  intro W base args ds gs before hval hW hcnd _
  refine law_inner (fn := Try.f8) (spec := Rows.worthDefectsSpec) [shTsawmilllaw20_Given, shBx, shTsawmilllaw20_Given] worthDefects_laid (by kernel_rfl) (by kernel_rfl) rfl (by kernel_rfl : Try.f8.resultTypes = #[4]) Try.underlying4 ?_ worthDefects_walk hval hW
  intro ds hds
  match ds, hds with
  | [_, _, _], _ => exact ⟨rfl, rfl, rfl⟩

theorem worthDefects_holds : Rows.WorthDefectsSaid :=
  OpenClaim.holds_of_wide 8 Try.f8 rfl rfl rfl rfl rfl rfl rfl ⟨rfl, rfl, rfl, rfl, rfl⟩ rfl rfl rfl rfl rfl (by kernel_rfl) Try.func8 (by kernel_rfl)
    (of_decide_eq_true (by kernel_rfl)) (by unfold Func.isWrapper; first | (rw [if_pos (by decide +kernel)]; kernel_rfl) | (rw [if_neg (by decide +kernel)]; exact ⟨rfl, rfl⟩))
    (fun os started H enc _ => worthDefects_lifted os started H enc)

end Go.Proofs.Ytjdgaclkcmjjcaa
