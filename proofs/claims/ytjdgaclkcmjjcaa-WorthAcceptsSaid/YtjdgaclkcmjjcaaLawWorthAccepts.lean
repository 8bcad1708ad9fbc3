/- For every input the law 'WorthAccepts' returns true, and each argument reads afterwards as it did before. No condition. -/
import Derived.Test.YtjdgaclkcmjjcaaRows
import Derived.Test.YtjdgaclkcmjjcaaP14
namespace Go.Proofs.Ytjdgaclkcmjjcaa
open Go.ChangeShapes Go.WideShapes Go.ChangeAt Go.RowKit Go.Ab

theorem worthAccepts_own : ownKnob Try.prog.godebug = none := by kernel_rfl
theorem worthAccepts_laid : laidOutB Try.prog = true := by kernel_rfl

theorem worthAccepts_walk (xs : List AV) (h : OfAll [shTsawmilllaw20_Given, shBx] xs) : Holds Try.prog 5 xs [] (.sc (.bool true)) [] := by
  obtain ⟨x1, x2, rfl, h1, h2⟩ := of2 h
  obtain ⟨a1, rfl, k1⟩ := of_c (fun _ => el_Tsawmilllaw20_Given) h1
  obtain ⟨a2, rfl, k2⟩ := of_c (fun _ => el_bx) h2
  exact l20_WorthAccepts_w a1 a2 true (worthAccepts_true a1 a2 (lowOk_of k1.1.2))

set_option maxRecDepth 100000 in
theorem worthAccepts_lifted (os : Os) (started : os.Started) (H : Type) (enc : TypeId × Value → H) :
    ReturnsInHanded {} Try.checked os 5 .any (Rows.worthAcceptsSpec.pre6 enc Try.prog Try.f5 Rows.worthAcceptsRow.domain false) (Rows.worthAcceptsSpec.post enc Try.prog Try.f5 false true false false) := by
  refine returnsInHanded_of_change (C := Try.checked) worthAccepts_own started (by kernel_rfl) Try.func5
    (ChangeSpec.witness6 (enc := enc) (C := Try.checked) false ⟨#[], #[.agg #[.slice none 0 0, .slice none 0 0, .string ⟨#[]⟩, .int .i64 0, .int .i64 0, .int .i64 0, .int .i64 0, .slice none 0 0, .slice none 0 0, .int .i64 0], .agg #[.int .i64 0, .int .i64 0, .int .i64 0, .int .i64 0, .int .i64 0, .int .i64 0]], []⟩ 8 (by kernel_rfl) (by kernel_rfl) (by kernel_rfl) (by kernel_rfl)) ?_
  intro W base args ds gs before hval hW hcnd _
  refine law_inner (fn := Try.f5) (spec := Rows.worthAcceptsSpec) [shTsawmilllaw20_Given, shBx] worthAccepts_laid (by kernel_rfl) (by kernel_rfl) rfl (by kernel_rfl : Try.f5.resultTypes = #[4]) Try.underlying4 ?_ worthAccepts_walk hval hW
  intro ds hds
  match ds, hds with
  | [_, _], _ => exact ⟨rfl, rfl, rfl⟩

theorem worthAccepts_holds : Rows.WorthAcceptsSaid :=
  OpenClaim.holds_of_wide 5 Try.f5 rfl rfl rfl rfl rfl rfl rfl ⟨rfl, rfl, rfl, rfl, rfl⟩ rfl rfl rfl rfl rfl (by kernel_rfl) Try.func5 (by kernel_rfl)
    (of_decide_eq_true (by kernel_rfl)) (by unfold Func.isWrapper; first | (rw [if_pos (by decide +kernel)]; kernel_rfl) | (rw [if_neg (by decide +kernel)]; exact ⟨rfl, rfl⟩))
    (fun os started H enc _ => worthAccepts_lifted os started H enc)

end Go.Proofs.Ytjdgaclkcmjjcaa
