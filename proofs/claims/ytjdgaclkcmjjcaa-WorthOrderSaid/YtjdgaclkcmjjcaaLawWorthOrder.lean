/- For every input the law 'WorthOrder' returns true, and each argument reads afterwards as it did before. No condition. -/
import Derived.Test.YtjdgaclkcmjjcaaRows
import Derived.Test.YtjdgaclkcmjjcaaP20
namespace Go.Proofs.Ytjdgaclkcmjjcaa
open Go.ChangeShapes Go.WideShapes Go.ChangeAt Go.RowKit Go.Ab

theorem worthOrder_own : ownKnob Try.prog.godebug = none := by kernel_rfl
theorem worthOrder_laid : laidOutB Try.prog = true := by kernel_rfl

theorem worthOrder_walk (xs : List AV) (h : OfAll [shTsawmilllaw20_Given, shBx, (.int .i64)] xs) : Holds Try.prog 9 xs [] (.sc (.bool true)) [] := by
  obtain ⟨x1, x2, x3, rfl, h1, h2, h3⟩ := of3 h
  obtain ⟨a1, rfl, k1⟩ := of_c (fun _ => el_Tsawmilllaw20_Given) h1
  obtain ⟨a2, rfl, k2⟩ := of_c (fun _ => el_bx) h2
  obtain ⟨a3, rfl, k3⟩ := of_c (fun _ => el_int) h3
  exact l20_WorthOrder_w a1 a2 a3 true (worthOrder_true a1 a2 a3 (lowOk_of k1.1.2))

set_option maxRecDepth 100000 in
theorem worthOrder_lifted (os : Os) (started : os.Started) (H : Type) (enc : TypeId × Value → H) :
    ReturnsInHanded {} Try.checked os 9 .any (Rows.worthOrderSpec.pre6 enc Try.prog Try.f9 Rows.worthOrderRow.domain false) (Rows.worthOrderSpec.post enc Try.prog Try.f9 false true false false) := by
  refine returnsInHanded_of_change (C := Try.checked) worthOrder_own started (by kernel_rfl) Try.func9
    (ChangeSpec.witness6 (enc := enc) (C := Try.checked) false ⟨#[], #[.agg #[.slice none 0 0, .slice none 0 0, .string ⟨#[]⟩, .int .i64 0, .int .i64 0, .int .i64 0, .int .i64 0, .slice none 0 0, .slice none 0 0, .int .i64 0], .agg #[.int .i64 0, .int .i64 0, .int .i64 0, .int .i64 0, .int .i64 0, .int .i64 0], .int .i64 0], []⟩ 8 (by kernel_rfl) (by kernel_rfl) (by kernel_rfl) (by kernel_rfl)) ?_
  intro W base args ds gs before hval hW hcnd _
  refine law_inner (fn := Try.f9) (spec := Rows.worthOrderSpec) [shTsawmilllaw20_Given, shBx, (.int .i64)] worthOrder_laid (by kernel_rfl) (by kernel_rfl) rfl (by kernel_rfl : Try.f9.resultTypes = #[4]) Try.underlying4 ?_ worthOrder_walk hval hW
  intro ds hds
  match ds, hds with
  | [_, _, _], _ => exact ⟨rfl, rfl, rfl⟩

theorem worthOrder_holds : Rows.WorthOrderSaid :=
  OpenClaim.holds_of_wide 9 Try.f9 rfl rfl rfl rfl rfl rfl rfl ⟨rfl, rfl, rfl, rfl, rfl⟩ rfl rfl rfl rfl rfl (by kernel_rfl) Try.func9 (by kernel_rfl)
    (of_decide_eq_true (by kernel_rfl)) (by unfold Func.isWrapper; first | (rw [if_pos (by decide +kernel)]; kernel_rfl) | (rw [if_neg (by decide +kernel)]; exact ⟨rfl, rfl⟩))
    (fun os started H enc _ => worthOrder_lifted os started H enc)

end Go.Proofs.Ytjdgaclkcmjjcaa
