/- For every input the law 'WorthBest' returns true, and each argument reads afterwards as it did before. No condition. -/
import Derived.Test.YtjdgaclkcmjjcaaRows
import Derived.Test.YtjdgaclkcmjjcaaP16
namespace Go.Proofs.Ytjdgaclkcmjjcaa
open Go.ChangeShapes Go.WideShapes Go.ChangeAt Go.RowKit Go.Ab

theorem worthBest_own : ownKnob Try.prog.godebug = none := by kernel_rfl
theorem worthBest_laid : laidOutB Try.prog = true := by kernel_rfl

theorem worthBest_walk (xs : List AV) (h : OfAll [shTsawmilllaw20_Given, shTRect, (.struct [(.int .i64), (.int .i64), (.int .i64)])] xs) : Holds Try.prog 7 xs [] (.sc (.bool true)) [] := by
  obtain ⟨x1, x2, x3, rfl, h1, h2, h3⟩ := of3 h
  obtain ⟨a1, rfl, k1⟩ := of_c (fun _ => el_Tsawmilllaw20_Given) h1
  obtain ⟨a2, rfl, k2⟩ := of_c (fun _ => el_TRect) h2
  obtain ⟨a3, rfl, k3⟩ := of_c (fun _ => (el_arr3 (fun _ => c_int))) h3
  exact l20_WorthBest_w a1 a2 a3 true (worthBest_true a1 a2 a3 (lowOk_of k1.1.2))

set_option maxRecDepth 100000 in
theorem worthBest_lifted (os : Os) (started : os.Started) (H : Type) (enc : TypeId × Value → H) :
    ReturnsInHanded {} Try.checked os 7 .any (Rows.worthBestSpec.pre6 enc Try.prog Try.f7 Rows.worthBestRow.domain false) (Rows.worthBestSpec.post enc Try.prog Try.f7 false true false false) := by
  refine returnsInHanded_of_change (C := Try.checked) worthBest_own started (by kernel_rfl) Try.func7
    (ChangeSpec.witness6 (enc := enc) (C := Try.checked) false ⟨#[], #[.agg #[.slice none 0 0, .slice none 0 0, .string ⟨#[]⟩, .int .i64 0, .int .i64 0, .int .i64 0, .int .i64 0, .slice none 0 0, .slice none 0 0, .int .i64 0], .agg #[.int .i64 0, .int .i64 0, .int .i64 0, .int .i64 0], .agg #[.int .i64 0, .int .i64 0, .int .i64 0]], []⟩ 8 (by kernel_rfl) (by kernel_rfl) (by kernel_rfl) (by kernel_rfl)) ?_
  intro W base args ds gs before hval hW hcnd _
  refine law_inner (fn := Try.f7) (spec := Rows.worthBestSpec) [shTsawmilllaw20_Given, shTRect, (.struct [(.int .i64), (.int .i64), (.int .i64)])] worthBest_laid (by kernel_rfl) (by kernel_rfl) rfl (by kernel_rfl : Try.f7.resultTypes = #[4]) Try.underlying4 ?_ worthBest_walk hval hW
  intro ds hds
  match ds, hds with
  | [_, _, _], _ => exact ⟨rfl, rfl, rfl⟩

theorem worthBest_holds : Rows.WorthBestSaid :=
  OpenClaim.holds_of_wide 7 Try.f7 rfl rfl rfl rfl rfl rfl rfl ⟨rfl, rfl, rfl, rfl, rfl⟩ rfl rfl rfl rfl rfl (by kernel_rfl) Try.func7 (by kernel_rfl)
    (of_decide_eq_true (by kernel_rfl)) (by unfold Func.isWrapper; first | (rw [if_pos (by decide +kernel)]; kernel_rfl) | (rw [if_neg (by decide +kernel)]; exact ⟨rfl, rfl⟩))
    (fun os started H enc _ => worthBest_lifted os started H enc)

end Go.Proofs.Ytjdgaclkcmjjcaa
