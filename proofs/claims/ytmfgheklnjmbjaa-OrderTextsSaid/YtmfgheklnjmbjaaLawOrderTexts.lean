/- For every input the law 'OrderTexts' returns true, and each argument reads afterwards as it did before. No condition. -/
import Derived.Test.YtmfgheklnjmbjaaRows
import Derived.Test.YtmfgheklnjmbjaaP5
namespace Go.Proofs.Ytmfgheklnjmbjaa
open Go.ChangeShapes Go.WideShapes Go.ChangeAt Go.RowKit Go.Ab

theorem orderTexts_own : ownKnob Try.prog.godebug = none := by kernel_rfl
theorem orderTexts_laid : laidOutB Try.prog = true := by kernel_rfl

theorem orderTexts_walk (xs : List AV) (h : OfAll [shTOrder, .str] xs) : Holds Try.prog 6 xs [] (.sc (.bool true)) [] := by
  obtain ⟨x1, x2, rfl, h1, h2⟩ := of2 h
  obtain ⟨a1, rfl, k1⟩ := of_c (fun _ => el_TOrder) h1
  obtain ⟨a2, rfl, k2⟩ := of_c (fun _ => el_str) h2
  exact l46_OrderTexts_w a1 a2 true (orderTexts_true a1 a2)

set_option maxRecDepth 100000 in
theorem orderTexts_lifted (os : Os) (started : os.Started) (H : Type) (enc : TypeId × Value → H) :
    ReturnsInHanded {} Try.checked os 6 .any (Rows.orderTextsSpec.pre6 enc Try.prog Try.f6 Rows.orderTextsRow.domain false) (Rows.orderTextsSpec.post enc Try.prog Try.f6 false true false false) := by
  refine returnsInHanded_of_change (C := Try.checked) orderTexts_own started (by kernel_rfl) Try.func6
    (ChangeSpec.witness6 (enc := enc) (C := Try.checked) false ⟨#[], #[.agg #[.string ⟨#[]⟩, .string ⟨#[]⟩, .int .i64 0, .int .i64 0, .int .i64 0, .int .i64 0, .int .i64 0, .int .i64 0, .int .i64 0, .int .i64 0, .int .i64 0], .string ⟨#[]⟩], []⟩ 8 (by kernel_rfl) (by kernel_rfl) (by kernel_rfl) (by kernel_rfl)) ?_
  intro W base args ds gs before hval hW hcnd _
  refine law_inner (fn := Try.f6) (spec := Rows.orderTextsSpec) [shTOrder, .str] orderTexts_laid (by kernel_rfl) (by kernel_rfl) rfl (by kernel_rfl : Try.f6.resultTypes = #[4]) Try.underlying4 ?_ orderTexts_walk hval hW
  intro ds hds
  match ds, hds with
  | [_, _], _ => exact ⟨rfl, rfl, rfl⟩

theorem orderTexts_holds : Rows.OrderTextsSaid :=
  OpenClaim.holds_of_wide 6 Try.f6 rfl rfl rfl rfl rfl rfl rfl ⟨rfl, rfl, rfl, rfl, rfl⟩ rfl rfl rfl rfl rfl (by kernel_rfl) Try.func6 (by kernel_rfl)
    (of_decide_eq_true (by kernel_rfl)) (by unfold Func.isWrapper; first | (rw [if_pos (by decide +kernel)]; kernel_rfl) | (rw [if_neg (by decide +kernel)]; exact ⟨rfl, rfl⟩))
    (fun os started H enc _ => orderTexts_lifted os started H enc)

end Go.Proofs.Ytmfgheklnjmbjaa
