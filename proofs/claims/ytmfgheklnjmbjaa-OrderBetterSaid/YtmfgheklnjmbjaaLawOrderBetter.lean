/- For every input the law 'OrderBetter' returns true, and each argument reads afterwards as it did before. No condition. -/
import Derived.Test.YtmfgheklnjmbjaaRows
import Derived.Test.YtmfgheklnjmbjaaP1
namespace Go.Proofs.Ytmfgheklnjmbjaa
open Go.ChangeShapes Go.WideShapes Go.ChangeAt Go.RowKit Go.Ab

theorem orderBetter_own : ownKnob Try.prog.godebug = none := by kernel_rfl
theorem orderBetter_laid : laidOutB Try.prog = true := by kernel_rfl

theorem orderBetter_walk (xs : List AV) (h : OfAll [shTOrder, shTBoard, (.struct [(.int .i64), (.int .i64), (.int .i64)])] xs) : Holds Try.prog 9 xs [] (.sc (.bool true)) [] := by
  obtain ⟨x1, x2, x3, rfl, h1, h2, h3⟩ := of3 h
  obtain ⟨a1, rfl, k1⟩ := of_c (fun _ => el_TOrder) h1
  obtain ⟨a2, rfl, k2⟩ := of_c (fun _ => el_TBoard) h2
  obtain ⟨a3, rfl, k3⟩ := of_c (fun _ => (el_arr3 (fun _ => c_int))) h3
  exact l46_OrderBetter_w a1 a2 a3 true (orderBetter_true a1 a2 a3 k2.2.2.2.2.2.2.2.2.2.2)

set_option maxRecDepth 100000 in
theorem orderBetter_lifted (os : Os) (started : os.Started) (H : Type) (enc : TypeId × Value → H) :
    ReturnsInHanded {} Try.checked os 9 .any (Rows.orderBetterSpec.pre6 enc Try.prog Try.f9 Rows.orderBetterRow.domain false) (Rows.orderBetterSpec.post enc Try.prog Try.f9 false true false false) := by
  refine returnsInHanded_of_change (C := Try.checked) orderBetter_own started (by kernel_rfl) Try.func9
    (ChangeSpec.witness6 (enc := enc) (C := Try.checked) false ⟨#[], #[.agg #[.string ⟨#[]⟩, .string ⟨#[]⟩, .int .i64 0, .int .i64 0, .int .i64 0, .int .i64 0, .int .i64 0, .int .i64 0, .int .i64 0, .int .i64 0, .int .i64 0], .agg #[.string ⟨#[]⟩, .string ⟨#[]⟩, .string ⟨#[]⟩, .int .i64 0, .int .i64 0, .int .i64 0, .int .i64 0, .int .i64 0, .int .i64 0, .int .i64 0, .int .i64 0, .slice none 0 0, .int .i64 0, .int .i64 0, .int .i64 0, .int .i64 0, .bool false, .int .i64 0], .agg #[.int .i64 0, .int .i64 0, .int .i64 0]], []⟩ 8 (by kernel_rfl) (by kernel_rfl) (by kernel_rfl) (by kernel_rfl)) ?_
  intro W base args ds gs before hval hW hcnd _
  refine law_inner (fn := Try.f9) (spec := Rows.orderBetterSpec) [shTOrder, shTBoard, (.struct [(.int .i64), (.int .i64), (.int .i64)])] orderBetter_laid (by kernel_rfl) (by kernel_rfl) rfl (by kernel_rfl : Try.f9.resultTypes = #[4]) Try.underlying4 ?_ orderBetter_walk hval hW
  intro ds hds
  match ds, hds with
  | [_, _, _], _ => exact ⟨rfl, rfl, rfl⟩

theorem orderBetter_holds : Rows.OrderBetterSaid :=
  OpenClaim.holds_of_wide 9 Try.f9 rfl rfl rfl rfl rfl rfl rfl ⟨rfl, rfl, rfl, rfl, rfl⟩ rfl rfl rfl rfl rfl (by kernel_rfl) Try.func9 (by kernel_rfl)
    (of_decide_eq_true (by kernel_rfl)) (by unfold Func.isWrapper; first | (rw [if_pos (by decide +kernel)]; kernel_rfl) | (rw [if_neg (by decide +kernel)]; exact ⟨rfl, rfl⟩))
    (fun os started H enc _ => orderBetter_lifted os started H enc)

end Go.Proofs.Ytmfgheklnjmbjaa
