/- For every input the law 'OrderFills' returns true, and each argument reads afterwards as it did before. No condition. -/
import Derived.Test.YtmfgheklnjmbjaaRows
import Derived.Test.YtmfgheklnjmbjaaP1
namespace Go.Proofs.Ytmfgheklnjmbjaa
open Go.ChangeShapes Go.WideShapes Go.ChangeAt Go.RowKit Go.Ab

theorem orderFills_own : ownKnob Try.prog.godebug = none := by kernel_rfl
theorem orderFills_laid : laidOutB Try.prog = true := by kernel_rfl

theorem orderFills_walk (xs : List AV) (h : OfAll [shTOrder, (.slice shTBoard)] xs) : Holds Try.prog 5 xs [] (.sc (.bool true)) [] := by
  obtain ⟨x1, x2, rfl, h1, h2⟩ := of2 h
  obtain ⟨a1, rfl, k1⟩ := of_c (fun _ => el_TOrder) h1
  obtain ⟨a2, rfl, k2⟩ := of_c (fun _ => (el_slice (fun _ => el_TBoard))) h2
  exact l46_OrderFills_w a1 a2 true (orderFills_true a1 a2)

set_option maxRecDepth 100000 in
theorem orderFills_lifted (os : Os) (started : os.Started) (H : Type) (enc : TypeId × Value → H) :
    ReturnsInHanded {} Try.checked os 5 .any (Rows.orderFillsSpec.pre6 enc Try.prog Try.f5 Rows.orderFillsRow.domain false) (Rows.orderFillsSpec.post enc Try.prog Try.f5 false true false false) := by
  refine returnsInHanded_of_change (C := Try.checked) orderFills_own started (by kernel_rfl) Try.func5
    (ChangeSpec.witness6 (enc := enc) (C := Try.checked) false ⟨#[], #[.agg #[.string ⟨#[]⟩, .string ⟨#[]⟩, .int .i64 0, .int .i64 0, .int .i64 0, .int .i64 0, .int .i64 0, .int .i64 0, .int .i64 0, .int .i64 0, .int .i64 0], .slice none 0 0], []⟩ 8 (by kernel_rfl) (by kernel_rfl) (by kernel_rfl) (by kernel_rfl)) ?_
  intro W base args ds gs before hval hW hcnd _
  refine law_inner (fn := Try.f5) (spec := Rows.orderFillsSpec) [shTOrder, (.slice shTBoard)] orderFills_laid (by kernel_rfl) (by kernel_rfl) rfl (by kernel_rfl : Try.f5.resultTypes = #[4]) Try.underlying4 ?_ orderFills_walk hval hW
  intro ds hds
  match ds, hds with
  | [_, _], _ => exact ⟨rfl, rfl, rfl⟩

theorem orderFills_holds : Rows.OrderFillsSaid :=
  OpenClaim.holds_of_wide 5 Try.f5 rfl rfl rfl rfl rfl rfl rfl ⟨rfl, rfl, rfl, rfl, rfl⟩ rfl rfl rfl rfl rfl (by kernel_rfl) Try.func5 (by kernel_rfl)
    (of_decide_eq_true (by kernel_rfl)) (by unfold Func.isWrapper; first | (rw [if_pos (by decide +kernel)]; kernel_rfl) | (rw [if_neg (by decide +kernel)]; exact ⟨rfl, rfl⟩))
    (fun os started H enc _ => orderFills_lifted os started H enc)

end Go.Proofs.Ytmfgheklnjmbjaa
