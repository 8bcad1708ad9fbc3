/- For every input the law 'BoardBack' returns true, and each argument reads afterwards as it did before. No condition. -/
import Derived.Test.YtpoehckffpbfiaaRows
import Derived.Test.YtpoehckffpbfiaaB7
namespace Go.Proofs.Ytpoehckffpbfiaa
open Go.ChangeShapes Go.WideShapes Go.ChangeAt Go.RowKit Go.Ab

theorem boardBack_own : ownKnob Try.prog.godebug = none := by kernel_rfl
theorem boardBack_laid : laidOutB Try.prog = true := by kernel_rfl

theorem boardBack_walk (xs : List AV) (h : OfAll [shTBoard, shTBoard, .str] xs) : Holds Try.prog 4 xs [] (.sc (.bool true)) [] := by
  obtain ⟨x1, x2, x3, rfl, h1, h2, h3⟩ := of3 h
  obtain ⟨a1, rfl, k1⟩ := of_c (fun _ => el_TBoard) h1
  obtain ⟨a2, rfl, k2⟩ := of_c (fun _ => el_TBoard) h2
  obtain ⟨a3, rfl, k3⟩ := of_c (fun _ => el_str) h3
  exact l30_BoardBack_w a1 a2 a3 true (boardBack_true a1 a2 a3 k1.2.2.2.2.2.2.1.1)

set_option maxRecDepth 100000 in
theorem boardBack_lifted (os : Os) (started : os.Started) (H : Type) (enc : TypeId × Value → H) :
    ReturnsInHanded {} Try.checked os 4 .any (Rows.boardBackSpec.pre6 enc Try.prog Try.f4 Rows.boardBackRow.domain false) (Rows.boardBackSpec.post enc Try.prog Try.f4 false true false false) := by
  refine returnsInHanded_of_change (C := Try.checked) boardBack_own started (by kernel_rfl) Try.func4
    (ChangeSpec.witness6 (enc := enc) (C := Try.checked) false ⟨#[], #[.agg #[.string ⟨#[]⟩, .string ⟨#[]⟩, .string ⟨#[]⟩, .int .i64 0, .int .i64 0, .int .i64 0, .int .i64 0, .int .i64 0, .int .i64 0, .int .i64 0, .int .i64 0, .slice none 0 0, .int .i64 0, .int .i64 0, .int .i64 0, .int .i64 0, .bool false, .int .i64 0], .agg #[.string ⟨#[]⟩, .string ⟨#[]⟩, .string ⟨#[]⟩, .int .i64 0, .int .i64 0, .int .i64 0, .int .i64 0, .int .i64 0, .int .i64 0, .int .i64 0, .int .i64 0, .slice none 0 0, .int .i64 0, .int .i64 0, .int .i64 0, .int .i64 0, .bool false, .int .i64 0], .string ⟨#[]⟩], []⟩ 8 (by kernel_rfl) (by kernel_rfl) (by kernel_rfl) (by kernel_rfl)) ?_
  intro W base args ds gs before hval hW hcnd _
  refine law_inner (fn := Try.f4) (spec := Rows.boardBackSpec) [shTBoard, shTBoard, .str] boardBack_laid (by kernel_rfl) (by kernel_rfl) rfl (by kernel_rfl : Try.f4.resultTypes = #[4]) Try.underlying4 ?_ boardBack_walk hval hW
  intro ds hds
  match ds, hds with
  | [_, _, _], _ => exact ⟨rfl, rfl, rfl⟩

theorem boardBack_holds : Rows.BoardBackSaid :=
  OpenClaim.holds_of_wide 4 Try.f4 rfl rfl rfl rfl rfl rfl rfl ⟨rfl, rfl, rfl, rfl, rfl⟩ rfl rfl rfl rfl rfl (by kernel_rfl) Try.func4 (by kernel_rfl)
    (of_decide_eq_true (by kernel_rfl)) (by unfold Func.isWrapper; first | (rw [if_pos (by decide +kernel)]; kernel_rfl) | (rw [if_neg (by decide +kernel)]; exact ⟨rfl, rfl⟩))
    (fun os started H enc _ => boardBack_lifted os started H enc)

end Go.Proofs.Ytpoehckffpbfiaa
