/- For every input the law 'BoardTexts' returns true, and each argument reads afterwards as it did before. No condition. -/
import Derived.Test.YtpoehckffpbfiaaGreatRows
import Derived.Test.YtpoehckffpbfiaaGreatXTB8
namespace Go.Proofs.YtpoehckffpbfiaaGreat
open Go.ChangeShapes Go.WideShapes Go.ChangeAt Go.RowKit Go.Ab
theorem boardTexts_own : ownKnob Tryz.prog.godebug = none := by kernel_rfl
theorem boardTexts_laid : laidOutB Tryz.prog = true := by kernel_rfl
theorem boardTexts_walk (xs : List AV) (h : OfAll [shTBoard, .str] xs) : Holds Tryz.prog 5 xs [] (.sc (.bool true)) [] := by
 obtain ⟨x1, x2, rfl, h1, h2⟩ := of2 h
 obtain ⟨a1, rfl, k1⟩ := of_c (fun _ => el_TBoard) h1
 obtain ⟨a2, rfl, k2⟩ := of_c (fun _ => el_str) h2
 exact l30_BoardTexts_w a1 a2 true (boardTexts_true a1 a2)
set_option maxRecDepth 100000 in
theorem boardTexts_lifted (os : Os) (started : os.Started) (H : Type) (enc : TypeId × Value → H) :
  ReturnsInHanded {} Tryz.checked os 5 .any (Rows.boardTextsSpec.pre6 enc Tryz.prog Tryz.f5 Rows.boardTextsRow.domain false) (Rows.boardTextsSpec.post enc Tryz.prog Tryz.f5 false true false false) := by
 refine returnsInHanded_of_change (C := Tryz.checked) boardTexts_own started (by kernel_rfl) Tryz.func5
  (ChangeSpec.witness6 (enc := enc) (C := Tryz.checked) false ⟨#[], #[.agg #[.string ⟨#[]⟩, .string ⟨#[]⟩, .string ⟨#[]⟩, .int .i64 0, .int .i64 0, .int .i64 0, .int .i64 0, .int .i64 0, .int .i64 0, .int .i64 0, .int .i64 0, .slice none 0 0, .int .i64 0, .int .i64 0, .int .i64 0, .int .i64 0, .bool false, .int .i64 0], .string ⟨#[]⟩], []⟩ 8 (by kernel_rfl) (by kernel_rfl) (by kernel_rfl) (by kernel_rfl)) ?_
 intro W base args ds gs before hval hW hcnd _
 refine law_inner (fn := Tryz.f5) (spec := Rows.boardTextsSpec) [shTBoard, .str] boardTexts_laid (by kernel_rfl) (by kernel_rfl) rfl (by kernel_rfl : Tryz.f5.resultTypes = #[4]) Tryz.underlying4 ?_ boardTexts_walk hval hW
 intro ds hds
 match ds, hds with
 | [_, _], _ => exact ⟨rfl, rfl, rfl⟩
theorem boardTexts_holds : Rows.BoardTextsSaid :=
 OpenClaim.holds_of_wide 5 Tryz.f5 rfl rfl rfl rfl rfl rfl rfl ⟨rfl, rfl, rfl, rfl, rfl⟩ rfl rfl rfl rfl rfl (by kernel_rfl) Tryz.func5 (by kernel_rfl)
  (of_decide_eq_true (by kernel_rfl)) (by unfold Func.isWrapper; first | (rw [if_pos (by decide +kernel)]; kernel_rfl) | (rw [if_neg (by decide +kernel)]; exact ⟨rfl, rfl⟩))
  (fun os started H enc _ => boardTexts_lifted os started H enc)
end Go.Proofs.YtpoehckffpbfiaaGreat
