/- For every input the law 'BoardChecks' returns true, and each argument reads afterwards as it did before. No condition. -/
import Derived.Test.YtpoehckffpbfiaaGreatRows
import Derived.Test.YtpoehckffpbfiaaGreatXCC3
namespace Go.Proofs.YtpoehckffpbfiaaGreat
open Go.ChangeShapes Go.WideShapes Go.ChangeAt Go.RowKit Go.Ab
theorem boardChecks_own : ownKnob Tryz.prog.godebug = none := by kernel_rfl
theorem boardChecks_laid : laidOutB Tryz.prog = true := by kernel_rfl
theorem boardChecks_walk (xs : List AV) (h : OfAll [shTBoard, (.slice shTProduct)] xs) : Holds Tryz.prog 3 xs [] (.sc (.bool true)) [] := by
 obtain ⟨x1, x2, rfl, h1, h2⟩ := of2 h
 obtain ⟨a1, rfl, k1⟩ := of_c (fun _ => el_TBoard) h1
 obtain ⟨a2, rfl, k2⟩ := of_c (fun _ => (el_slice (fun _ => el_TProduct))) h2
 exact l30_BoardChecks_w a1 a2 true (boardChecks_true a1 a2 k1.2.2.2.2.2.2.1.1 (fun p hp => (k2.2 p hp).2.2.2.2.2.1.1))
set_option maxRecDepth 100000 in
theorem boardChecks_lifted (os : Os) (started : os.Started) (H : Type) (enc : TypeId × Value → H) :
  ReturnsInHanded {} Tryz.checked os 3 .any (Rows.boardChecksSpec.pre6 enc Tryz.prog Tryz.f3 Rows.boardChecksRow.domain false) (Rows.boardChecksSpec.post enc Tryz.prog Tryz.f3 false true false false) := by
 refine returnsInHanded_of_change (C := Tryz.checked) boardChecks_own started (by kernel_rfl) Tryz.func3
  (ChangeSpec.witness6 (enc := enc) (C := Tryz.checked) false ⟨#[], #[.agg #[.string ⟨#[]⟩, .string ⟨#[]⟩, .string ⟨#[]⟩, .int .i64 0, .int .i64 0, .int .i64 0, .int .i64 0, .int .i64 0, .int .i64 0, .int .i64 0, .int .i64 0, .slice none 0 0, .int .i64 0, .int .i64 0, .int .i64 0, .int .i64 0, .bool false, .int .i64 0], .slice none 0 0], []⟩ 8 (by kernel_rfl) (by kernel_rfl) (by kernel_rfl) (by kernel_rfl)) ?_
 intro W base args ds gs before hval hW hcnd _
 refine law_inner (fn := Tryz.f3) (spec := Rows.boardChecksSpec) [shTBoard, (.slice shTProduct)] boardChecks_laid (by kernel_rfl) (by kernel_rfl) rfl (by kernel_rfl : Tryz.f3.resultTypes = #[4]) Tryz.underlying4 ?_ boardChecks_walk hval hW
 intro ds hds
 match ds, hds with
 | [_, _], _ => exact ⟨rfl, rfl, rfl⟩
theorem boardChecks_holds : Rows.BoardChecksSaid :=
 OpenClaim.holds_of_wide 3 Tryz.f3 rfl rfl rfl rfl rfl rfl rfl ⟨rfl, rfl, rfl, rfl, rfl⟩ rfl rfl rfl rfl rfl (by kernel_rfl) Tryz.func3 (by kernel_rfl)
  (of_decide_eq_true (by kernel_rfl)) (by unfold Func.isWrapper; first | (rw [if_pos (by decide +kernel)]; kernel_rfl) | (rw [if_neg (by decide +kernel)]; exact ⟨rfl, rfl⟩))
  (fun os started H enc _ => boardChecks_lifted os started H enc)
end Go.Proofs.YtpoehckffpbfiaaGreat
