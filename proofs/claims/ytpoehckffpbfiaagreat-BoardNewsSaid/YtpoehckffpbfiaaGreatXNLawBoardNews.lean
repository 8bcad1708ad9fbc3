/- For every input the law 'BoardNews' returns true, and each argument reads afterwards as it did before. No condition. -/
import Derived.Test.YtpoehckffpbfiaaGreatRows
import Derived.Test.YtpoehckffpbfiaaGreatXND1
namespace Go.Proofs.YtpoehckffpbfiaaGreat
open Go.ChangeShapes Go.WideShapes Go.ChangeAt Go.RowKit Go.Ab
theorem boardNews_own : ownKnob Tryz.prog.godebug = none := by kernel_rfl
theorem boardNews_laid : laidOutB Tryz.prog = true := by kernel_rfl
theorem boardNews_walk (xs : List AV) (h : OfAll [shTsawmilllaw30_Made, shTsawmilllaw30_Log] xs) : Holds Tryz.prog 4 xs [] (.sc (.bool true)) [] := by
 obtain ⟨x1, x2, rfl, h1, h2⟩ := of2 h
 obtain ⟨a1, rfl, k1⟩ := of_c (fun _ => el_Tsawmilllaw30_Made) h1
 obtain ⟨a2, rfl, k2⟩ := of_c (fun _ => el_Tsawmilllaw30_Log) h2
 exact l30_BoardNews_w a1 a2 true (boardNews_true a1 a2 (lowOk_of k2.1.2) k2.2.1)
set_option maxRecDepth 100000 in
theorem boardNews_lifted (os : Os) (started : os.Started) (H : Type) (enc : TypeId × Value → H) :
  ReturnsInHanded {} Tryz.checked os 4 .any (Rows.boardNewsSpec.pre6 enc Tryz.prog Tryz.f4 Rows.boardNewsRow.domain false) (Rows.boardNewsSpec.post enc Tryz.prog Tryz.f4 false true false false) := by
 refine returnsInHanded_of_change (C := Tryz.checked) boardNews_own started (by kernel_rfl) Tryz.func4
  (ChangeSpec.witness6 (enc := enc) (C := Tryz.checked) false ⟨#[], #[.agg #[.string ⟨#[]⟩, .string ⟨#[]⟩, .string ⟨#[]⟩, .int .i64 0, .int .i64 0, .int .i64 0, .int .i64 0, .int .i64 0, .int .i64 0, .int .i64 0, .int .i64 0, .int .i64 0, .int .i64 0, .int .i64 0, .int .i64 0, .int .i64 0, .int .i64 0, .int .i64 0, .int .i64 0, .int .i64 0, .int .i64 0, .int .i64 0], .agg #[.slice none 0 0, .slice none 0 0]], []⟩ 8 (by kernel_rfl) (by kernel_rfl) (by kernel_rfl) (by kernel_rfl)) ?_
 intro W base args ds gs before hval hW hcnd _
 refine law_inner (fn := Tryz.f4) (spec := Rows.boardNewsSpec) [shTsawmilllaw30_Made, shTsawmilllaw30_Log] boardNews_laid (by kernel_rfl) (by kernel_rfl) rfl (by kernel_rfl : Tryz.f4.resultTypes = #[4]) Tryz.underlying4 ?_ boardNews_walk hval hW
 intro ds hds
 match ds, hds with
 | [_, _], _ => exact ⟨rfl, rfl, rfl⟩
theorem boardNews_holds : Rows.BoardNewsSaid :=
 OpenClaim.holds_of_wide 4 Tryz.f4 rfl rfl rfl rfl rfl rfl rfl ⟨rfl, rfl, rfl, rfl, rfl⟩ rfl rfl rfl rfl rfl (by kernel_rfl) Tryz.func4 (by kernel_rfl)
  (of_decide_eq_true (by kernel_rfl)) (by unfold Func.isWrapper; first | (rw [if_pos (by decide +kernel)]; kernel_rfl) | (rw [if_neg (by decide +kernel)]; exact ⟨rfl, rfl⟩))
  (fun os started H enc _ => boardNews_lifted os started H enc)
end Go.Proofs.YtpoehckffpbfiaaGreat
