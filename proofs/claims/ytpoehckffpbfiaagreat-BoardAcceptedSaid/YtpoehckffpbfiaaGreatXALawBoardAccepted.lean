/- For every input the law 'BoardAccepted' returns true, and each argument reads afterwards as it did before. No condition. -/
import Derived.Test.YtpoehckffpbfiaaGreatRows
import Derived.Test.YtpoehckffpbfiaaGreatXAE2
namespace Go.Proofs.YtpoehckffpbfiaaGreat
open Go.ChangeShapes Go.WideShapes Go.ChangeAt Go.RowKit Go.Ab
theorem boardAccepted_own : ownKnob Tryz.prog.godebug = none := by kernel_rfl
theorem boardAccepted_laid : laidOutB Tryz.prog = true := by kernel_rfl
theorem boardAccepted_walk (xs : List AV) (h : OfAll [shTsawmilllaw30_Made, shTsawmilllaw30_Log, (.slice shTProduct)] xs) : Holds Tryz.prog 6 xs [] (.sc (.bool true)) [] := by
 obtain ⟨x1, x2, x3, rfl, h1, h2, h3⟩ := of3 h
 obtain ⟨a1, rfl, k1⟩ := of_c (fun _ => el_Tsawmilllaw30_Made) h1
 obtain ⟨a2, rfl, k2⟩ := of_c (fun _ => el_Tsawmilllaw30_Log) h2
 obtain ⟨a3, rfl, k3⟩ := of_c (fun _ => (el_slice (fun _ => el_TProduct))) h3
 exact l30_BoardAccepted_w a1 a2 a3 true (boardAccepted_true a1 a2 a3 (lowOk_of k2.1.2) k2.2.1)
set_option maxRecDepth 100000 in
theorem boardAccepted_lifted (os : Os) (started : os.Started) (H : Type) (enc : TypeId × Value → H) :
  ReturnsInHanded {} Tryz.checked os 6 .any (Rows.boardAcceptedSpec.pre6 enc Tryz.prog Tryz.f6 Rows.boardAcceptedRow.domain false) (Rows.boardAcceptedSpec.post enc Tryz.prog Tryz.f6 false true false false) := by
 refine returnsInHanded_of_change (C := Tryz.checked) boardAccepted_own started (by kernel_rfl) Tryz.func6
  (ChangeSpec.witness6 (enc := enc) (C := Tryz.checked) false ⟨#[], #[.agg #[.string ⟨#[]⟩, .string ⟨#[]⟩, .string ⟨#[]⟩, .int .i64 0, .int .i64 0, .int .i64 0, .int .i64 0, .int .i64 0, .int .i64 0, .int .i64 0, .int .i64 0, .int .i64 0, .int .i64 0, .int .i64 0, .int .i64 0, .int .i64 0, .int .i64 0, .int .i64 0, .int .i64 0, .int .i64 0, .int .i64 0, .int .i64 0], .agg #[.slice none 0 0, .slice none 0 0], .slice none 0 0], []⟩ 8 (by kernel_rfl) (by kernel_rfl) (by kernel_rfl) (by kernel_rfl)) ?_
 intro W base args ds gs before hval hW hcnd _
 refine law_inner (fn := Tryz.f6) (spec := Rows.boardAcceptedSpec) [shTsawmilllaw30_Made, shTsawmilllaw30_Log, (.slice shTProduct)] boardAccepted_laid (by kernel_rfl) (by kernel_rfl) rfl (by kernel_rfl : Tryz.f6.resultTypes = #[4]) Tryz.underlying4 ?_ boardAccepted_walk hval hW
 intro ds hds
 match ds, hds with
 | [_, _, _], _ => exact ⟨rfl, rfl, rfl⟩
theorem boardAccepted_holds : Rows.BoardAcceptedSaid :=
 OpenClaim.holds_of_wide 6 Tryz.f6 rfl rfl rfl rfl rfl rfl rfl ⟨rfl, rfl, rfl, rfl, rfl⟩ rfl rfl rfl rfl rfl (by kernel_rfl) Tryz.func6 (by kernel_rfl)
  (of_decide_eq_true (by kernel_rfl)) (by unfold Func.isWrapper; first | (rw [if_pos (by decide +kernel)]; kernel_rfl) | (rw [if_neg (by decide +kernel)]; exact ⟨rfl, rfl⟩))
  (fun os started H enc _ => boardAccepted_lifted os started H enc)
end Go.Proofs.YtpoehckffpbfiaaGreat
