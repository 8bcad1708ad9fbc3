/- For every input the law 'BoardVolumes' returns true, and each argument reads afterwards as it did before. No condition. -/
import Derived.Test.YtpoehckffpbfiaaRows
import Derived.Test.YtpoehckffpbfiaaV3
namespace Go.Proofs.Ytpoehckffpbfiaa
open Go.ChangeShapes Go.WideShapes Go.ChangeAt Go.RowKit Go.Ab

theorem boardVolumes_own : ownKnob Try.prog.godebug = none := by kernel_rfl
theorem boardVolumes_laid : laidOutB Try.prog = true := by kernel_rfl

theorem boardVolumes_walk (xs : List AV) (h : OfAll [shTsawmilllaw30_Made, shTsawmilllaw30_Log] xs) : Holds Try.prog 5 xs [] (.sc (.bool true)) [] := by
  obtain ⟨x1, x2, rfl, h1, h2⟩ := of2 h
  obtain ⟨a1, rfl, k1⟩ := of_c (fun _ => el_Tsawmilllaw30_Made) h1
  obtain ⟨a2, rfl, k2⟩ := of_c (fun _ => el_Tsawmilllaw30_Log) h2
  exact l30_BoardVolumes_w a1 a2 true (boardVolumes_true a1 a2 (lowOk_of k2.1.2) k2.2.1)

set_option maxRecDepth 100000 in
theorem boardVolumes_lifted (os : Os) (started : os.Started) (H : Type) (enc : TypeId × Value → H) :
    ReturnsInHanded {} Try.checked os 5 .any (Rows.boardVolumesSpec.pre6 enc Try.prog Try.f5 Rows.boardVolumesRow.domain false) (Rows.boardVolumesSpec.post enc Try.prog Try.f5 false true false false) := by
  refine returnsInHanded_of_change (C := Try.checked) boardVolumes_own started (by kernel_rfl) Try.func5
    (ChangeSpec.witness6 (enc := enc) (C := Try.checked) false ⟨#[], #[.agg #[.string ⟨#[]⟩, .string ⟨#[]⟩, .string ⟨#[]⟩, .int .i64 0, .int .i64 0, .int .i64 0, .int .i64 0, .int .i64 0, .int .i64 0, .int .i64 0, .int .i64 0, .int .i64 0, .int .i64 0, .int .i64 0, .int .i64 0, .int .i64 0, .int .i64 0, .int .i64 0, .int .i64 0, .int .i64 0, .int .i64 0, .int .i64 0], .agg #[.slice none 0 0, .slice none 0 0]], []⟩ 8 (by kernel_rfl) (by kernel_rfl) (by kernel_rfl) (by kernel_rfl)) ?_
  intro W base args ds gs before hval hW hcnd _
  refine law_inner (fn := Try.f5) (spec := Rows.boardVolumesSpec) [shTsawmilllaw30_Made, shTsawmilllaw30_Log] boardVolumes_laid (by kernel_rfl) (by kernel_rfl) rfl (by kernel_rfl : Try.f5.resultTypes = #[4]) Try.underlying4 ?_ boardVolumes_walk hval hW
  intro ds hds
  match ds, hds with
  | [_, _], _ => exact ⟨rfl, rfl, rfl⟩

theorem boardVolumes_holds : Rows.BoardVolumesSaid :=
  OpenClaim.holds_of_wide 5 Try.f5 rfl rfl rfl rfl rfl rfl rfl ⟨rfl, rfl, rfl, rfl, rfl⟩ rfl rfl rfl rfl rfl (by kernel_rfl) Try.func5 (by kernel_rfl)
    (of_decide_eq_true (by kernel_rfl)) (by unfold Func.isWrapper; first | (rw [if_pos (by decide +kernel)]; kernel_rfl) | (rw [if_neg (by decide +kernel)]; exact ⟨rfl, rfl⟩))
    (fun os started H enc _ => boardVolumes_lifted os started H enc)

end Go.Proofs.Ytpoehckffpbfiaa
