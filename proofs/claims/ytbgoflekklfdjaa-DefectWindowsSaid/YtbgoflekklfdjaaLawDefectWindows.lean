/- For every input the law 'DefectWindows' returns true, and each argument reads afterwards as it did before. No condition. -/
import Derived.Test.YtbgoflekklfdjaaRows
import Derived.Test.YtbgoflekklfdjaaP3
import Derived.Test.YtbgoflekklfdjaaAb28
namespace Go.Proofs.Ytbgoflekklfdjaa
open Go.ChangeShapes Go.WideShapes Go.ChangeAt Go.RowKit Go.Ab

theorem defectWindows_own : ownKnob Try.prog.godebug = none := by kernel_rfl
theorem defectWindows_laid : laidOutB Try.prog = true := by kernel_rfl

theorem defectWindows_walk (xs : List AV) (h : OfAll [(.slice shDf), shDf, (.struct [(.int .i64), (.int .i64)])] xs) (hz : ∀ ys rest, xs = .sl ys :: rest → ys.length * Try.prog.bytesOf 41 ≤ reachBytes) : Holds Try.prog 14 xs [] (.sc (.bool true)) [] := by
  obtain ⟨x1, x2, x3, rfl, h1, h2, h3⟩ := of3 h
  obtain ⟨a1, rfl, k1⟩ := of_c (fun _ => (el_slice (fun _ => el_df))) h1
  obtain ⟨a2, rfl, k2⟩ := of_c (fun _ => el_df) h2
  obtain ⟨a3, rfl, k3⟩ := of_c (fun _ => (el_arr2 (fun _ => c_int))) h3
  have hz0 := hz _ _ rfl
  rw [show Try.prog.bytesOf 41 = 56 by kernel_rfl, List.length_map] at hz0
  have hz1 : reachBytes = 140737488351232 := rfl
  exact l13_DefectWindows_w a1 a2 a3 true (defectWindows_true a1 a2 a3 (by omega))

set_option maxRecDepth 100000 in
theorem defectWindows_lifted (os : Os) (started : os.Started) (H : Type) (enc : TypeId × Value → H) :
    ReturnsInHanded {} Try.checked os 14 .any (Rows.defectWindowsSpec.pre6 enc Try.prog Try.f14 Rows.defectWindowsRow.domain false) (Rows.defectWindowsSpec.post enc Try.prog Try.f14 false true false false) := by
  refine returnsInHanded_of_change_sized (C := Try.checked) defectWindows_own started (by kernel_rfl) Try.func14
    (ChangeSpec.witness6 (enc := enc) (C := Try.checked) false ⟨#[], #[.slice none 0 0, .agg #[.int .i64 0, .int .i64 0, .int .i64 0, .int .i64 0, .int .i64 0, .int .i64 0, .int .i64 0], .agg #[.int .i64 0, .int .i64 0]], []⟩ 8 (by kernel_rfl) (by kernel_rfl) (by kernel_rfl) (by kernel_rfl)) ?_
  intro W base args ds gs before hval hW hcnd hsz _
  refine law_innerZ (fn := Try.f14) (spec := Rows.defectWindowsSpec) [(.slice shDf), shDf, (.struct [(.int .i64), (.int .i64)])] defectWindows_laid (by kernel_rfl) (by kernel_rfl) rfl (by kernel_rfl : Try.f14.resultTypes = #[4]) Try.underlying4 ?_ rfl Try.underlying26 defectWindows_walk hval hW hsz
  intro ds hds
  match ds, hds with
  | [_, _, _], _ => exact ⟨rfl, rfl, rfl⟩

theorem defectWindows_holds : Rows.DefectWindowsSaid :=
  OpenClaim.holds_of_wide 14 Try.f14 rfl rfl rfl rfl rfl rfl rfl ⟨rfl, rfl, rfl, rfl, rfl⟩ rfl rfl rfl rfl rfl (by kernel_rfl) Try.func14 (by kernel_rfl)
    (of_decide_eq_true (by kernel_rfl)) (by unfold Func.isWrapper; first | (rw [if_pos (by decide +kernel)]; kernel_rfl) | (rw [if_neg (by decide +kernel)]; exact ⟨rfl, rfl⟩))
    (fun os started H enc _ => defectWindows_lifted os started H enc)

end Go.Proofs.Ytbgoflekklfdjaa
