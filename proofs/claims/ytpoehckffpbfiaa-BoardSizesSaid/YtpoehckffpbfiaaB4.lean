/- B4: what functions of the program compute (written by mod.py). -/
import Derived.Test.YtpoehckffpbfiaaB3
import Derived.KernelRfl
namespace Go.Proofs.Ytpoehckffpbfiaa
open Go Go.Ab
set_option linter.unusedSimpArgs false
set_option linter.unusedVariables false
set_option linter.unusedSectionVars false
set_option maxRecDepth 20000
set_option maxHeartbeats 1000000

theorem boardSizes_true (a b : TBoard) (ha : a.Defects.length ≤ 9223372036854775807) : l30_BoardSizes_g a b = some true := by
  unfold l30_BoardSizes_g
  rw [aw30, blen_eq, bvol_eq, bsame_eq ha, r30_same_eq ha]
  cases l30_few_g a <;> cases l30_few_g b <;> simp

end Go.Proofs.Ytpoehckffpbfiaa
