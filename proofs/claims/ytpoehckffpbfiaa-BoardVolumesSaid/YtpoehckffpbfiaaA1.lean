/- A1: what functions of the program compute (written by mod.py). -/
import Derived.Test.YtpoehckffpbfiaaA1d
import Derived.KernelRfl
namespace Go.Proofs.Ytpoehckffpbfiaa
open Go Go.Ab
set_option linter.unusedSimpArgs false
set_option linter.unusedVariables false
set_option linter.unusedSectionVars false
set_option maxRecDepth 20000
set_option maxHeartbeats 1000000


end Go.Proofs.Ytpoehckffpbfiaa
