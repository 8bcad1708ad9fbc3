/- A1: what functions of the program compute (written by mod.py). -/
import Derived.Test.YtjdgaclkcmjjcaaA1e
import Derived.KernelRfl
namespace Go.Proofs.Ytjdgaclkcmjjcaa
open Go Go.Ab
set_option linter.unusedSimpArgs false
set_option linter.unusedVariables false
set_option maxRecDepth 20000


end Go.Proofs.Ytjdgaclkcmjjcaa
