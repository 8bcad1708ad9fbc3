/- A1: what functions of the program compute (written by mod.py). -/
import Derived.Test.YtmfgheklnjmbjaaA1d
import Derived.KernelRfl
namespace Go.Proofs.Ytmfgheklnjmbjaa
open Go Go.Ab
set_option linter.unusedSimpArgs false
set_option linter.unusedVariables false
set_option maxRecDepth 20000


end Go.Proofs.Ytmfgheklnjmbjaa
