/- Contracts of functions of chapter 1: an item written, an item read. Conditions: none. -/
import Derived.Test.YtonmadhoalbinaaV15
set_option maxRecDepth 20000
set_option linter.unusedVariables false
set_option linter.unusedSimpArgs false
namespace Go.RV
open Go Go.Proofs

end Go.RV
