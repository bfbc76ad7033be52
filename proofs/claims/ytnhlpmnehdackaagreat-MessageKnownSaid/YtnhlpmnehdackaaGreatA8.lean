/- Contracts of functions of chapter 5: what the document's takes. Conditions: none. -/
import Derived.Test.YtnhlpmnehdackaaGreatA7
set_option maxRecDepth 20000
set_option linter.unusedVariables false
set_option linter.unusedSimpArgs false
namespace Go.RV
open Go Go.Proofs

end Go.RV
