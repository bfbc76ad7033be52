/- Contracts of functions of chapter 7: a copy. Conditions: none. -/
import Derived.Test.YtnhlpmnehdackaaGreatD6
import Derived.Test.YtnhlpmnehdackaaGreatRvW
set_option maxRecDepth 20000
set_option linter.unusedVariables false
set_option linter.unusedSimpArgs false
namespace Go.RV
open Go Go.Proofs

end Go.RV
