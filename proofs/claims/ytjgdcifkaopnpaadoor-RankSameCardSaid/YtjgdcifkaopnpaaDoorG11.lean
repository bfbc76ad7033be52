/- The laws of chapter 8, walked: RankGroups. Conditions: none. -/
import Derived.Test.YtjgdcifkaopnpaaDoorG10
set_option maxRecDepth 20000
set_option linter.unusedVariables false
set_option linter.unusedSimpArgs false
namespace Go.RV.C08
open Go Go.Proofs

end Go.RV.C08
