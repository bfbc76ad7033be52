/- Contracts of functions of chapter 7: what the document's Take takes. Conditions: none. -/
import Derived.Test.YtnhlpmnehdackaaGreatE3
set_option maxRecDepth 20000
set_option linter.unusedVariables false
set_option linter.unusedSimpArgs false
namespace Go.RV
open Go Go.Proofs

theorem countI_lt {n : Int} {j : Nat} (h : 64 * (j : Int) < n) : (j : Int) < countI n := by unfold countI; split <;> omega
theorem countI_ge {n : Int} {j : Nat} (h : n ≤ 64 * (j : Int)) : countI n ≤ (j : Int) := by unfold countI; split <;> omega
end Go.RV
