/- The laws of chapter 5, walked: VectorJoins. Conditions: none. -/
import Derived.Test.YtnhlpmnehdackaaGreatA4
set_option maxRecDepth 20000
set_option linter.unusedVariables false
set_option linter.unusedSimpArgs false
namespace Go.RV
open Go Go.Proofs

theorem veq_self (f : Nat → Int) : veq f f = true := veq_iff.2 fun _ _ => rfl
theorem beqB (a : Bool) : (a == a) = true := by cases a <;> rfl
end Go.RV
