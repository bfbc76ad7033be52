/- Contracts of functions of chapter 1: a var number that is written. Conditions: none. -/
import Derived.Test.YtedoalnjdanebaaV3
import Derived.Test.YtedoalnjdanebaaRvR
set_option maxRecDepth 20000
set_option linter.unusedVariables false
set_option linter.unusedSimpArgs false
namespace Go.RV
open Go Go.Proofs

theorem u8var {n : Int} (h : 0 ≤ n) : [Value.int .u8 (IntKind.u8.wrap (IntKind.u8.wrap (n.tmod 128) + 128))] = flat encY [yI (128 + n % 128)] := by
  rw [Int.tmod_eq_emod_of_nonneg h, wrap_u8 (x := n % 128) (by omega) (by omega), Int.add_comm, u8v]

end Go.RV
