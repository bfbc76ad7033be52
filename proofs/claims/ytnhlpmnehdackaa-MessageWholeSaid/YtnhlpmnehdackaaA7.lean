/- Contracts of functions of chapter 5: texts of dots; the document's texts. Conditions: none. -/
import Derived.Test.YtnhlpmnehdackaaA5
set_option maxRecDepth 20000
set_option linter.unusedVariables false
set_option linter.unusedSimpArgs false
namespace Go.RV
open Go Go.Proofs

def dotT (r n : Int) : List UInt8 := be r 1 ++ varD n
def tkD (s : RS) : RS × Int × Int := ((varR (fixedR s (1 : Nat)).2).2, numF 0 (fixedR s (1 : Nat)).1, (varR (fixedR s (1 : Nat)).2).1)
def takeDT (t : RS × Int × Int) : (Int × Int) × Int := if t.1.e ≠ 0 then ((0, 0), t.1.e) else if mayDotB t.2.1 t.2.2 then (t.2, 0) else ((0, 0), 4)
theorem pow8 {i : Nat} (h : i ≤ 8) : (0 : Int) < 2 ^ i ∧ (2 : Int) ^ i ≤ 256 := by
  have h9 : i = 0 ∨ i = 1 ∨ i = 2 ∨ i = 3 ∨ i = 4 ∨ i = 5 ∨ i = 6 ∨ i = 7 ∨ i = 8 := by omega
  rcases h9 with rfl | rfl | rfl | rfl | rfl | rfl | rfl | rfl | rfl <;> decide
end Go.RV
