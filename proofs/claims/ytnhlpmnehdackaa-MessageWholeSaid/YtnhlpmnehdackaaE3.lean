/- Contracts of functions of chapter 7: what the document's takes. Conditions: none. -/
import Derived.Test.YtnhlpmnehdackaaE2
set_option maxRecDepth 20000
set_option linter.unusedVariables false
set_option linter.unusedSimpArgs false
namespace Go.RV
open Go Go.Proofs

theorem fixedR_e {s : RS} {n : Int} (h : (fixedR s n).2.e ≠ 0) : (fixedR s n).1 = [] := by
  unfold fixedR at h ⊢
  split
  · rfl
  · split
    · rfl
    · rename_i h1 h2
      rw [if_neg h1, if_neg h2] at h
      simp at h1 h
      exact absurd h1.1 h
end Go.RV
