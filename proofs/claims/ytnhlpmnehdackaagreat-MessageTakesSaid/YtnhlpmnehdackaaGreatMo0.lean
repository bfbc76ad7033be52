/- What chapter 28's claims hand over, opened: a text. Conditions: none. -/
import Derived.Test.YtnhlpmnehdackaaGreatMa9
import Derived.Test.YtnhlpmnehdackaaGreatRvN
set_option linter.unusedVariables false
set_option maxRecDepth 20000
namespace Go.RV
open Go Go.Proofs
theorem open_str0 {w : World} {r : Reach} {b0 : Nat} {v : Value} (h : Value.okWide Tryz.prog w r b0 9 v) : ∃ s : List UInt8, v = .string (strY s) := by
  simp only [Value.okWide, Tryz.underlying9] at h
  obtain ⟨s, rfl, hn⟩ := cell_string Tryz.underlying9 h
  exact ⟨s.data.toList, by cases s; simp [strY]⟩
end Go.RV
