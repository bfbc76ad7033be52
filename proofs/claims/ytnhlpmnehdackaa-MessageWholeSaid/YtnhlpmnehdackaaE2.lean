/- Contracts of functions of chapter 7: the document's texts. Conditions: none. -/
import Derived.Test.YtnhlpmnehdackaaE1
import Derived.Test.YtnhlpmnehdackaaP2
set_option maxRecDepth 20000
set_option linter.unusedVariables false
set_option linter.unusedSimpArgs false
namespace Go.RV
open Go Go.Proofs

theorem okVB_dir {n : Int} {xs : List Int} (h : okVB true n xs = true) : n = 0 ∧ xs = [] := by
  simp only [okVB, Bool.true_and, Bool.and_eq_true, Bool.not_eq_true', Bool.or_eq_false_iff, decide_eq_false_iff_not, bne_eq_false_iff_eq] at h
  obtain ⟨⟨h1, h2⟩, _⟩ := h
  cases xs with
  | nil => exact ⟨h1, rfl⟩
  | cons a xs => simp at h2
theorem okVB_size {d : Bool} {n : Int} {xs : List Int} (h : okVB d n xs = true) : 0 ≤ n ∧ n ≤ 256 := by
  simp only [okVB, Bool.and_eq_true, Bool.not_eq_true', Bool.or_eq_false_iff, decide_eq_false_iff_not] at h
  omega
end Go.RV
