/- Contracts of functions of chapter 5: the document's joins. Conditions: none. -/
import Derived.Test.YtjgdcifkaopnpaaDoorA1
set_option maxRecDepth 20000
set_option linter.unusedVariables false
set_option linter.unusedSimpArgs false
namespace Go.RV
open Go Go.Proofs

def anyJ (p : Nat → Bool) : Nat → Bool
  | 0 => false
  | k+1 => anyJ p k || p k
theorem anyJ_iff {p : Nat → Bool} : ∀ {k : Nat}, anyJ p k = true ↔ ∃ j, j < k ∧ p j = true
  | 0 => by simp [anyJ]
  | k+1 => by
    rw [anyJ, Bool.or_eq_true, anyJ_iff]
    constructor
    · rintro (⟨j, h, hp⟩ | hp)
      · exact ⟨j, by omega, hp⟩
      · exact ⟨k, by omega, hp⟩
    · rintro ⟨j, h, hp⟩
      by_cases e : j = k
      · subst e; exact .inr hp
      · exact .inl ⟨j, by omega, hp⟩
theorem anyJ_false {p : Nat → Bool} {k : Nat} : anyJ p k = false ↔ ∀ j, j < k → p j = false := by
  rw [← Bool.not_eq_true, anyJ_iff]
  constructor
  · intro h j hj
    cases hp : p j with
    | false => rfl
    | true => exact absurd ⟨j, hj, hp⟩ h
  · rintro h ⟨j, hj, hp⟩
    rw [h j hj] at hp
    cases hp
theorem cmpV_eq (f g : Nat → Int) : cmpV f g = if anyJ (fun j => decide (g j < f j)) 8 && anyJ (fun j => decide (f j < g j)) 8 then 3 else if anyJ (fun j => decide (g j < f j)) 8 then 2 else if anyJ (fun j => decide (f j < g j)) 8 then 1 else 0 := by
  have e1 : veq f g = (!anyJ (fun j => decide (g j < f j)) 8 && !anyJ (fun j => decide (f j < g j)) 8) := by
    rw [Bool.eq_iff_iff]
    simp only [veq_iff, Bool.and_eq_true, Bool.not_eq_true', anyJ_false, decide_eq_false_iff_not]
    constructor
    · intro h
      exact ⟨fun j hj => by have := h j hj; omega, fun j hj => by have := h j hj; omega⟩
    · rintro ⟨h1, h2⟩ j hj
      have := h1 j hj
      have := h2 j hj
      omega
  have e2 : veq (joinV f g) g = !anyJ (fun j => decide (g j < f j)) 8 := by
    rw [Bool.eq_iff_iff]
    simp only [veq_iff, Bool.not_eq_true', anyJ_false, decide_eq_false_iff_not, joinV]
    constructor
    · intro h j hj
      have := h j hj
      omega
    · intro h j hj
      have := h j hj
      omega
  have e3 : veq (joinV f g) f = !anyJ (fun j => decide (f j < g j)) 8 := by
    rw [Bool.eq_iff_iff]
    simp only [veq_iff, Bool.not_eq_true', anyJ_false, decide_eq_false_iff_not, joinV]
    constructor
    · intro h j hj
      have := h j hj
      omega
    · intro h j hj
      have := h j hj
      omega
  rw [cmpV, e1, e2, e3]
  cases anyJ (fun j => decide (g j < f j)) 8 <;> cases anyJ (fun j => decide (f j < g j)) 8 <;> rfl

theorem le7 {r : Int} : decide (r ≤ 7) = decide (r < 8) := by rw [Bool.eq_iff_iff]; simp; omega
end Go.RV
