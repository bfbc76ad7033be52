/- Contracts of functions of chapter 1: the document's reader. Conditions: none. -/
import Derived.Test.YtedoalnjdanebaaV10
set_option maxRecDepth 20000
set_option linter.unusedVariables false
set_option linter.unusedSimpArgs false
namespace Go.RV
open Go Go.Proofs

theorem wrap_u64 {x : Int} (h0 : 0 ≤ x) (h1 : x ≤ 18446744073709551615) : IntKind.u64.wrap x = x := by
  show x.emod 18446744073709551616 = x
  exact Int.emod_eq_of_lt h0 (by omega)
theorem fixedR_err {s : RS} (h : s.e ≠ 0) (n : Int) : fixedR s n = ([], s) := by rw [fixedR, if_pos (.inl h)]
theorem accB {n : Int} {x k : Nat} (h0 : 0 ≤ n) (h1 : n < 2 ^ (7 * k)) (hk : k ≤ 3) (hx : x < 128) : 0 ≤ n + (x : Int) * 2 ^ (7 * k) ∧ n + (x : Int) * 2 ^ (7 * k) < 2 ^ (7 * (k + 1)) := by
  have hk5 : k = 0 ∨ k = 1 ∨ k = 2 ∨ k = 3 := by omega
  rcases hk5 with rfl | rfl | rfl | rfl <;> simp at h1 ⊢ <;> omega
theorem over4 {n : Int} {x k : Nat} (h0 : 0 ≤ n) (h1 : n < 2 ^ (7 * k)) (hk : k ≤ 4) (hx : x < 128) : 4294967295 < n + (x : Int) * 2 ^ (7 * k) ↔ k = 4 ∧ 15 < x := by
  have hk5 : k = 0 ∨ k = 1 ∨ k = 2 ∨ k = 3 ∨ k = 4 := by omega
  rcases hk5 with rfl | rfl | rfl | rfl | rfl <;> simp at h1 ⊢ <;> omega
theorem accW {n : Int} {x k : Nat} (h0 : 0 ≤ n) (h1 : n < 2 ^ (7 * k)) (hk : k ≤ 4) (hx : x < 128) : IntKind.u64.wrap (n + IntKind.u64.wrap ((x : Int) * 2 ^ (7 * k))) = n + (x : Int) * 2 ^ (7 * k) := by
  have hk5 : k = 0 ∨ k = 1 ∨ k = 2 ∨ k = 3 ∨ k = 4 := by omega
  have h : 0 ≤ (x : Int) * 2 ^ (7 * k) ∧ (x : Int) * 2 ^ (7 * k) ≤ 1152921504606846976 ∧ n ≤ 1152921504606846976 := by
    rcases hk5 with rfl | rfl | rfl | rfl | rfl <;> simp at h1 ⊢ <;> omega
  rw [wrap_u64 h.1 (by omega), wrap_u64 (by omega) (by omega)]

end Go.RV
