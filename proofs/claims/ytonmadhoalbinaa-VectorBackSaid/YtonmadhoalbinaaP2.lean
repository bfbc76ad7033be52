/- Plain laws of chapter 1: what is written is read; a beginning is torn. Conditions: none. -/
import Derived.Test.YtonmadhoalbinaaV17
set_option linter.unusedVariables false
set_option linter.unusedSimpArgs false
namespace Go.RV
open Go Go.Proofs

theorem fixedR_all {l rest : List UInt8} {n : Int} (hn : n = l.length) : fixedR ⟨l ++ rest, 0⟩ n = (l, ⟨rest, 0⟩) := by
  subst hn
  cases l with
  | nil => rw [fixedR, if_pos (.inr (by simp))]; rfl
  | cons c l =>
    rw [fixedR, if_neg (by simp), if_neg (by simp; omega)]
    simp
theorem fixedR_torn {p : List UInt8} {n : Int} (hn : (p.length : Int) < n) : fixedR ⟨p, 0⟩ n = ([], ⟨[], 10⟩) := by
  rw [fixedR, if_neg (by simp; omega), if_pos (by simpa using hn)]
theorem numF_be1 {n : Int} (h : 0 ≤ n) : numF 0 (be n 1) = n % 256 := by
  simp only [be, numF, List.foldl_cons, List.foldl_nil, yI_val, Nat.mul_zero, Int.pow_zero, Int.ediv_one]
  omega
theorem numF_be2 {n : Int} (h : 0 ≤ n) : numF 0 (be n 2) = n % 65536 := by
  simp only [be, numF, List.foldl_cons, List.foldl_nil, yI_val, Nat.mul_zero, Int.pow_zero, Int.ediv_one, show (2 : Int) ^ (8 * 1) = 256 from by decide]
  omega
theorem numF_be4 {n : Int} (h : 0 ≤ n) (h1 : n ≤ 4294967295) : numF 0 (be n 4) = n := by
  simp only [be, numF, List.foldl_cons, List.foldl_nil, yI_val, Nat.mul_zero, Int.pow_zero, Int.ediv_one, show (2 : Int) ^ (8 * 1) = 256 from by decide, show (2 : Int) ^ (8 * 2) = 65536 from by decide, show (2 : Int) ^ (8 * 3) = 16777216 from by decide]
  omega
theorem textR_back {s rest : List UInt8} (hs : s.length ≤ 4294967295) : textR ⟨textD s ++ rest, 0⟩ = (s, ⟨rest, 0⟩) := by
  unfold textR textD
  rw [List.append_assoc, varR_back (by omega) (by omega)]
  exact fixedR_all rfl

theorem varRF_torn : ∀ (f k : Nat) (n m : Int) (p q : List UInt8), f + k = 5 → k ≤ 4 → 0 ≤ m → m * 2 ^ (7 * k) < 4294967296 → p ++ q = varF f m → q ≠ [] → varRF f k n ⟨p, 0⟩ = (0, ⟨[], 10⟩)
  | 0, k, n, m, p, q, hf, hk, _, _, _, _ => by omega
  | f+1, k, n, m, [], q, hf, hk, h0, h1, hpq, hq => varRF_nil
  | f+1, k, n, m, c :: p, q, hf, hk, h0, h1, hpq, hq => by
    rw [varF] at hpq
    split at hpq
    · rename_i hlt
      rw [List.cons_append, List.cons.injEq] at hpq
      obtain ⟨rfl, hpq⟩ := hpq
      have hc := yI_of (x := 128 + m % 128) (by omega) (by omega)
      have hk3 : k ≤ 3 := by
        rcases k5 hk with rfl | rfl | rfl | rfl | rfl <;> simp at h1 ⊢; omega
      rw [varRF_f, if_neg (by omega), if_neg (by omega)]
      refine varRF_torn f (k+1) _ (m / 128) p q (by omega) (by omega) (by omega) ?_ hpq hq
      rcases k5 hk with rfl | rfl | rfl | rfl | rfl <;> simp at h1 hk3 ⊢ <;> omega
    · have hl := congrArg List.length hpq
      have : q.length ≠ 0 := fun h => hq (List.eq_nil_of_length_eq_zero h)
      simp only [List.length_append, List.length_cons, List.length_nil] at hl
      omega
theorem varR_torn {m : Int} (h0 : 0 ≤ m) (h1 : m ≤ 4294967295) {p q : List UInt8} (h : p ++ q = varD m) (hq : q ≠ []) : varR ⟨p, 0⟩ = (0, ⟨[], 10⟩) :=
  varRF_torn 5 0 0 m p q rfl (by decide) h0 (by simp; omega) h hq
theorem len_ne {α : Type} {q : List α} (h : q ≠ []) : 0 < q.length := by
  cases q with
  | nil => exact absurd rfl h
  | cons => simp
theorem fixedR_stuck (n : Int) : fixedR ⟨[], 10⟩ n = ([], ⟨[], 10⟩) := fixedR_err (by show (10 : Int) ≠ 0; decide) n

end Go.RV
