/- Plain laws of chapter 1: var numbers. Conditions: none. -/
import Derived.Test.YtedoalnjdanebaaV12
set_option linter.unusedVariables false
set_option linter.unusedSimpArgs false
namespace Go.RV
open Go Go.Proofs

theorem k5 {k : Nat} (h : k ≤ 4) : k = 0 ∨ k = 1 ∨ k = 2 ∨ k = 3 ∨ k = 4 := by omega
theorem varRF_f {f k : Nat} {n : Int} {t : List UInt8} {c : UInt8} : varRF (f+1) k n ⟨c :: t, 0⟩ = if (k = 4 ∧ 15 < c.toNat) ∨ (0 < k ∧ c.toNat = 0) then (0, ⟨[], 4⟩) else
    if c.toNat < 128 then (n + (c.toNat % 128 : Nat) * 2 ^ (7 * k), ⟨t, 0⟩) else varRF f (k+1) (n + (c.toNat % 128 : Nat) * 2 ^ (7 * k)) ⟨t, 0⟩ := by
  rw [varRF, if_neg (by simp)]
theorem varRF_e {f k : Nat} {n : Int} {s : RS} (h : s.e ≠ 0) : varRF f k n s = (0, s) := by
  cases f with
  | zero => rfl
  | succ f => rw [varRF, if_pos h]
theorem varRF_nil {f k : Nat} {n : Int} : varRF (f+1) k n ⟨[], 0⟩ = (0, ⟨[], 10⟩) := by
  rw [varRF, if_neg (by simp)]
theorem yI_of {x : Int} (h0 : 0 ≤ x) (h1 : x < 256) : ((yI x).toNat : Int) = x := by rw [yI_val]; omega
theorem u8_ext {a b : UInt8} (h : (a.toNat : Int) = b.toNat) : a = b := UInt8.toNat_inj.1 (by omega)

/-- what is read is what is written -/
theorem varRF_back : ∀ (f k : Nat) (n m : Int) (rest : List UInt8), f + k = 5 → k ≤ 4 → 0 ≤ m → m * 2 ^ (7 * k) < 4294967296 → (0 < k → 0 < m) → varRF f k n ⟨varF f m ++ rest, 0⟩ = (n + m * 2 ^ (7 * k), ⟨rest, 0⟩)
  | 0, k, n, m, rest, hf, hk, _, _, _ => by omega
  | f+1, k, n, m, rest, hf, hk, h0, h1, hp => by
    rw [varF]
    split
    · rename_i hlt
      have hc := yI_of (x := 128 + m % 128) (by omega) (by omega)
      have hk3 : k ≤ 3 := by
        rcases k5 hk with rfl | rfl | rfl | rfl | rfl <;> simp at h1 ⊢; omega
      rw [List.cons_append, varRF_f, if_neg (by omega), if_neg (by omega)]
      have hm : (((yI (128 + m % 128)).toNat % 128 : Nat) : Int) = m % 128 := by omega
      rw [hm, varRF_back f (k+1) _ (m / 128) rest (by omega) (by omega) (by omega) ?_ (by omega)]
      · congr 1
        rcases k5 hk with rfl | rfl | rfl | rfl | rfl <;> simp at hk3 ⊢ <;> omega
      · rcases k5 hk with rfl | rfl | rfl | rfl | rfl <;> simp at h1 hk3 ⊢ <;> omega
    · rename_i hlt
      have hc := yI_of (x := m) (by omega) (by omega)
      have hk4 : k = 4 → m < 16 := by
        rintro rfl
        simp at h1
        omega
      rw [List.cons_append, List.nil_append, varRF_f, if_neg (by omega), if_pos (by omega)]
      have hm : (((yI m).toNat % 128 : Nat) : Int) = m := by omega
      rw [hm]
theorem varR_back {m : Int} (h0 : 0 ≤ m) (h1 : m ≤ 4294967295) (rest : List UInt8) : varR ⟨varD m ++ rest, 0⟩ = (m, ⟨rest, 0⟩) := by
  have := varRF_back 5 0 0 m rest rfl (by decide) h0 (by simp; omega) (by simp)
  unfold varR varD
  rw [this]
  simp
theorem varD_inj {a b : Int} (ha : 0 ≤ a ∧ a ≤ 4294967295) (hb : 0 ≤ b ∧ b ≤ 4294967295) (h : varD a = varD b) : a = b := by
  have h1 := varR_back ha.1 ha.2 []
  have h2 := varR_back hb.1 hb.2 []
  rw [h, h2] at h1
  exact (congrArg Prod.fst h1).symm

/-- what is written is what was read -/
theorem varRF_one : ∀ (f k : Nat) (n : Int) (t : List UInt8), f + k = 5 → k ≤ 4 → (varRF f k n ⟨t, 0⟩).2.e = 0 → ∃ m : Int, 0 ≤ m ∧ (0 < k → 0 < m) ∧ (varRF f k n ⟨t, 0⟩).1 = n + m * 2 ^ (7 * k) ∧ t = varF f m ++ (varRF f k n ⟨t, 0⟩).2.rest
  | 0, k, _, _, hf, hk, _ => by omega
  | f+1, k, n, [], hf, hk, h => by
    rw [varRF_nil] at h
    exact absurd h (by decide)
  | f+1, k, n, c :: t, hf, hk, h => by
    have hc := c.toNat_lt
    rw [varRF_f] at h ⊢
    by_cases hB : (k = 4 ∧ 15 < c.toNat) ∨ (0 < k ∧ c.toNat = 0)
    · rw [if_pos hB] at h
      exact absurd h (show (4 : Int) ≠ 0 by decide)
    · rw [if_neg hB] at h ⊢
      by_cases hd : c.toNat < 128
      · rw [if_pos hd] at h ⊢
        refine ⟨(c.toNat : Int), by omega, by omega, ?_, ?_⟩
        · simp only
          rw [Nat.mod_eq_of_lt hd]
        · simp only
          rw [varF, if_neg (by omega)]
          have : yI (c.toNat : Int) = c := u8_ext (yI_of (by omega) (by omega))
          rw [this]
          rfl
      · rw [if_neg hd] at h ⊢
        obtain ⟨m, h0, hp, hv, ht⟩ := varRF_one f (k+1) _ t (by omega) (by omega) h
        have hp' := hp (by omega)
        refine ⟨(c.toNat % 128 : Nat) + 128 * m, by omega, by omega, ?_, ?_⟩
        · rw [hv]
          have e : (2 : Int) ^ (7 * (k + 1)) = 2 ^ (7 * k) * 128 := by rw [show 7 * (k + 1) = 7 * k + 7 from by omega, Int.pow_add]; rfl
          rw [e, Int.add_mul, Int.add_assoc, Int.mul_assoc, ← Int.mul_assoc m, Int.mul_comm (m * _) 128]
        · rw [varF, if_pos (by omega)]
          have e1 : (((c.toNat % 128 : Nat) : Int) + 128 * m) % 128 = (c.toNat % 128 : Nat) := by omega
          have e2 : (((c.toNat % 128 : Nat) : Int) + 128 * m) / 128 = m := by omega
          rw [e1, e2]
          have : yI (128 + ((c.toNat % 128 : Nat) : Int)) = c := u8_ext (by rw [yI_of (by omega) (by omega)]; omega)
          rw [this, List.cons_append, ← ht]
theorem varR_one {t : List UInt8} (h : (varR ⟨t, 0⟩).2.e = 0) : varD (varR ⟨t, 0⟩).1 ++ (varR ⟨t, 0⟩).2.rest = t := by
  obtain ⟨m, _, _, hv, ht⟩ := varRF_one 5 0 0 t rfl (by decide) h
  unfold varR varD at *
  rw [hv]
  simp only [Nat.mul_zero, Int.pow_zero, Int.mul_one, Int.zero_add]
  exact ht.symm
theorem varF_mono : ∀ (f : Nat) {a b : Int}, a ≤ b → (varF f a).length ≤ (varF f b).length
  | 0, a, b, h => by simp [varF]
  | f+1, a, b, h => by
    have ih := varF_mono f (a := a / 128) (b := b / 128) (by omega)
    rw [varF, varF]
    split <;> split <;> simp <;> omega
theorem varF_pos : ∀ (f : Nat) (a : Int), 1 ≤ (varF f a).length
  | 0, a => by simp [varF]
  | f+1, a => by
    rw [varF]
    split <;> simp
theorem varF_le : ∀ (f : Nat) (a : Int), 1 ≤ f → a < 2 ^ (7 * f) → (varF f a).length ≤ f
  | 0, a, h, _ => by omega
  | f+1, a, _, h => by
    rw [varF]
    split
    · rename_i hlt
      cases f with
      | zero => simp at h; omega
      | succ f =>
        have e : (2 : Int) ^ (7 * (f + 1 + 1)) = 2 ^ (7 * (f + 1)) * 128 := by rw [show 7 * (f + 1 + 1) = 7 * (f + 1) + 7 from by omega, Int.pow_add]; rfl
        rw [e] at h
        have ih := varF_le (f + 1) (a / 128) (by omega) (Int.ediv_lt_of_lt_mul (by decide) h)
        simp only [List.length_cons]
        omega
    · simp
theorem varD_le {a : Int} (h : a ≤ 4294967295) : (varD a).length ≤ 5 := varF_le 5 a (by decide) (Int.lt_of_le_of_lt h (by decide))
end Go.RV
