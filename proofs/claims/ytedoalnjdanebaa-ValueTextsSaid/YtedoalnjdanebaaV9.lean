/- Contracts of functions of chapter 1: a var number that is read. Conditions: none. -/
import Derived.Test.YtedoalnjdanebaaV8
set_option maxRecDepth 20000
set_option linter.unusedVariables false
set_option linter.unusedSimpArgs false
namespace Go.RV
open Go Go.Proofs

def varRF : Nat → Nat → Int → RS → Int × RS
  | 0, _, _, s => (0, s)
  | f+1, k, n, s => if s.e ≠ 0 then (0, s) else match s.rest with
    | [] => (0, ⟨[], 10⟩)
    | c :: t => if (k = 4 ∧ 15 < c.toNat) ∨ (0 < k ∧ c.toNat = 0) then (0, ⟨[], 4⟩) else
      if c.toNat < 128 then (n + (c.toNat % 128 : Nat) * 2 ^ (7 * k), ⟨t, 0⟩) else varRF f (k+1) (n + (c.toNat % 128 : Nat) * 2 ^ (7 * k)) ⟨t, 0⟩
def varR (s : RS) : Int × RS := varRF 5 0 0 s

theorem fixedR_one_nil {s : RS} (h : s.e = 0) (hr : s.rest = []) : fixedR s 1 = ([], ⟨[], 10⟩) := by
  rw [fixedR, if_neg (by simp [h]), if_pos (by simp [hr])]
theorem fixedR_one_cons {s : RS} {c : UInt8} {t : List UInt8} (h : s.e = 0) (hr : s.rest = c :: t) : fixedR s 1 = ([c], ⟨t, 0⟩) := by
  rw [fixedR, if_neg (by simp [h]), if_neg (by simp [hr]; omega)]
  simp [hr, h]
theorem numF_one (c : UInt8) : IntKind.u8.wrap (numF 0 [c]) = (c.toNat : Int) := by
  have hc := c.toNat_lt
  simp only [numF, List.foldl_cons, List.foldl_nil]
  rw [wrap_u8 (by omega) (by omega)]
  omega
theorem orShift {n : Int} {x k : Nat} (h0 : 0 ≤ n) (h1 : n < 2 ^ (7 * k)) (hk : k ≤ 4) (hx : x < 128) (hx4 : k = 4 → x < 16) : bOr .u32 n (bShl .u32 (x : Int) ((7 * k : Nat) : Int)) = n + (x : Int) * 2 ^ (7 * k) := by
  obtain ⟨m, rfl⟩ := Int.eq_ofNat_of_zero_le h0
  have hm : m < 2 ^ (7 * k) := by exact_mod_cast h1
  have hb : IntKind.u32.bits = 32 := rfl
  have hlt : x * 2 ^ (7 * k) + m < 4294967296 := by
    have hk5 : k = 0 ∨ k = 1 ∨ k = 2 ∨ k = 3 ∨ k = 4 := by omega
    rcases hk5 with rfl | rfl | rfl | rfl | rfl <;> simp at hm ⊢ <;> first | omega | (have := hx4 rfl; omega)
  have e8 : bShl .u32 (x : Int) ((7 * k : Nat) : Int) = ((x * 2 ^ (7 * k) : Nat) : Int) := by
    unfold bShl
    rw [hb, Int.toNat_natCast, Nat.min_eq_left (by omega)]
    have : ((x : Int) * 2 ^ (7 * k)) = ((x * 2 ^ (7 * k) : Nat) : Int) := by simp
    rw [this, wrap_u32 (by omega) (by omega)]
  rw [e8]
  unfold bOr
  rw [hb]
  have e1 : BitVec.ofInt 32 ((m : Nat) : Int) = BitVec.ofNat 32 m := BitVec.ofInt_natCast 32 _
  have e2 : BitVec.ofInt 32 ((x * 2 ^ (7 * k) : Nat) : Int) = BitVec.ofNat 32 (x * 2 ^ (7 * k)) := BitVec.ofInt_natCast 32 _
  rw [e1, e2, BitVec.toNat_or, BitVec.toNat_ofNat, BitVec.toNat_ofNat, Nat.mod_eq_of_lt (by omega), Nat.mod_eq_of_lt (by omega)]
  have e3 : m ||| x * 2 ^ (7 * k) = x * 2 ^ (7 * k) + m := by
    rw [Nat.or_comm, ← Nat.shiftLeft_eq]
    exact (Nat.shiftLeft_add_eq_or_of_lt hm x).symm
  rw [e3, wrap_u32 (by omega) (by omega)]
  simp
  omega

end Go.RV
