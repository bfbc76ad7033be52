/- Plain laws of chapter 5: what is put is taken; what is taken has that text. Conditions: none. -/
import Derived.Test.YtnhlpmnehdackaaGreatA9
import Derived.Test.YtnhlpmnehdackaaGreatP2
set_option linter.unusedVariables false
set_option linter.unusedSimpArgs false
namespace Go.RV
open Go Go.Proofs

theorem bit_lo {B : Int} {i k : Nat} (hi : i < k) : (B + 2 ^ k) / 2 ^ i % 2 = B / 2 ^ i % 2 := by
  obtain ⟨d, rfl⟩ : ∃ d, k = i + (d + 1) := ⟨k - i - 1, by omega⟩
  have e : (2 : Int) ^ (i + (d + 1)) = 2 ^ i * (2 * 2 ^ d) := by rw [Int.pow_add, Int.pow_succ, Int.mul_comm (2 ^ d) 2]
  have hp : (2 : Int) ^ i ≠ 0 := Int.ne_of_gt (Int.pow_pos (by decide))
  rw [e, Int.add_mul_ediv_left _ _ hp, Int.add_mul_emod_self_left]
theorem bit_hi {B : Int} {k : Nat} (h0 : 0 ≤ B) (h1 : B < 2 ^ k) : (B + 2 ^ k) / 2 ^ k % 2 = 1 ∧ B / 2 ^ k % 2 = 0 := by
  have hp : (2 : Int) ^ k ≠ 0 := Int.ne_of_gt (Int.pow_pos (by decide))
  have e := Int.add_mul_ediv_left B 1 hp
  rw [Int.mul_one] at e
  rw [e, Int.ediv_eq_zero_of_lt h0 h1]
  decide
theorem bitsN_bit (f : Nat → Int) : ∀ k i, i < k → bitB (bitsN f k) i = decide (0 < f i)
  | 0, _, h => by omega
  | k+1, i, h => by
    have hb := bitsN_lt f k
    unfold bitB bitsN
    by_cases e : i = k
    · subst e
      have h2 := bit_hi hb.1 hb.2
      by_cases hf : 0 < f i
      · rw [if_pos hf, h2.1]; simp [hf]
      · rw [if_neg hf, h2.2]; simp [hf]
    · have ih := bitsN_bit f k i (by omega)
      unfold bitB at ih
      by_cases hf : 0 < f k
      · rw [if_pos hf, bit_lo (by omega), ih]
      · rw [if_neg hf, ih]
theorem bit_ext {a b : Int} (ha : 0 ≤ a ∧ a < 256) (hb : 0 ≤ b ∧ b < 256) (h : ∀ j, j < 8 → bitB a j = bitB b j) : a = b := by
  have key : ∀ j, j < 8 → a / 2 ^ j % 2 = b / 2 ^ j % 2 := by
    intro j hj
    have h1 := h j hj
    unfold bitB at h1
    have ra : a / 2 ^ j % 2 = 0 ∨ a / 2 ^ j % 2 = 1 := by omega
    have rb : b / 2 ^ j % 2 = 0 ∨ b / 2 ^ j % 2 = 1 := by omega
    rcases ra with ra | ra <;> rcases rb with rb | rb <;> rw [ra, rb] at h1 ⊢ <;> first | exact absurd h1 (by decide) | rfl
  have h0 := key 0 (by decide)
  have h1 := key 1 (by decide)
  have h2 := key 2 (by decide)
  have h3 := key 3 (by decide)
  have h4 := key 4 (by decide)
  have h5 := key 5 (by decide)
  have h6 := key 6 (by decide)
  have h7 := key 7 (by decide)
  simp only [show (2 : Int) ^ 0 = 1 from by decide, show (2 : Int) ^ 1 = 2 from by decide, show (2 : Int) ^ 2 = 4 from by decide, show (2 : Int) ^ 3 = 8 from by decide, show (2 : Int) ^ 4 = 16 from by decide, show (2 : Int) ^ 5 = 32 from by decide, show (2 : Int) ^ 6 = 64 from by decide, show (2 : Int) ^ 7 = 128 from by decide] at h0 h1 h2 h3 h4 h5 h6 h7
  omega

/-- the i-th number's bytes -/
def xN (f : Nat → Int) (i : Nat) : List UInt8 := if 0 < f i then varD (f i) else []
theorem numsN_x (f : Nat → Int) (k : Nat) : numsN f (k + 1) = numsN f k ++ xN f k := by
  show (if 0 < f k then numsN f k ++ varD (f k) else numsN f k) = _
  unfold xN
  split <;> simp
def rK (f : Nat → Int) (rest : List UInt8) : Nat → List UInt8
  | 0 => rest
  | k+1 => xN f (7 - k) ++ rK f rest k
theorem nums_rK (f : Nat → Int) (rest : List UInt8) : ∀ i, i ≤ 8 → numsN f i ++ rK f rest (8 - i) = rK f rest 8
  | 0, _ => by simp [numsN]
  | i+1, h => by
    have ih := nums_rK f rest i (by omega)
    rw [← ih, numsN_x, show 8 - i = (8 - (i + 1)) + 1 from by omega, rK, show 7 - (8 - (i + 1)) = i from by omega, List.append_assoc]
theorem tkN_back (f : Nat → Int) (hf : ∀ j, j < 8 → 0 ≤ f j ∧ f j ≤ 4294967295) (rest : List UInt8) : ∀ i, i ≤ 8 → tkN (bitsN f 8) ⟨rK f rest 8, 0⟩ i = (⟨rK f rest (8 - i), 0⟩, fun j => if j < i then f j else 0, true)
  | 0, _ => by
    show (_, _, _) = (_, _, _)
    congr 2
  | i+1, h => by
    have ih := tkN_back f hf rest i (by omega)
    have hfi := hf i (by omega)
    rw [tkN, ih, bitsN_bit f 8 i (by omega)]
    simp only
    rw [show 8 - i = (8 - (i + 1)) + 1 from by omega, rK, show 7 - (8 - (i + 1)) = i from by omega]
    have hu : ∀ x, x = f i → upd (fun j => if j < i then f j else 0) i x = fun j => if j < i + 1 then f j else 0 := fun x hx => updJ (h := f) (f := fun _ => 0) hx
    by_cases hp : 0 < f i
    · rw [xN, if_pos hp, varR_back hfi.1 hfi.2]
      simp only [hp, decide_true, if_true, Bool.and_true]
      rw [hu _ rfl]
    · have h0 : f i = 0 := by omega
      rw [xN, if_neg hp]
      simp only [hp, decide_false, Bool.false_eq_true, if_false, List.nil_append]
      rw [← hu 0 h0.symm]
      congr 2
      funext j
      unfold upd
      by_cases e : j = i
      · subst e; simp
      · simp [e]
theorem mayVB_congr {f g : Nat → Int} (h : ∀ j, j < 8 → f j = g j) : mayVB f = mayVB g := by
  unfold mayVB
  congr 1
  rw [Bool.eq_iff_iff, anyJ_iff, anyJ_iff]
  constructor
  · rintro ⟨j, hj, hp⟩; exact ⟨j, hj, by rw [← h j hj]; exact hp⟩
  · rintro ⟨j, hj, hp⟩; exact ⟨j, hj, by rw [h j hj]; exact hp⟩
theorem byte_first {b : Int} (h0 : 0 ≤ b) (h1 : b < 256) (rest : List UInt8) : fixedR ⟨yI b :: rest, 0⟩ (1 : Nat) = ([yI b], ⟨rest, 0⟩) ∧ numF 0 [yI b] = b := by
  refine ⟨fixedR_all (l := [yI b]) rfl, ?_⟩
  simp only [numF, List.foldl_cons, List.foldl_nil]
  rw [yI_of h0 h1]
  omega
theorem take_back (f : Nat → Int) (hf : ∀ j, j < 8 → 0 ≤ f j ∧ f j ≤ 4294967295) (rest : List UInt8) : takeS ⟨(yI (bitsN f 8) :: numsN f 8) ++ rest, 0⟩ = (⟨rest, 0⟩, fun j => if j < 8 then f j else 0, true) := by
  have hb := bitsN_lt f 8
  have hn := nums_rK f rest 8 (Nat.le_refl _)
  obtain ⟨h1, h2⟩ := byte_first hb.1 hb.2 (numsN f 8 ++ rest)
  unfold takeS
  rw [List.cons_append, h1]
  simp only
  rw [h2, show numsN f 8 ++ rest = rK f rest 8 from hn, tkN_back f hf rest 8 (Nat.le_refl _)]
  rfl
theorem takeDot_back (r n : Int) (hr : 0 ≤ r ∧ r ≤ 255) (hn : 0 ≤ n ∧ n ≤ 4294967295) (rest : List UInt8) : tkD ⟨dotT r n ++ rest, 0⟩ = (⟨rest, 0⟩, r, n) := by
  obtain ⟨h1, h2⟩ := byte_first hr.1 (show r < 256 by omega) (varD n ++ rest)
  unfold tkD dotT
  rw [show be r 1 ++ varD n ++ rest = yI r :: (varD n ++ rest) from by simp [be], h1]
  simp only
  rw [h2, varR_back hn.1 hn.2]

theorem varR_e {s : RS} (h : s.e ≠ 0) : varR s = (0, s) := varRF_e h
theorem tkN_bound (b : Int) (s : RS) : ∀ i j, 0 ≤ (tkN b s i).2.1 j ∧ (tkN b s i).2.1 j ≤ 4294967295
  | 0, j => by show 0 ≤ (0 : Int) ∧ (0 : Int) ≤ _; decide
  | i+1, j => by
    have ih := tkN_bound b s i j
    rw [tkN]
    split
    · simp only [upd]
      split
      · exact varR_bound _
      · exact ih
    · exact ih
theorem takeT_bound (s : RS) : ∀ j, j < 8 → 0 ≤ (takeT (takeS s)).1 j ∧ (takeT (takeS s)).1 j ≤ 4294967295 := by
  intro j _
  unfold takeT
  split
  · show 0 ≤ (0 : Int) ∧ (0 : Int) ≤ _; decide
  · split
    · exact tkN_bound _ _ _ _
    · show 0 ≤ (0 : Int) ∧ (0 : Int) ≤ _; decide
theorem numsN_congr {f g : Nat → Int} : ∀ {k : Nat}, (∀ j, j < k → f j = g j) → numsN f k = numsN g k
  | 0, _ => rfl
  | k+1, h => by
    rw [numsN_x, numsN_x, numsN_congr (fun j hj => h j (by omega))]
    unfold xN
    rw [h k (by omega)]
theorem tkN_one (b : Int) (T : List UInt8) : ∀ i, (tkN b ⟨T, 0⟩ i).1.e = 0 → (tkN b ⟨T, 0⟩ i).2.2 = true → T = numsN (tkN b ⟨T, 0⟩ i).2.1 i ++ (tkN b ⟨T, 0⟩ i).1.rest ∧ (∀ j, i ≤ j → (tkN b ⟨T, 0⟩ i).2.1 j = 0) ∧ ∀ j, j < i → bitB b j = decide (0 < (tkN b ⟨T, 0⟩ i).2.1 j)
  | 0, _, _ => ⟨rfl, fun _ _ => rfl, fun j hj => by omega⟩
  | i+1, he, hw => by
    have ih := tkN_one b T i
    rw [tkN] at he hw ⊢
    generalize tkN b ⟨T, 0⟩ i = t at *
    obtain ⟨s, v, wh⟩ := t
    simp only at ih he hw ⊢
    by_cases hb : bitB b i = true
    · rw [if_pos hb] at he hw ⊢
      simp only [Bool.and_eq_true, decide_eq_true_eq] at he hw ⊢
      have hse : s.e = 0 := by
        rcases Int.decEq s.e 0 with h | h
        · rw [varR_e h] at he; exact absurd he h
        · exact h
      obtain ⟨h1, h2, h3⟩ := ih hse hw.1
      obtain ⟨rest, e⟩ := s
      simp only at hse
      subst hse
      have ho := varR_one he
      refine ⟨?_, ?_, ?_⟩
      · rw [numsN_x, numsN_congr (g := v) (fun j hj => by unfold upd; rw [if_neg (by omega)]), List.append_assoc]
        have e2 : xN (upd v i (varR ⟨rest, 0⟩).1) i = varD (varR ⟨rest, 0⟩).1 := by
          unfold xN upd
          rw [if_pos rfl, if_pos hw.2]
        rw [e2, ho]
        exact h1
      · intro j hj
        unfold upd
        rw [if_neg (by omega)]
        exact h2 j (by omega)
      · intro j hj
        by_cases e : j = i
        · subst e
          have hu : upd v j (varR ⟨rest, 0⟩).1 j = (varR ⟨rest, 0⟩).1 := by simp [upd]
          show bitB b j = decide (0 < upd v j (varR ⟨rest, 0⟩).1 j)
          rw [hu, hb]
          simp [hw.2]
        · have hu : upd v i (varR ⟨rest, 0⟩).1 j = v j := by simp [upd, e]
          show bitB b j = decide (0 < upd v i (varR ⟨rest, 0⟩).1 j)
          rw [hu]
          exact h3 j (by omega)
    · rw [if_neg hb] at he hw ⊢
      obtain ⟨h1, h2, h3⟩ := ih he hw
      refine ⟨?_, fun j hj => h2 j (by omega), ?_⟩
      · rw [numsN_x]
        have e2 : xN v i = [] := by unfold xN; rw [h2 i (Nat.le_refl _)]; rfl
        rw [e2, List.append_nil]
        exact h1
      · intro j hj
        by_cases e : j = i
        · subst e
          show bitB b j = decide (0 < v j)
          rw [h2 j (Nat.le_refl _)]
          simpa using hb
        · exact h3 j (by omega)
theorem take_one (S : List UInt8) (h : (takeT (takeS ⟨S, 0⟩)).2 = 0) : putE (takeT (takeS ⟨S, 0⟩)).1 = 0 ∧ putS (takeT (takeS ⟨S, 0⟩)).1 ++ strY (takeS ⟨S, 0⟩).1.rest = strY S := by
  unfold takeT at h ⊢
  by_cases he : (takeS ⟨S, 0⟩).1.e ≠ 0
  · rw [if_pos he] at h; exact absurd h he
  rw [if_neg he] at h ⊢
  have he' : (takeS ⟨S, 0⟩).1.e = 0 := by omega
  have hm : ((takeS ⟨S, 0⟩).2.2 && mayVB (takeS ⟨S, 0⟩).2.1) = true := by
    by_cases hm : ((takeS ⟨S, 0⟩).2.2 && mayVB (takeS ⟨S, 0⟩).2.1) = true
    · exact hm
    · rw [if_neg hm] at h; exact absurd h (show (4 : Int) ≠ 0 by decide)
  rw [if_pos hm]
  simp only
  simp only [Bool.and_eq_true] at hm
  refine ⟨by rw [putE, if_pos hm.2], ?_⟩
  rw [putS, if_pos hm.2, strY_append]
  congr 1
  cases S with
  | nil =>
    exfalso
    have e1 : fixedR ⟨[], 0⟩ (1 : Nat) = ([], ⟨[], 10⟩) := fixedR_torn (by simp)
    have hst : ∀ i, (tkN (numF 0 []) ⟨[], 10⟩ i).1.e = 10 := by
      intro i
      induction i with
      | zero => rfl
      | succ i ih =>
        rw [tkN]
        split
        · rw [varR_e (by rw [ih]; decide)]; exact ih
        · exact ih
    unfold takeS at he'
    rw [e1, hst 8] at he'
    exact absurd he' (by decide)
  | cons c T =>
    have hc := c.toNat_lt
    have e1 : fixedR ⟨c :: T, 0⟩ (1 : Nat) = ([c], ⟨T, 0⟩) := fixedR_all (l := [c]) rfl
    have e2 : numF 0 [c] = (c.toNat : Int) := by simp [numF]
    unfold takeS at he' hm ⊢
    rw [e1] at he' hm ⊢
    simp only [e2] at he' hm ⊢
    obtain ⟨h1, _, h3⟩ := tkN_one (c.toNat : Int) T 8 he' hm.1
    have hb := bitsN_lt (tkN (c.toNat : Int) ⟨T, 0⟩ 8).2.1 8
    have hbits : bitsN (tkN (c.toNat : Int) ⟨T, 0⟩ 8).2.1 8 = (c.toNat : Int) := bit_ext ⟨hb.1, hb.2⟩ ⟨by omega, by omega⟩ fun j hj => by rw [bitsN_bit _ 8 j hj, h3 j hj]
    rw [hbits, show yI (c.toNat : Int) = c from u8_ext (yI_of (by omega) (by omega)), List.cons_append]
    congr 1
    exact h1.symm
end Go.RV
