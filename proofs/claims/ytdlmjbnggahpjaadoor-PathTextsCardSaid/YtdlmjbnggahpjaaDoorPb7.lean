/- The plain law of PathApart: a conflict name is split again, and seen. Conditions: none. -/
import Derived.Test.YtdlmjbnggahpjaaDoorPb5
set_option maxRecDepth 20000
set_option linter.unusedVariables false
set_option linter.unusedSimpArgs false
namespace Go.RV
open Go Go.Proofs Go.RowKit

theorem dgN {k : Nat} (h : k < 10) : (UInt8.ofNat (48 + k)).toNat = 48 + k := by
  rw [UInt8.toNat_ofNat']
  omega
theorem dd_range : ∀ (k u : Nat), u ≤ k → ∀ c ∈ Lib.decDigits u, 48 ≤ c.toNat ∧ c.toNat ≤ 57 := by
  intro k
  induction k with
  | zero =>
    intro u hu c hc
    rw [Lib.decDigits, dif_pos (by omega), List.mem_singleton] at hc
    subst hc
    rw [dgN (by omega)]
    omega
  | succ k ih =>
    intro u hu c hc
    rw [Lib.decDigits] at hc
    split at hc
    · rw [List.mem_singleton] at hc
      subst hc
      rw [dgN (by omega)]
      omega
    · rcases List.mem_append.1 hc with hc | hc
      · exact ih (u / 10) (by omega) c hc
      · rw [List.mem_singleton] at hc
        subst hc
        rw [dgN (by omega)]
        omega
theorem dd_no {u : Nat} {c : UInt8} (h : c.toNat < 48 ∨ 57 < c.toNat) : c ∉ Lib.decDigits u := fun hc => by
  have := dd_range u u (Nat.le_refl _) c hc
  omega
theorem dd_ne (u : Nat) : Lib.decDigits u ≠ [] := by
  rw [Lib.decDigits]
  split <;> simp
theorem dd_parse (M : Nat) (hM : M ≤ 4294967295) : ∀ (k u : Nat), u ≤ k → u ≤ M → ∀ r, Lib.parseUintM M 0 (Lib.decDigits u ++ r) = Lib.parseUintM M u r := by
  intro k
  induction k with
  | zero =>
    intro u hu hm r
    obtain rfl : u = 0 := by omega
    rw [Lib.decDigits, dif_pos (by omega), List.singleton_append, Lib.parseUintM, dgN (by omega), if_pos (by omega), if_neg (by omega), if_neg (by omega)]
  | succ k ih =>
    intro u hu hm r
    rw [Lib.decDigits]
    split
    · rw [List.singleton_append, Lib.parseUintM, dgN (by omega), if_pos (by omega), if_neg (by omega), if_neg (by omega)]
      congr 1 <;> omega
    · rw [List.append_assoc, ih (u / 10) (by omega) (by omega), List.singleton_append, Lib.parseUintM, dgN (by omega), if_pos (by omega), if_neg (by omega), if_neg (by omega)]
      congr 1 <;> omega
theorem dd_num {most u : Nat} (h : u ≤ most) (hm : most ≤ 65535) : numV most (Lib.decDigits u) = some u := by
  unfold numV Lib.parseUintB
  rw [if_neg (dd_ne u)]
  have := dd_parse (2 ^ 32 - 1) (by decide) u u (Nat.le_refl _) (by omega) []
  rw [List.append_nil] at this
  rw [this, Lib.parseUintM]
  simp only
  rw [if_pos ⟨h, by first | rfl | trivial⟩]
theorem dd_five {u : Nat} (h : u < 100000) : (Lib.decDigits u).length ≤ 5 := by
  rw [Lib.decDigits]; split
  · simp
  rw [Lib.decDigits]; split
  · simp
  rw [Lib.decDigits]; split
  · simp
  rw [Lib.decDigits]; split
  · simp
  rw [Lib.decDigits, dif_pos (by omega)]
  simp
theorem itoaN {n : Int} (h : 0 ≤ n) : Lib.itoa n = Lib.decDigits n.toNat := by rw [Lib.itoa, if_neg (by omega)]
theorem conf_eq {a : List UInt8} {r n : Int} (h : (nameB a && rightB r n) = true) : confT a r n = a ++ 126 :: (Lib.itoa r ++ 46 :: Lib.itoa n) := by
  unfold confT
  rw [if_pos h]
  simp
theorem split_conf {a : List UInt8} {r n : Int} (h : (nameB a && rightB r n) = true) (hr : 0 ≤ r) : splitT (confT a r n) = (a, (r, n), true) := by
  rw [conf_eq h]
  rw [Bool.and_eq_true] at h
  obtain ⟨h1, h2⟩ := h
  have hb : r < 8 ∧ 1 ≤ n ∧ n ≤ 65535 := by simp [rightB] at h2; omega
  unfold splitT
  rw [cut_at (name_tilde h1)]
  simp only
  rw [itoaN hr, itoaN (show 0 ≤ n by omega), cut_at (dd_no (by decide))]
  simp only
  rw [dd_num (by omega) (by decide), dd_num (by omega) (by decide)]
  simp only
  rw [if_pos (by rw [h1]; simp; omega)]
  rw [Int.toNat_of_nonneg hr, Int.toNat_of_nonneg (by omega)]
theorem conf_name {a : List UInt8} {r n : Int} (h : (nameB a && rightB r n) = true) : nameB (confT a r n) = false := by
  cases hn : nameB (confT a r n) with
  | false => rfl
  | true =>
    have := name_tilde hn
    rw [conf_eq h] at this
    simp at this
theorem conf_len {a : List UInt8} {r n : Int} (h : (nameB a && rightB r n) = true) (hr : 0 ≤ r) : (confT a r n).length ≤ 20 := by
  rw [conf_eq h]
  rw [Bool.and_eq_true] at h
  obtain ⟨h1, h2⟩ := h
  have hb : r < 8 ∧ 1 ≤ n ∧ n ≤ 65535 := by simp [rightB] at h2; omega
  have l1 := (name_len h1).1
  have l2 := dd_five (u := r.toNat) (by omega)
  have l3 := dd_five (u := n.toNat) (by omega)
  rw [itoaN hr, itoaN (show 0 ≤ n by omega)]
  simp
  omega
theorem conf_slash {a : List UInt8} {r n : Int} (h : (nameB a && rightB r n) = true) (hr : 0 ≤ r) : (47 : UInt8) ∉ confT a r n := by
  rw [conf_eq h]
  rw [Bool.and_eq_true] at h
  obtain ⟨h1, h2⟩ := h
  have hb : r < 8 ∧ 1 ≤ n ∧ n ≤ 65535 := by simp [rightB] at h2; omega
  rw [itoaN hr, itoaN (show 0 ≤ n by omega)]
  have q1 := name_slash h1
  have q2 : (47 : UInt8) ∉ Lib.decDigits r.toNat := dd_no (by decide)
  have q3 : (47 : UInt8) ∉ Lib.decDigits n.toNat := dd_no (by decide)
  simp [q1, q2, q3]
theorem name_x : nameB [120] = true := by decide +kernel
theorem seen_conf {a : List UInt8} {r n : Int} (h : (nameB a && rightB r n) = true) (hr : 0 ≤ r) : seenT (47 :: 120 :: 47 :: confT a r n) = ([[120], a], (r, n), true, 0) := by
  have hs := split_conf h hr
  have hl := conf_len h hr
  have hp : partsP (120 :: 47 :: confT a r n) = [[120], confT a r n] := by
    have := parts_at (l := [120]) (r := confT a r n) (by decide)
    rw [parts_none (conf_slash h hr)] at this
    exact this
  have hc : cutP 126 (confT a r n) = (a, Lib.itoa r ++ 46 :: Lib.itoa n, true) := by
    rw [conf_eq h, cut_at (name_tilde (by rw [Bool.and_eq_true] at h; exact h.1))]
  have h1 : nameB a = true := by rw [Bool.and_eq_true] at h; exact h.1
  generalize confT a r n = s at *
  have hsl : seenL s = (a, 0) := by
    unfold seenL
    rw [hc, hs]
    rfl
  have hsd : seenD s = ((r, n), true) := by
    unfold seenD
    rw [hc, hs]
    rfl
  have hr : readT 44 seenL (47 :: 120 :: 47 :: s) = ([[120], a], 0, some s) := by
    unfold readT
    rw [if_neg (by simp; omega)]
    simp only
    rw [if_neg (by decide), if_neg (by simp), hp]
    rw [goR]
    simp only [List.isEmpty_cons, Bool.false_eq_true, if_false]
    rw [if_neg (by rw [checkE_name name_x]; simp), if_neg (by decide), if_neg (by decide), goR]
    simp only [List.isEmpty_nil, if_true, hsl]
    rw [if_neg (by rw [checkE_name h1]; simp), if_neg (by decide), if_neg (by decide)]
    rfl
  unfold seenT
  rw [hr]
  simp only
  rw [if_neg (by decide)]
  unfold seenX
  simp only
  rw [hsd]
theorem seenB_conf {a : List UInt8} {r n : Int} (h : (nameB a && rightB r n) = true) (hr : 0 ≤ r) : seenB (47 :: 120 :: 47 :: confT a r n) (120 :: 124 :: a) r n = true := by
  unfold seenB
  rw [seen_conf h hr]
  rw [Bool.and_eq_true] at h
  have hb : r < 8 ∧ 1 ≤ n ∧ n ≤ 65535 := by have := h.2; simp [rightB] at this; omega
  have hn : (n == 0) = false := by rw [beq_eq_false_iff_ne]; omega
  simp [Lib.join, List.intercalate_cons_cons, hn]
theorem conf_apart {a b : List UInt8} {r n r2 n2 : Int} (h : (nameB a && rightB r n) = true) (hr : 0 ≤ r) (h2 : (nameB b && rightB r2 n2) = true) (hr2 : 0 ≤ r2) : (decide (confT a r n = confT b r2 n2) == (decide (a = b) && ((r == r2) && ((n == n2) && true)))) = true := by
  by_cases e : confT a r n = confT b r2 n2
  · have h3 := split_conf h hr
    have h4 := split_conf h2 hr2
    rw [← e, h3] at h4
    simp only [Prod.mk.injEq] at h4
    obtain ⟨rfl, ⟨rfl, rfl⟩, _⟩ := h4
    simp
  · rw [decide_eq_false e]
    cases hq : (decide (a = b) && ((r == r2) && ((n == n2) && true))) with
    | false => rfl
    | true =>
      simp at hq
      obtain ⟨rfl, rfl, rfl⟩ := hq
      exact absurd rfl e
end Go.RV
