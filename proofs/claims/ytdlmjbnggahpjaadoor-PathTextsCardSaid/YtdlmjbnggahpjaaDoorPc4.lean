/- The plain law of Split: it is true at conflict names alone. Conditions: none. -/
import Derived.Test.YtdlmjbnggahpjaaDoorPc3
set_option maxRecDepth 20000
set_option linter.unusedVariables false
set_option linter.unusedSimpArgs false
namespace Go.RV
open Go Go.Proofs Go.RowKit

theorem cut_true {c : UInt8} : ∀ {l : List UInt8}, (cutP c l).2.2 = true → l = (cutP c l).1 ++ c :: (cutP c l).2.1
  | [], h => by cases h
  | b :: r, h => by
    unfold cutP at h ⊢
    by_cases hb : b = c
    · rw [if_pos hb]; simp [hb]
    · rw [if_neg hb] at h ⊢
      have := cut_true (l := r) h
      simp only [List.cons_append]
      rw [← this]
theorem numV_dd {most u : Nat} {l : List UInt8} (h : numV most l = some u) : u ≤ most ∧ Lib.decDigits u = l := by
  unfold numV at h
  split at h
  · split at h
    · rename_i hh
      cases h
      exact hh
    · cases h
  · cases h
theorem numV_nil (most : Nat) : numV most [] = none := rfl
theorem split_false {s : List UInt8} (h : (splitT s).2.2 = false) : splitT s = (s, (0, 0), false) := by
  unfold splitT at h ⊢
  simp only at h ⊢
  split
  · rename_i r n h1 h2
    rw [h1, h2] at h
    simp only at h
    split
    · rename_i h3
      rw [if_pos h3] at h
      cases h
    · rfl
  · rfl
theorem split_true {s : List UInt8} (h : (splitT s).2.2 = true) : ∃ (a : List UInt8) (r n : Nat), nameB a = true ∧ r < 8 ∧ 1 ≤ n ∧ n ≤ 65535 ∧ s = a ++ 126 :: (Lib.decDigits r ++ 46 :: Lib.decDigits n) := by
  unfold splitT at h
  simp only at h
  split at h
  · rename_i r n h1 h2
    split at h
    · rename_i h3
      have k1 := numV_dd h1
      have k2 := numV_dd h2
      have c2 : (cutP 46 (cutP 126 s).2.1).2.2 = true := by
        cases hb : (cutP 46 (cutP 126 s).2.1).2.2 with
        | true => rfl
        | false => rw [cut_no 46 _ hb, numV_nil] at h2; cases h2
      have c1 : (cutP 126 s).2.2 = true := by
        cases hb : (cutP 126 s).2.2 with
        | true => rfl
        | false => rw [cut_no 126 _ hb] at c2; cases c2
      have e1 := cut_true c1
      have e2 := cut_true c2
      rw [Bool.and_eq_true, decide_eq_true_eq] at h3
      refine ⟨(cutP 126 s).1, r, n, h3.1, by omega, h3.2, k2.1, ?_⟩
      rw [k1.2, k2.2, ← e2, ← e1]
    · cases h
  · cases h
def digD (a : Nat) (c : UInt8) : Nat := a * 10 + (c.toNat - 48)
def valD (acc : Nat) (l : List UInt8) : Nat := l.foldl digD acc
theorem valD_nil (acc : Nat) : valD acc [] = acc := by unfold valD; rw [List.foldl_nil]
theorem valD_cons (acc : Nat) (c : UInt8) (r : List UInt8) : valD acc (c :: r) = valD (acc * 10 + (c.toNat - 48)) r := by unfold valD; rw [List.foldl_cons, digD]
theorem valD_one (acc : Nat) (c : UInt8) : valD acc [c] = acc * 10 + (c.toNat - 48) := by rw [valD_cons, valD_nil]
theorem valD_app (l r : List UInt8) (acc : Nat) : valD acc (l ++ r) = valD (valD acc l) r := by unfold valD; rw [List.foldl_append]
theorem valD_dd : ∀ (k u : Nat), u ≤ k → valD 0 (Lib.decDigits u) = u := by
  intro k
  induction k with
  | zero =>
    intro u hu
    rw [Lib.decDigits, dif_pos (by omega), valD_one, dgN (by omega)]
    omega
  | succ k ih =>
    intro u hu
    rw [Lib.decDigits]
    split
    · rw [valD_one, dgN (by omega)]
      omega
    · rw [valD_app, ih (u / 10) (by omega), valD_one, dgN (by omega)]
      omega
/-- what the document asks of a text -/
theorem doc_true {s : List UInt8} (h : (splitT s).2.2 = true) : ∃ a D, partsC 126 s = [a, D] ∧ 3 ≤ D.length ∧ D.length ≤ 7 ∧ (∀ j (hj : j < D.length), 2 ≤ j → 48 ≤ D[j].toNat ∧ D[j].toNat ≤ 57) ∧
    ∃ (h0 : 0 < D.length) (r : Nat), D[0].toNat = 48 + r ∧ (nameB a && rightB (r : Int) (valD 0 (D.drop 2) : Nat)) = true ∧ confT a (r : Int) ((valD 0 (D.drop 2) : Nat) : Int) = s := by
  obtain ⟨a, r, n, h1, h2, h3, h4, rfl⟩ := split_true h
  have e1 : Lib.decDigits r = [UInt8.ofNat (48 + r)] := dd1 (by omega)
  have hr : (nameB a && rightB (r : Int) (n : Int)) = true := by
    rw [h1, Bool.true_and]
    unfold rightB
    rw [decide_eq_true (show (r : Int) < 8 by omega), decide_eq_true (show (1 : Int) ≤ (n : Int) by omega), decide_eq_true (show (n : Int) ≤ 65535 by omega)]
    rfl
  have hv : valD 0 (Lib.decDigits n) = n := valD_dd n n (Nat.le_refl _)
  have hno : (126 : UInt8) ∉ UInt8.ofNat (48 + r) :: 46 :: Lib.decDigits n := by
    have q2 : (126 : UInt8) ∉ Lib.decDigits r := dd_no (by decide)
    have q3 : (126 : UInt8) ∉ Lib.decDigits n := dd_no (by decide)
    rw [e1] at q2
    simp at q2
    simp [q2, q3]
  have hl := List.length_pos_iff.2 (dd_ne n)
  have hl5 := dd_five (u := n) (by omega)
  refine ⟨a, UInt8.ofNat (48 + r) :: 46 :: Lib.decDigits n, ?_, by simp; omega, by simp; omega, ?_, by simp, r, dgN (by omega), ?_, ?_⟩
  · rw [e1, List.singleton_append, partsC_at (name_tilde h1), partsC_none hno]
  · intro j hj h2
    obtain ⟨j, rfl⟩ : ∃ i, j = i + 2 := ⟨j - 2, by omega⟩
    exact dd_range n n (Nat.le_refl _) _ (List.getElem_mem _)
  · show (nameB a && rightB (r : Int) ((valD 0 (Lib.decDigits n) : Nat) : Int)) = true
    rw [hv]; exact hr
  · show confT a (r : Int) ((valD 0 (Lib.decDigits n) : Nat) : Int) = _
    rw [hv, conf_eq hr, itoaN (by omega), itoaN (by omega)]
    simp
end Go.RV
