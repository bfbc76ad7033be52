/- The plain law of PathBack: what Text writes is read again, and the other way about. Conditions: none. -/
import Derived.Test.YtdlmjbnggahpjaaDoorPb4
set_option maxRecDepth 20000
set_option linter.unusedVariables false
set_option linter.unusedSimpArgs false
namespace Go.RV
open Go Go.Proofs Go.RowKit

theorem bads_not {x : List UInt8} (h : bads x = false) (c : UInt8) (hc : badC c.toNat = true) : c ∉ x := fun hm => by
  unfold bads at h
  rw [List.any_eq_false] at h
  exact h c hm hc
theorem name_slash {x : List UInt8} (h : nameB x = true) : (47 : UInt8) ∉ x := bads_not (name_len h).2.2 47 (by decide)
theorem name_tilde {x : List UInt8} (h : nameB x = true) : (126 : UInt8) ∉ x := bads_not (name_len h).2.2 126 (by decide)
theorem cut_none {c : UInt8} : ∀ {l : List UInt8}, c ∉ l → cutP c l = (l, [], false)
  | [], _ => rfl
  | b :: r, h => by
    rw [List.mem_cons, not_or] at h
    rw [cutP, if_neg (fun e => h.1 e.symm), cut_none h.2]
theorem cut_at {c : UInt8} : ∀ {l r : List UInt8}, c ∉ l → cutP c (l ++ c :: r) = (l, r, true)
  | [], r, _ => by simp [cutP]
  | b :: l, r, h => by
    rw [List.mem_cons, not_or] at h
    rw [List.cons_append, cutP, if_neg (fun e => h.1 e.symm), cut_at h.2]
theorem parts_none {l : List UInt8} (h : (47 : UInt8) ∉ l) : partsP l = [l] := by
  rw [parts_cut, cut_none h]
  rfl
theorem parts_at {l r : List UInt8} (h : (47 : UInt8) ∉ l) : partsP (l ++ 47 :: r) = l :: partsP r := by
  rw [parts_cut, cut_at h]
  rfl
theorem parts_join : ∀ l : Nm, l ≠ [] → (∀ x ∈ l, (47 : UInt8) ∉ x) → partsP (Lib.join l [47]) = l
  | [], h, _ => absurd rfl h
  | [x], _, h => by
    have := h x (by simp)
    simp [Lib.join, parts_none this]
  | x :: y :: t, _, h => by
    have h1 := h x (by simp)
    have h2 := parts_join (y :: t) (by simp) (fun z hz => h z (by simp [List.mem_cons.1 hz]))
    rw [show Lib.join (x :: y :: t) [47] = x ++ 47 :: Lib.join (y :: t) [47] by simp [Lib.join, List.intercalate_cons_cons], parts_at h1, h2]
theorem join_parts : ∀ q : List UInt8, Lib.join (partsP q) [47] = q
  | [] => by simp [partsP, Lib.join]
  | c :: r => by
    have ih := join_parts r
    have hne := parts_ne r
    rw [partsP]
    cases hp : partsP r with
    | nil => exact absurd hp hne
    | cons x xs =>
      rw [hp] at ih
      by_cases h : c = 47
      · rw [if_pos h]
        subst h
        simp only [Lib.join, List.intercalate_cons_cons] at ih ⊢
        rw [ih]
        rfl
      · rw [if_neg h]
        cases xs with
        | nil => simp [Lib.join] at ih ⊢; exact ih
        | cons y ys =>
          simp only [Lib.join, List.intercalate_cons_cons] at ih ⊢
          rw [← ih]
          rfl
theorem badName_mem {l : Nm} (h : badName l = false) {x : List UInt8} (hx : x ∈ l) : nameB x = true := by
  unfold badName at h
  rw [List.any_eq_false] at h
  simpa using h x hx
theorem checkE_name {x : List UInt8} (h : nameB x = true) : checkE x = 0 := by unfold nameB at h; simpa using h
theorem goR_ok (lst : Lst) : ∀ (l acc : Nm), (∀ x ∈ l, nameB x = true) → (∀ x ∈ l, lst x = (x, 0)) → acc.length + l.length ≤ 4 → goR lst acc l = (acc ++ l, 0, l.getLast?)
  | [], acc, _, _, _ => by simp [goR]
  | x :: t, acc, h1, h2, h3 => by
    have e1 : (if t.isEmpty then lst x else (x, 0)) = (x, 0) := by
      split
      · exact h2 x (by simp)
      · rfl
    rw [List.length_cons] at h3
    rw [goR, e1]
    simp only [checkE_name (h1 x (by simp)), ne_eq, not_true_eq_false, if_false]
    rw [if_neg (by omega)]
    cases t with
    | nil => simp
    | cons y t =>
      have := goR_ok lst (y :: t) (acc ++ [x]) (fun z hz => h1 z (by simp [List.mem_cons.1 hz])) (fun z hz => h2 z (by simp [List.mem_cons.1 hz])) (by simp at h3 ⊢; omega)
      simp only [List.isEmpty_cons, Bool.false_eq_true, if_false]
      rw [this]
      simp
theorem goR_inv : ∀ (ps acc : Nm), (goR plainL acc ps).2.1 = 0 → (goR plainL acc ps).1 = acc ++ ps ∧ (∀ x ∈ ps, nameB x = true) ∧ (acc.length ≤ 4 → acc.length + ps.length ≤ 4)
  | [], acc, _ => by simp [goR]
  | x :: t, acc, h => by
    have e1 : (if t.isEmpty then plainL x else (x, 0)) = (x, 0) := by split <;> rfl
    rw [goR, e1] at h ⊢
    simp only [ne_eq, not_true_eq_false, if_false] at h ⊢
    by_cases hc : checkE x = 0
    · have hn : nameB x = true := by unfold nameB; simp [hc]
      simp only [hc, not_true_eq_false, if_false] at h ⊢
      by_cases h4 : acc.length = 4
      · rw [if_pos h4] at h; simp at h
      · rw [if_neg h4] at h ⊢
        cases t with
        | nil => simp [hn]; omega
        | cons y t =>
          simp only [List.isEmpty_cons, Bool.false_eq_true, if_false] at h ⊢
          obtain ⟨i1, i2, i3⟩ := goR_inv (y :: t) (acc ++ [x]) h
          refine ⟨by rw [i1]; simp, fun z hz => ?_, fun hl => ?_⟩
          · rcases List.mem_cons.1 hz with rfl | hz
            · exact hn
            · exact i2 z hz
          · have := i3 (by simp; omega)
            simp at this ⊢
            omega
    · rw [if_pos hc] at h
      exact absurd h hc
theorem goR_bad (lst : Lst) : ∀ (ps acc : Nm), (goR lst acc ps).2.1 ≠ 0 → (goR lst acc ps).1 = []
  | [], acc, h => absurd rfl h
  | x :: t, acc, h => by
    rw [goR] at h ⊢
    generalize (if t.isEmpty then lst x else (x, 0)) = a at h ⊢
    split
    · rfl
    · rename_i h1
      rw [if_neg h1] at h
      split
      · rfl
      · rename_i h2
        rw [if_neg h2] at h
        split
        · rfl
        · rename_i h3
          rw [if_neg h3] at h
          split
          · rename_i h4
            rw [if_pos h4] at h
            exact absurd rfl h
          · rename_i h4
            rw [if_neg h4] at h
            exact goR_bad lst t _ h
theorem readT_bad (most : Nat) (lst : Lst) (p : List UInt8) (h : (readT most lst p).2.1 ≠ 0) : (readT most lst p).1 = [] := by
  unfold readT at h ⊢
  split
  · rfl
  · rename_i h1
    rw [if_neg h1] at h
    cases p with
    | nil => rfl
    | cons c q =>
      simp only at h ⊢
      split
      · rfl
      · rename_i h2
        rw [if_neg h2] at h
        split
        · rfl
        · rename_i h3
          rw [if_neg h3] at h
          exact goR_bad _ _ _ h
theorem join_len2 (l : Nm) (h : badName l = false) (hne : l ≠ []) : (Lib.join l [47]).length + 1 ≤ 9 * l.length := by
  induction l with
  | nil => exact absurd rfl hne
  | cons x t ih =>
    rw [badName_cons, Bool.or_eq_false_iff] at h
    have h1 := name_len (x := x) (by simpa using h.1)
    cases t with
    | nil => simp [Lib.join]; omega
    | cons y t =>
      have h2 := ih h.2 (by simp)
      simp only [Lib.join, List.intercalate_cons_cons, List.length_append, List.length_cons] at h2 ⊢; simp; omega
theorem readT_text (most : Nat) (hm : 36 ≤ most) (lst : Lst) (l : Nm) (h : badName l = false) (h4 : l.length ≤ 4) (hl : ∀ x ∈ l, lst x = (x, 0)) : readT most lst (47 :: Lib.join l [47]) = (l, 0, l.getLast?) := by
  cases hl0 : l with
  | nil =>
    unfold readT
    rw [if_neg (by simp [Lib.join]; omega)]
    simp [Lib.join]
  | cons x t =>
    rw [← hl0]
    have hne : l ≠ [] := by rw [hl0]; simp
    have h1 := join_len2 l h hne
    unfold readT
    rw [if_neg (by simp; omega)]
    have hp := parts_join l hne (fun z hz => name_slash (badName_mem h hz))
    have hq : (Lib.join l [47]).isEmpty = false := by
      have hx := name_len (badName_mem h (x := x) (by rw [hl0]; simp))
      cases hj : Lib.join l [47] with
      | nil =>
        rw [hj] at hp
        simp [partsP] at hp
        rw [hl0] at hp
        simp at hp
        exact absurd hp.1 (fun e => hx.2.1 e)
      | cons a b => rfl
    simp only [ne_eq, not_true_eq_false, if_false, hq, Bool.false_eq_true]
    rw [hp, goR_ok lst l [] (fun z hz => badName_mem h hz) hl (by simpa using h4)]
    simp
theorem seenD_name {x : List UInt8} (h : nameB x = true) : seenL x = (x, 0) ∧ seenD x = ((0, 0), false) := by
  unfold seenL seenD
  rw [cut_none (name_tilde h)]
  exact ⟨rfl, rfl⟩
theorem back_names (l : Nm) (h : (textT l).2 = 0) : badName l = false ∧ l.length ≤ 4 ∧ (textT l).1 = 47 :: Lib.join l [47] ∧ (textT l).1.length ≤ 36 ∧ (parseT (textT l).1).1 = l ∧ (parseT (textT l).1).2.1 = 0 ∧ seenT (textT l).1 = (l, (0, 0), false, 0) := by
  unfold textT at h ⊢
  by_cases hb : badName l = true
  · rw [if_pos hb] at h; simp at h
  rw [if_neg hb] at h ⊢
  by_cases h4 : 4 < l.length
  · rw [if_pos h4] at h; simp at h
  rw [if_neg h4]
  have hb' : badName l = false := by simpa using hb
  have e1 := readT_text 36 (Nat.le_refl _) plainL l hb' (by omega) (fun x _ => rfl)
  have e2 := readT_text 44 (by decide) seenL l hb' (by omega) (fun x hx => (seenD_name (badName_mem hb' hx)).1)
  have hx : seenX l.getLast? = ((0, 0), false) := by
    cases hg : l.getLast? with
    | none => rfl
    | some x => exact (seenD_name (badName_mem hb' (List.mem_of_getLast? hg))).2
  refine ⟨hb', by omega, rfl, ?_, by unfold parseT; rw [e1], by unfold parseT; rw [e1], by unfold seenT; rw [e2]; simp [hx]⟩
  by_cases hne : l = []
  · subst hne; simp [Lib.join]
  · have := join_len2 l hb' hne
    simp
    omega
theorem back_text (p : List UInt8) (h : (parseT p).2.1 = 0) : textT (parseT p).1 = (p, 0) := by
  unfold parseT readT at h ⊢
  by_cases h1 : 36 < p.length
  · rw [if_pos h1] at h; simp at h
  rw [if_neg h1] at h ⊢
  cases p with
  | nil => simp at h
  | cons c q =>
    simp only at h ⊢
    by_cases hc : c = 47
    · subst hc
      simp only [ne_eq, not_true_eq_false, if_false] at h ⊢
      cases q with
      | nil => simp [textT, badName, Lib.join]
      | cons a q =>
        simp only [List.isEmpty_cons, Bool.false_eq_true, if_false] at h ⊢
        obtain ⟨i1, i2, i3⟩ := goR_inv _ _ h
        rw [i1, List.nil_append]
        have hb : badName (partsP (a :: q)) = false := by
          unfold badName
          rw [List.any_eq_false]
          intro x hx
          simp [i2 x hx]
        have := i3 (by simp)
        unfold textT
        rw [if_neg (by simp [hb]), if_neg (by simp at this; omega), join_parts]
    · simp [hc] at h
end Go.RV
