/- Contracts of functions of chapter 7: chunks. Conditions: none. -/
import Derived.Test.YtedoalnjdanebaaV14
set_option maxRecDepth 20000
set_option linter.unusedVariables false
set_option linter.unusedSimpArgs false
namespace Go.RV
open Go Go.Proofs

def encT (l : List UInt8) : List Value := [.string (strY l)]
theorem encT_len (l : List UInt8) : (encT l).length = 1 := rfl
theorem elT : ElemOk Try.prog TB 28 9 1 16 := ⟨rfl, ⟨_, _, inf9, rfl, rfl, rfl, rfl⟩, by decide⟩
def chkF : Nat → List UInt8 → List (List UInt8)
  | 0, _ => []
  | f+1, s => if s = [] then [] else s.take 64 :: chkF f (s.drop 64)
theorem chkF_more : ∀ (f g : Nat) (s : List UInt8), s.length < f → s.length < g → chkF f s = chkF g s
  | 0, _, _, h, _ => by omega
  | _, 0, _, _, h => by omega
  | f+1, g+1, s, hf, hg => by
    rw [chkF, chkF]
    by_cases h : s = []
    · rw [if_pos h, if_pos h]
    · rw [if_neg h, if_neg h]
      have hl : 0 < s.length := by
        cases s with
        | nil => exact absurd rfl h
        | cons => simp
      rw [chkF_more f g (s.drop 64) (by rw [List.length_drop]; omega) (by rw [List.length_drop]; omega)]
/-- the chunks of a text -/
def chk (s : List UInt8) : List (List UInt8) := chkF (s.length + 1) s
theorem chk_nil : chk [] = [] := rfl
theorem chk_cons {s : List UInt8} (h : s ≠ []) : chk s = s.take 64 :: chk (s.drop 64) := by
  have hl : 0 < s.length := by
    cases s with
    | nil => exact absurd rfl h
    | cons => simp
  show chkF (s.length + 1) s = _
  rw [chkF, if_neg h]
  congr 1
  exact chkF_more _ _ _ (by rw [List.length_drop]; omega) (Nat.lt_succ_self _)
theorem chk_len (s : List UInt8) : (chk s).length ≤ s.length := by
  have : ∀ f s, (chkF f s).length ≤ s.length := by
    intro f
    induction f with
    | zero => intro s; simp [chkF]
    | succ f ih =>
      intro s
      rw [chkF]
      split
      · simp
      · rename_i h
        have := ih (s.drop 64)
        have hl : 0 < s.length := by
          cases s with
          | nil => exact absurd rfl h
          | cons => simp
        rw [List.length_drop] at this
        simp only [List.length_cons]
        omega
  exact this _ s

def countI (n : Int) : Int := if n ≤ 0 then 0 else (n - 1) / 64 + 1
theorem count_c (n : Int) (hn : n ≤ 9223372036854775807) (w : World) : Fc Try.prog 12 [.int .i64 n] w fun v w' => v = .int .i64 (countI n) ∧ St [] w w' [] := by
  refine fc_i TB_ok Try.func12 rfl (by kernel_rfl) ?_
  have hS := Sf.refl w
  repeat ((conv => whnf); first | (refine nw_f hS ?_; intro b w1 hS) | (refine as_i hS ?_) | (refine as_i (hS.subs (List.nil_sublist _) (by repeat (first | exact List.Sublist.refl _ | apply List.Sublist.cons_cons | apply List.Sublist.cons))) ?_) | (refine bar_f hS ?_) | (refine drawf TB_ok rfl (by kernel_rfl) (by kernel_rfl) hS (List.Sublist.refl _) (List.Sublist.refl _) ?_; intro w1 hS) | (refine br_t (by assumption) ?_) | (refine br_f (by assumption) ?_) | (apply q_i; focus (intro w1 hS; (conv => whnf); first | exact ⟨rfl, rfl⟩)))
  refine br_i (fun h => ?_) (fun h => ?_)
  · have h0 : n ≤ 0 := of_decide_eq_true h
    repeat ((conv => whnf); first | (refine nw_f hS ?_; intro b w1 hS) | (refine as_i hS ?_) | (refine as_i (hS.subs (List.nil_sublist _) (by repeat (first | exact List.Sublist.refl _ | apply List.Sublist.cons_cons | apply List.Sublist.cons))) ?_) | (refine bar_f hS ?_) | (refine drawf TB_ok rfl (by kernel_rfl) (by kernel_rfl) hS (List.Sublist.refl _) (List.Sublist.refl _) ?_; intro w1 hS) | (refine br_t (by assumption) ?_) | (refine br_f (by assumption) ?_) | (apply q_i; focus (intro w1 hS; (conv => whnf); first | exact ⟨rfl, rfl⟩)))
    exact ⟨by rw [countI, if_pos h0], hS.nil⟩
  · have h0 : ¬ n ≤ 0 := of_decide_eq_false h
    repeat ((conv => whnf); first | (refine nw_f hS ?_; intro b w1 hS) | (refine as_i hS ?_) | (refine as_i (hS.subs (List.nil_sublist _) (by repeat (first | exact List.Sublist.refl _ | apply List.Sublist.cons_cons | apply List.Sublist.cons))) ?_) | (refine bar_f hS ?_) | (refine .mk (by decide) ?_) | (refine drawf TB_ok rfl (by kernel_rfl) (by kernel_rfl) hS (List.Sublist.refl _) (List.Sublist.refl _) ?_; intro w1 hS) | (refine br_t (by assumption) ?_) | (refine br_f (by assumption) ?_) | (apply q_i; focus (intro w1 hS; (conv => whnf); first | exact ⟨rfl, rfl⟩ | ((refine .mk (by decide) ?_); (conv => whnf); exact ⟨rfl, rfl⟩))))
    refine ⟨?_, hS.nil⟩
    have e1 : IntKind.i64.wrap (n - 1) = n - 1 := wrap_i64 (by omega) (by omega)
    rw [e1, Int.tdiv_eq_ediv_of_nonneg (by omega), wrap_i64 (x := (n - 1) / 64) (by omega) (by omega), wrap_i64 (by omega) (by omega), countI, if_neg h0]
theorem rcount_c (n : Int) (hn0 : -9223372036854775808 ≤ n) (hn : n ≤ 9223372036854775807) (w : World) : Fc Try.prog 13 [.int .i64 n] w fun v w' => v = .int .i64 (countI n) ∧ St [] w w' [] := by
  refine fc_i TB_ok Try.func13 rfl (by kernel_rfl) ?_
  have hS := Sf.refl w
  repeat ((conv => whnf); first | (refine nw_f hS ?_; intro b w1 hS) | (refine as_i hS ?_) | (refine as_i (hS.subs (List.nil_sublist _) (by repeat (first | exact List.Sublist.refl _ | apply List.Sublist.cons_cons | apply List.Sublist.cons))) ?_) | (refine bar_f hS ?_) | (refine .mk (by decide) ?_) | (refine drawf TB_ok rfl (by kernel_rfl) (by kernel_rfl) hS (List.Sublist.refl _) (List.Sublist.refl _) ?_; intro w1 hS) | (refine br_t (by assumption) ?_) | (refine br_f (by assumption) ?_) | (apply q_i; focus (intro w1 hS; (conv => whnf); first | exact ⟨rfl, rfl⟩ | ((refine .mk (by decide) ?_); (conv => whnf); exact ⟨rfl, rfl⟩))))
  refine br_i (fun h => ?_) (fun h => ?_)
  · have h0 : n < 0 := of_decide_eq_true h
    repeat ((conv => whnf); first | (refine nw_f hS ?_; intro b w1 hS) | (refine as_i hS ?_) | (refine as_i (hS.subs (List.nil_sublist _) (by repeat (first | exact List.Sublist.refl _ | apply List.Sublist.cons_cons | apply List.Sublist.cons))) ?_) | (refine bar_f hS ?_) | (refine drawf TB_ok rfl (by kernel_rfl) (by kernel_rfl) hS (List.Sublist.refl _) (List.Sublist.refl _) ?_; intro w1 hS) | (refine br_t (by assumption) ?_) | (refine br_f (by assumption) ?_) | (apply q_i; focus (intro w1 hS; (conv => whnf); first | exact ⟨rfl, rfl⟩)))
    exact ⟨by rw [countI, if_pos (by omega)], hS.nil⟩
  · have h0 : ¬ n < 0 := of_decide_eq_false h
    have e1 : IntKind.i64.wrap (n.tdiv 64) = n / 64 := by rw [Int.tdiv_eq_ediv_of_nonneg (by omega), wrap_i64 (by omega) (by omega)]
    have e2 : IntKind.i64.wrap (IntKind.i64.wrap (n.tdiv 64) * 64) = n / 64 * 64 := by rw [e1, wrap_i64 (by omega) (by omega)]
    repeat ((conv => whnf); first | (refine nw_f hS ?_; intro b w1 hS) | (refine as_i hS ?_) | (refine as_i (hS.subs (List.nil_sublist _) (by repeat (first | exact List.Sublist.refl _ | apply List.Sublist.cons_cons | apply List.Sublist.cons))) ?_) | (refine bar_f hS ?_) | (refine drawf TB_ok rfl (by kernel_rfl) (by kernel_rfl) hS (List.Sublist.refl _) (List.Sublist.refl _) ?_; intro w1 hS) | (refine br_t (by assumption) ?_) | (refine br_f (by assumption) ?_) | (apply q_i; focus (intro w1 hS; (conv => whnf); first | exact ⟨rfl, rfl⟩)))
    refine br_i (fun h1 => ?_) (fun h1 => ?_)
    · have h1' := of_decide_eq_true h1
      rw [e2] at h1'
      repeat ((conv => whnf); first | (refine nw_f hS ?_; intro b w1 hS) | (refine as_i hS ?_) | (refine as_i (hS.subs (List.nil_sublist _) (by repeat (first | exact List.Sublist.refl _ | apply List.Sublist.cons_cons | apply List.Sublist.cons))) ?_) | (refine bar_f hS ?_) | (refine drawf TB_ok rfl (by kernel_rfl) (by kernel_rfl) hS (List.Sublist.refl _) (List.Sublist.refl _) ?_; intro w1 hS) | (refine br_t (by assumption) ?_) | (refine br_f (by assumption) ?_) | (apply q_i; focus (intro w1 hS; (conv => whnf); first | exact ⟨rfl, rfl⟩)))
      refine ⟨?_, hS.nil⟩
      rw [e1, wrap_i64 (by omega) (by omega), countI]
      split
      · omega
      · congr 1
        omega
    · have h1' := of_decide_eq_false h1
      rw [e2] at h1'
      repeat ((conv => whnf); first | (refine nw_f hS ?_; intro b w1 hS) | (refine as_i hS ?_) | (refine as_i (hS.subs (List.nil_sublist _) (by repeat (first | exact List.Sublist.refl _ | apply List.Sublist.cons_cons | apply List.Sublist.cons))) ?_) | (refine bar_f hS ?_) | (refine drawf TB_ok rfl (by kernel_rfl) (by kernel_rfl) hS (List.Sublist.refl _) (List.Sublist.refl _) ?_; intro w1 hS) | (refine br_t (by assumption) ?_) | (refine br_f (by assumption) ?_) | (apply q_i; focus (intro w1 hS; (conv => whnf); first | exact ⟨rfl, rfl⟩)))
      refine ⟨?_, hS.nil⟩
      rw [e1, countI]
      split
      · congr 1; omega
      · congr 1
        omega

theorem split_c (s : List UInt8) (hs : s.length ≤ 1073741824) (w : World) : Fc Try.prog 10 [.string (strY s)] w fun v w' => ∃ Lv, Sl 9 1 v (chk s).length (flat encT (chk s)) Lv ∧ St [] w w' Lv := by
  refine fc_i TB_ok Try.func10 rfl (by kernel_rfl) ?_
  have hS : Sf [] w w ([] ++ []) [] := Sf.refl w
  repeat ((conv => whnf); first | (refine nw_f hS ?_; intro b w1 hS) | (refine as_i hS ?_) | (refine as_i (hS.subs (List.nil_sublist _) (by repeat (first | exact List.Sublist.refl _ | apply List.Sublist.cons_cons | apply List.Sublist.cons))) ?_) | (refine bar_f hS ?_) | (refine drawf TB_ok rfl (by kernel_rfl) (by kernel_rfl) hS (List.Sublist.refl _) (List.Sublist.refl _) ?_; intro w1 hS) | (refine br_t (by assumption) ?_) | (refine br_f (by assumption) ?_) | (apply q_i; focus (intro w1 hS; (conv => whnf); first | exact ⟨rfl, rfl⟩)))
  refine loop_i TB_ok (fun t : Value × List (List UInt8) × List UInt8 => [(3, t.1), (0, .string (strY t.2.2))]) (fun t w' => t.2.1 ++ chk t.2.2 = chk s ∧ t.2.2.length ≤ s.length ∧ ∃ Lv, Sl 9 1 t.1 t.2.1.length (flat encT t.2.1) Lv ∧ Sf [] w w' (Lv ++ []) []) (fun t => t.2.2.length) (.slice none 0 0, [], s) rfl ⟨rfl, Nat.le_refl _, [], .nil, hS⟩ ?_
  rintro ⟨v, dn, rest⟩ us w2 ⟨hd, hl, Lv, hv, hS⟩
  simp only at hd hl hv
  have hsz := strY_size rest
  have hcl := chk_len s
  have hdl : dn.length ≤ s.length := by
    have := congrArg List.length hd
    rw [List.length_append] at this
    omega
  obtain ⟨Av, cv, rfl, hv⟩ := hv.open
  have hsz' : (strY ((Value.slice Av dn.length cv, dn, rest) : Value × List (List UInt8) × List UInt8).2.2).size = rest.length := hsz
  (conv => whnf)
  refine br_i (fun h0 => ?_) (fun h0 => ?_)
  · have hr : rest = [] := by
      apply List.eq_nil_of_length_eq_zero
      have h1 : ((strY rest).size : Int) = 0 := by simpa using h0
      omega
    subst hr
    rw [chk_nil, List.append_nil] at hd
    subst hd
    repeat ((conv => whnf); first | (refine nw_f hS ?_; intro b w1 hS) | (refine as_i hS ?_) | (refine as_i (hS.subs (List.nil_sublist _) (by repeat (first | exact List.Sublist.refl _ | apply List.Sublist.cons_cons | apply List.Sublist.cons))) ?_) | (refine bar_f hS ?_) | (refine drawf TB_ok rfl (by kernel_rfl) (by kernel_rfl) hS (List.Sublist.refl _) (List.Sublist.refl _) ?_; intro w1 hS) | (refine br_t (by assumption) ?_) | (refine br_f (by assumption) ?_) | (apply q_i; focus (intro w1 hS; (conv => whnf); first | exact ⟨rfl, rfl⟩)))
    exact ⟨Lv, hv, by simpa using hS.st⟩
  have hr : rest ≠ [] := by
    rintro rfl
    have h1 : ¬ ((strY []).size : Int) = 0 := by simpa using h0
    exact h1 rfl
  have hrl : 0 < rest.length := by
    cases rest with
    | nil => exact absurd rfl hr
    | cons => simp
  have hck := chk_cons hr
  (conv => whnf)
  refine br_i (fun h1 => ?_) (fun h1 => ?_)
  · have h64 : rest.length ≤ 64 := by have := of_decide_eq_true h1; omega
    rw [List.take_of_length_le h64, List.drop_eq_nil_of_le h64, chk_nil] at hck
    rw [hck] at hd
    repeat ((conv => whnf); first | (refine nw_f hS ?_; intro b w1 hS))
    refine app_f TB_ok elT hS hv (hS.rd 0 rfl : Rd _ _ (flat encT [rest])) rfl (fun y hy => ?_) (by omega) (by omega) ?_
    · simp [flat, encT] at hy
      subst hy
      rfl
    intro v' Lv' w6 hv' hS
    repeat ((conv => whnf); first | (refine nw_f hS ?_; intro b w1 hS) | (refine as_i hS ?_) | (refine as_i (hS.subs (List.nil_sublist _) (by repeat (first | exact List.Sublist.refl _ | apply List.Sublist.cons_cons | apply List.Sublist.cons))) ?_) | (refine bar_f hS ?_) | (refine drawf TB_ok rfl (by kernel_rfl) (by kernel_rfl) hS (List.Sublist.refl _) (List.Sublist.refl _) ?_; intro w1 hS) | (refine br_t (by assumption) ?_) | (refine br_f (by assumption) ?_) | (apply q_i; focus (intro w1 hS; (conv => whnf); first | exact ⟨rfl, rfl⟩)))
    refine ⟨Lv', ?_, by simpa using hS.fr (List.Sublist.refl _)⟩
    rw [← hd, List.length_append, flat_append]
    exact hv'
  · have h64 : 64 < rest.length := by have := of_decide_eq_false h1; omega
    have etk : (strY rest).extract 0 64 = strY (rest.take 64) := by rw [strY_extract]; simp
    have edr : (strY rest).extract 64 (strY rest).size = strY (rest.drop 64) := by rw [strY_extract, hsz, List.take_length]
    repeat ((conv => whnf); first | (refine nw_f hS ?_; intro b w1 hS) | (refine as_i hS ?_) | (refine as_i (hS.subs (List.nil_sublist _) (by repeat (first | exact List.Sublist.refl _ | apply List.Sublist.cons_cons | apply List.Sublist.cons))) ?_) | (refine bar_f hS ?_) | (refine br_t (by assumption) ?_) | (refine br_f (by assumption) ?_) | (apply q_i; focus (intro w1 hS; (conv => whnf); first | exact ⟨rfl, rfl⟩)))
    refine drawf (Ls := []) TB_ok rfl (by kernel_rfl) (by kernel_rfl) hS (List.nil_sublist _) (List.nil_sublist _) ?_; intro w1 hS
    repeat ((conv => whnf); first | (refine nw_f hS ?_; intro b w1 hS) | (refine as_i hS ?_) | (refine as_i (hS.subs (List.nil_sublist _) (by repeat (first | exact List.Sublist.refl _ | apply List.Sublist.cons_cons | apply List.Sublist.cons))) ?_) | (refine bar_f hS ?_) | (refine .mk ⟨by omega, by omega⟩ ?_) | (refine drawf TB_ok rfl (by kernel_rfl) (by kernel_rfl) hS (List.Sublist.refl _) (List.Sublist.refl _) ?_; intro w1 hS) | (refine br_t (by assumption) ?_) | (refine br_f (by assumption) ?_) | (apply q_i; focus (intro w1 hS; (conv => whnf); first | exact ⟨rfl, rfl⟩ | ((refine .mk ⟨by omega, by omega⟩ ?_); (conv => whnf); exact ⟨rfl, rfl⟩))))
    have hRd : Rd _ _ [Value.string ((strY rest).extract 0 64)] := hS.rd 0 rfl
    rw [etk] at hRd
    refine app_f TB_ok elT (hS : Sf [] w _ (Lv ++ []) _) hv (show Rd _ _ (flat encT [rest.take 64]) from hRd) rfl (fun y hy => ?_) (by omega) (by omega) ?_
    · simp [flat, encT] at hy
      subst hy
      rfl
    intro v' Lv' w6 hv' hS
    repeat ((conv => whnf); first | (refine nw_f hS ?_; intro b w1 hS) | (refine as_i hS ?_) | (refine as_i (hS.subs (List.nil_sublist _) (by repeat (first | exact List.Sublist.refl _ | apply List.Sublist.cons_cons | apply List.Sublist.cons))) ?_) | (refine bar_f hS ?_) | (refine as_i (hS.subs (List.nil_sublist _) (List.nil_sublist _)) ?_) | (refine drawf TB_ok rfl (by kernel_rfl) (by kernel_rfl) hS (List.Sublist.refl _) (List.Sublist.refl _) ?_; intro w1 hS) | (refine br_t (by assumption) ?_) | (refine br_f (by assumption) ?_) | (apply q_i; focus (intro w1 hS; (conv => whnf); first | exact ⟨rfl, rfl⟩ | ((refine as_i (hS.subs (List.nil_sublist _) (List.nil_sublist _)) ?_); (conv => whnf); exact ⟨rfl, rfl⟩))))
    refine ⟨rfl, (v', dn ++ [rest.take 64], rest.drop 64), ?_, ⟨?_, by simp only [List.length_drop]; omega, Lv', ?_, hS.subs (List.Sublist.refl _) (List.nil_sublist _)⟩, by simp only [List.length_drop]; omega⟩
    · rw [← edr]
      rfl
    · rw [← hd, hck, List.append_assoc]
      rfl
    · rw [List.length_append, flat_append]
      exact hv'

theorem rsplit_c (s : List UInt8) (hs : s.length ≤ 1073741824) (w : World) : Fc Try.prog 11 [.string (strY s)] w fun v w' => ∃ Lv, Sl 9 1 v (chk s).length (flat encT (chk s)) Lv ∧ St [] w w' Lv := by
  refine fc_i TB_ok Try.func11 rfl (by kernel_rfl) ?_
  have hS : Sf [] w w ([] ++ []) [] := Sf.refl w
  have hsz := strY_size s
  repeat ((conv => whnf); first | (refine nw_f hS ?_; intro b w1 hS) | (refine as_i hS ?_) | (refine as_i (hS.subs (List.nil_sublist _) (by repeat (first | exact List.Sublist.refl _ | apply List.Sublist.cons_cons | apply List.Sublist.cons))) ?_) | (refine bar_f hS ?_) | (refine drawf TB_ok rfl (by kernel_rfl) (by kernel_rfl) hS (List.Sublist.refl _) (List.Sublist.refl _) ?_; intro w1 hS) | (refine br_t (by assumption) ?_) | (refine br_f (by assumption) ?_) | (apply q_i; focus (intro w1 hS; (conv => whnf); first | exact ⟨rfl, rfl⟩)))
  refine loop_i TB_ok (fun t : Value × List (List UInt8) × Nat => [(3, t.1), (4, .int .i64 (t.2.2 : Int))]) (fun t w' => t.2.1 ++ chk (s.drop t.2.2) = chk s ∧ t.2.2 ≤ s.length + 64 ∧ ∃ Lv, Sl 9 1 t.1 t.2.1.length (flat encT t.2.1) Lv ∧ Sf [] w w' (Lv ++ []) []) (fun t => s.length + 64 - t.2.2) (.slice none 0 0, [], 0) rfl ⟨rfl, Nat.zero_le _, [], .nil, hS⟩ ?_
  rintro ⟨v, dn, o⟩ us w2 ⟨hd, ho, Lv, hv, hS⟩
  simp only at hd ho hv
  have hcl := chk_len s
  have hdl : dn.length ≤ s.length := by
    have := congrArg List.length hd
    rw [List.length_append] at this
    omega
  obtain ⟨Av, cv, rfl, hv⟩ := hv.open
  (conv => whnf)
  refine br_i (fun h0 => ?_) (fun h0 => ?_)
  · have hlt : o < s.length := by
      have h1 : decide ((o : Int) < ((strY s).size : Int)) = true := h0
      have := of_decide_eq_true h1
      omega
    have hne : s.drop o ≠ [] := by
      intro h
      have := congrArg List.length h
      simp at this
      omega
    have hck := chk_cons hne
    rw [List.drop_drop] at hck
    have e64 : IntKind.i64.wrap ((o : Int) + 64) = ((o + 64 : Nat) : Int) := by rw [wrap_i64 (by omega) (by omega)]; omega
    (conv => whnf)
    refine br_i (fun h1 => ?_) (fun h1 => ?_)
    · have h1' : s.length < o + 64 := by
        have h2 : decide (((strY s).size : Int) < IntKind.i64.wrap ((o : Int) + 64)) = true := h1
        rw [e64] at h2
        have := of_decide_eq_true h2
        omega
      have hex : (strY s).extract o (strY s).size = strY ((s.drop o).take 64) := by rw [strY_extract, hsz, List.take_length, List.take_of_length_le (by rw [List.length_drop]; omega)]
      repeat ((conv => whnf); first | (refine nw_f hS ?_; intro b w1 hS) | (refine .mk ⟨by show (0 : Int) ≤ ((strY s).size : Int); omega, by show ((strY s).size : Int) ≤ ((strY s).size : Int); omega⟩ ?_; (conv => whnf); refine .mk ⟨by show (0 : Int) ≤ (o : Int); omega, by show (o : Int) ≤ ((strY s).size : Int); omega⟩ ?_))
      have hRd : Rd _ _ [Value.string ((strY s).extract o (strY s).size)] := hS.rd 0 rfl
      rw [hex] at hRd
      refine app_f TB_ok elT (hS : Sf [] w _ (Lv ++ []) _) hv (show Rd _ _ (flat encT [(s.drop o).take 64]) from hRd) rfl (fun y hy => ?_) (by omega) (by omega) ?_
      · simp [flat, encT] at hy
        subst hy
        rfl
      intro v' Lv' w6 hv' hS
      repeat ((conv => whnf); first | (refine nw_f hS ?_; intro b w1 hS))
      refine ⟨rfl, (v', dn ++ [(s.drop o).take 64], o + 64), ?_, ⟨?_, by simp only; omega, Lv', ?_, hS.subs (List.Sublist.refl _) (List.nil_sublist _)⟩, by simp only; omega⟩
      · rw [← e64]
        rfl
      · rw [← hd, hck, List.append_assoc]
        rfl
      · rw [List.length_append, flat_append]
        exact hv'
    · have h1' : o + 64 ≤ s.length := by
        have h2 : decide (((strY s).size : Int) < IntKind.i64.wrap ((o : Int) + 64)) = false := h1
        rw [e64] at h2
        have := of_decide_eq_false h2
        omega
      have hex : (strY s).extract o (IntKind.i64.wrap ((o : Int) + 64)).toNat = strY ((s.drop o).take 64) := by
        rw [e64, strY_extract, Int.toNat_natCast, List.drop_take]
        rw [show o + 64 - o = 64 from by omega]
      repeat ((conv => whnf); first | (refine nw_f hS ?_; intro b w1 hS) | (refine .mk ⟨by show (0 : Int) ≤ IntKind.i64.wrap ((o : Int) + 64); rw [e64]; omega, by show IntKind.i64.wrap ((o : Int) + 64) ≤ ((strY s).size : Int); rw [e64]; omega⟩ ?_; (conv => whnf); refine .mk ⟨by show (0 : Int) ≤ (o : Int); omega, by show (o : Int) ≤ ((IntKind.i64.wrap ((o : Int) + 64)).toNat : Int); rw [e64]; omega⟩ ?_))
      have hRd : Rd _ _ [Value.string ((strY s).extract o (IntKind.i64.wrap ((o : Int) + 64)).toNat)] := hS.rd 0 rfl
      rw [hex] at hRd
      refine app_f TB_ok elT (hS : Sf [] w _ (Lv ++ []) _) hv (show Rd _ _ (flat encT [(s.drop o).take 64]) from hRd) rfl (fun y hy => ?_) (by omega) (by omega) ?_
      · simp [flat, encT] at hy
        subst hy
        rfl
      intro v' Lv' w6 hv' hS
      repeat ((conv => whnf); first | (refine nw_f hS ?_; intro b w1 hS))
      refine ⟨rfl, (v', dn ++ [(s.drop o).take 64], o + 64), ?_, ⟨?_, by simp only; omega, Lv', ?_, hS.subs (List.Sublist.refl _) (List.nil_sublist _)⟩, by simp only; omega⟩
      · rw [← e64]
        rfl
      · rw [← hd, hck, List.append_assoc]
        rfl
      · rw [List.length_append, flat_append]
        exact hv'
  · have hge : s.length ≤ o := by
      have h1 : decide ((o : Int) < ((strY s).size : Int)) = false := h0
      have := of_decide_eq_false h1
      omega
    rw [List.drop_eq_nil_of_le hge, chk_nil, List.append_nil] at hd
    subst hd
    repeat ((conv => whnf); first | (refine nw_f hS ?_; intro b w1 hS))
    exact ⟨Lv, hv, by simpa using hS.st⟩
end Go.RV
