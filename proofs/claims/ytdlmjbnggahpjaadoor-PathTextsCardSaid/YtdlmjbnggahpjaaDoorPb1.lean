/- Contracts of functions of chapter 4: few, same; the document's Within, Up, Move, Same. Conditions: none. -/
import Derived.Test.YtdlmjbnggahpjaaDoorPa9
set_option maxRecDepth 20000
set_option linter.unusedVariables false
set_option linter.unusedSimpArgs false
namespace Go.RV
open Go Go.Proofs Go.RowKit

theorem few4_c (A : Option Addr) (c : Nat) (l : Nm) (w : World) (hR : Rd w A (flat encT l)) (hn : l.length ≤ 9223372036854775807) :
    Fc Tryd.prog 22 [.slice A l.length c] w fun v w' => (∃ b, v = .bool b ∧ (b = true → l.length ≤ 20)) ∧ St [] w w' [] := by
  refine fc_i TB_ok Tryd.func22 rfl (by kernel_rfl) ?_
  have hS := Sf.refl w
  repeat ((conv => whnf); first | (apply q_i; focus (intro w1 hS; (conv => whnf); first | exact ⟨rfl, rfl⟩)) | (refine nw_f hS ?_; intro b w1 hS) | (refine as_i hS ?_) | (refine as_i (hS.subs (List.nil_sublist _) (by repeat (first | exact List.Sublist.refl _ | apply List.Sublist.cons_cons | apply List.Sublist.cons))) ?_) | (refine as_i (hS.subs (List.Sublist.refl _) (by repeat (first | exact List.Sublist.refl _ | apply List.Sublist.cons_cons | apply List.Sublist.cons))) ?_) | (refine bar_f hS ?_) | (refine drawf TB_ok rfl (by kernel_rfl) (by kernel_rfl) hS (List.Sublist.refl _) (List.Sublist.refl _) ?_; intro w1 hS) | (refine br_t (by assumption) ?_) | (refine br_f (by assumption) ?_))
  refine loop_i TB_ok (fun i : Nat => [(3, .int .i64 i)]) (fun i w' => i ≤ l.length ∧ i ≤ 30 ∧ Sf [] w w' [] []) (fun i => l.length - i) 0 rfl ⟨Nat.zero_le _, Nat.zero_le _, hS⟩ ?_
  rintro i us w2 ⟨hi, hi2, hS⟩
  by_cases hlt : i < l.length
  · have h1 : decide ((i : Int) < (l.length : Int)) = true := decide_eq_true (by omega)
    by_cases h40 : i < 30
    · have h2 : decide ((i : Int) < 30) = true := decide_eq_true (by omega)
      obtain ⟨x, off, rfl⟩ := hR.form (flat_ne encT_len (by omega) hlt)
      repeat ((conv => whnf); first | (apply q_i; focus (intro w1 hS; (conv => whnf); first | exact ⟨rfl, rfl⟩ | ((refine .mk ⟨by omega, by omega⟩ ?_; refine ix_i rfl ?_); (conv => whnf); exact ⟨rfl, rfl⟩) | ((refine ld_el encT_len (hR.below hS.nil).at (i := i) (k := 0) hlt (by omega) rfl (v := .string (strY l[i])) rfl ?_); (conv => whnf); exact ⟨rfl, rfl⟩))) | (refine nw_f hS ?_; intro b w1 hS) | (refine as_i hS ?_) | (refine as_i (hS.subs (List.nil_sublist _) (by repeat (first | exact List.Sublist.refl _ | apply List.Sublist.cons_cons | apply List.Sublist.cons))) ?_) | (refine as_i (hS.subs (List.Sublist.refl _) (by repeat (first | exact List.Sublist.refl _ | apply List.Sublist.cons_cons | apply List.Sublist.cons))) ?_) | (refine bar_f hS ?_) | (refine .mk ⟨by omega, by omega⟩ ?_; refine ix_i rfl ?_) | (refine ld_el encT_len (hR.below hS.nil).at (i := i) (k := 0) hlt (by omega) rfl (v := .string (strY l[i])) rfl ?_) | (refine drawf TB_ok rfl (by kernel_rfl) (by kernel_rfl) hS (List.Sublist.refl _) (List.Sublist.refl _) ?_; intro w1 hS) | (refine br_t (by assumption) ?_) | (refine br_f (by assumption) ?_))
      refine br_i (fun h3 => ?_) (fun h3 => ?_)
      · repeat ((conv => whnf); first | (apply q_i; focus (intro w1 hS; (conv => whnf); first | exact ⟨rfl, rfl⟩)) | (refine nw_f hS ?_; intro b w1 hS) | (refine as_i hS ?_) | (refine as_i (hS.subs (List.nil_sublist _) (by repeat (first | exact List.Sublist.refl _ | apply List.Sublist.cons_cons | apply List.Sublist.cons))) ?_) | (refine as_i (hS.subs (List.Sublist.refl _) (by repeat (first | exact List.Sublist.refl _ | apply List.Sublist.cons_cons | apply List.Sublist.cons))) ?_) | (refine bar_f hS ?_) | (refine drawf TB_ok rfl (by kernel_rfl) (by kernel_rfl) hS (List.Sublist.refl _) (List.Sublist.refl _) ?_; intro w1 hS) | (refine br_t (by assumption) ?_) | (refine br_f (by assumption) ?_))
        exact ⟨⟨_, rfl, fun h => by cases h⟩, hS.nil⟩
      · repeat ((conv => whnf); first | (apply q_i; focus (intro w1 hS; (conv => whnf); first | exact ⟨rfl, rfl⟩)) | (refine nw_f hS ?_; intro b w1 hS) | (refine as_i hS ?_) | (refine as_i (hS.subs (List.nil_sublist _) (by repeat (first | exact List.Sublist.refl _ | apply List.Sublist.cons_cons | apply List.Sublist.cons))) ?_) | (refine as_i (hS.subs (List.Sublist.refl _) (by repeat (first | exact List.Sublist.refl _ | apply List.Sublist.cons_cons | apply List.Sublist.cons))) ?_) | (refine bar_f hS ?_) | (refine drawf TB_ok rfl (by kernel_rfl) (by kernel_rfl) hS (List.Sublist.refl _) (List.Sublist.refl _) ?_; intro w1 hS) | (refine br_t (by assumption) ?_) | (refine br_f (by assumption) ?_))
        refine ⟨rfl, i + 1, ?_, ⟨by omega, by omega, hS⟩, by omega⟩
        rw [wi h40 (by omega)]
        rfl
    · have h2 : decide ((i : Int) < 30) = false := decide_eq_false (by omega)
      repeat ((conv => whnf); first | (apply q_i; focus (intro w1 hS; (conv => whnf); first | exact ⟨rfl, rfl⟩)) | (refine nw_f hS ?_; intro b w1 hS) | (refine as_i hS ?_) | (refine as_i (hS.subs (List.nil_sublist _) (by repeat (first | exact List.Sublist.refl _ | apply List.Sublist.cons_cons | apply List.Sublist.cons))) ?_) | (refine as_i (hS.subs (List.Sublist.refl _) (by repeat (first | exact List.Sublist.refl _ | apply List.Sublist.cons_cons | apply List.Sublist.cons))) ?_) | (refine bar_f hS ?_) | (refine drawf TB_ok rfl (by kernel_rfl) (by kernel_rfl) hS (List.Sublist.refl _) (List.Sublist.refl _) ?_; intro w1 hS) | (refine br_t (by assumption) ?_) | (refine br_f (by assumption) ?_))
      exact ⟨⟨_, rfl, fun h => by have := of_decide_eq_true h; omega⟩, hS.nil⟩
  · have h1 : decide ((i : Int) < (l.length : Int)) = false := decide_eq_false (by omega)
    repeat ((conv => whnf); first | (apply q_i; focus (intro w1 hS; (conv => whnf); first | exact ⟨rfl, rfl⟩)) | (refine nw_f hS ?_; intro b w1 hS) | (refine as_i hS ?_) | (refine as_i (hS.subs (List.nil_sublist _) (by repeat (first | exact List.Sublist.refl _ | apply List.Sublist.cons_cons | apply List.Sublist.cons))) ?_) | (refine as_i (hS.subs (List.Sublist.refl _) (by repeat (first | exact List.Sublist.refl _ | apply List.Sublist.cons_cons | apply List.Sublist.cons))) ?_) | (refine bar_f hS ?_) | (refine drawf TB_ok rfl (by kernel_rfl) (by kernel_rfl) hS (List.Sublist.refl _) (List.Sublist.refl _) ?_; intro w1 hS) | (refine br_t (by assumption) ?_) | (refine br_f (by assumption) ?_))
    exact ⟨⟨_, rfl, fun h => by have := of_decide_eq_true h; omega⟩, hS.nil⟩
theorem lsame_c (A : Option Addr) (c : Nat) (l : Nm) (B : Option Addr) (d : Nat) (k : Nm) (w : World) (hR : Rd w A (flat encT l)) (hn : l.length ≤ 4611686018427387904) (hQ : Rd w B (flat encT k)) :
    Fc Tryd.prog 26 [.slice A l.length c, .slice B k.length d] w fun v w' => v = .bool (decide (l = k)) ∧ St [] w w' [] := by
  refine fc_i TB_ok Tryd.func26 rfl (by kernel_rfl) ?_
  have hS := Sf.refl w
  by_cases hl : l.length = k.length
  · have g0 : ((l.length : Int) != (k.length : Int)) = false := by simp [hl]
    repeat ((conv => whnf); first | (apply q_i; focus (intro w1 hS; (conv => whnf); first | exact ⟨rfl, rfl⟩)) | (refine nw_f hS ?_; intro b w1 hS) | (refine as_i hS ?_) | (refine as_i (hS.subs (List.nil_sublist _) (by repeat (first | exact List.Sublist.refl _ | apply List.Sublist.cons_cons | apply List.Sublist.cons))) ?_) | (refine as_i (hS.subs (List.Sublist.refl _) (by repeat (first | exact List.Sublist.refl _ | apply List.Sublist.cons_cons | apply List.Sublist.cons))) ?_) | (refine bar_f hS ?_) | (refine drawf TB_ok rfl (by kernel_rfl) (by kernel_rfl) hS (List.Sublist.refl _) (List.Sublist.refl _) ?_; intro w1 hS) | (refine br_t (by assumption) ?_) | (refine br_f (by assumption) ?_))
    refine loop_i TB_ok (fun i : Nat => [(5, .int .i64 i)]) (fun i w' => i ≤ l.length ∧ l.take i = k.take i ∧ Sf [] w w' [] []) (fun i => l.length - i) 0 rfl ⟨Nat.zero_le _, rfl, hS⟩ ?_
    rintro i us w2 ⟨hi, hk, hS⟩
    by_cases hlt : i < l.length
    · have g1 : decide ((i : Int) < (l.length : Int)) = true := decide_eq_true (by omega)
      have hlt2 : i < k.length := by omega
      obtain ⟨x, off, rfl⟩ := hR.form (flat_ne encT_len (by omega) hlt)
      obtain ⟨x2, off2, rfl⟩ := hQ.form (flat_ne encT_len (by omega) hlt2)
      by_cases he : l[i] = k[i]
      · have hq : (!streq (strY l[i]) (strY k[i])) = false := by rw [streq_strY, decide_eq_true he]; rfl
        repeat ((conv => whnf); first | (apply q_i; focus (intro w1 hS; (conv => whnf); first | exact ⟨rfl, rfl⟩)) | (refine nw_f hS ?_; intro b w1 hS) | (refine as_i hS ?_) | (refine as_i (hS.subs (List.nil_sublist _) (by repeat (first | exact List.Sublist.refl _ | apply List.Sublist.cons_cons | apply List.Sublist.cons))) ?_) | (refine as_i (hS.subs (List.Sublist.refl _) (by repeat (first | exact List.Sublist.refl _ | apply List.Sublist.cons_cons | apply List.Sublist.cons))) ?_) | (refine bar_f hS ?_) | (refine br_t (by assumption) ?_) | (refine br_f (by assumption) ?_))
        refine drawf (Ls := []) TB_ok rfl (by kernel_rfl) (by kernel_rfl) hS (List.nil_sublist _) (List.nil_sublist _) ?_; intro w1 hS
        repeat ((conv => whnf); first | (apply q_i; focus (intro w1 hS; (conv => whnf); first | exact ⟨rfl, rfl⟩ | ((refine .mk ⟨by omega, by omega⟩ ?_; refine ix_i rfl ?_); (conv => whnf); exact ⟨rfl, rfl⟩) | ((refine ld_el encT_len (hR.below hS.nil).at (i := i) (k := 0) hlt (by omega) rfl (v := .string (strY l[i])) rfl ?_); (conv => whnf); exact ⟨rfl, rfl⟩) | ((refine ld_el encT_len (hQ.below hS.nil).at (i := i) (k := 0) hlt2 (by omega) rfl (v := .string (strY k[i])) rfl ?_); (conv => whnf); exact ⟨rfl, rfl⟩))) | (refine nw_f hS ?_; intro b w1 hS) | (refine as_i hS ?_) | (refine as_i (hS.subs (List.nil_sublist _) (by repeat (first | exact List.Sublist.refl _ | apply List.Sublist.cons_cons | apply List.Sublist.cons))) ?_) | (refine as_i (hS.subs (List.Sublist.refl _) (by repeat (first | exact List.Sublist.refl _ | apply List.Sublist.cons_cons | apply List.Sublist.cons))) ?_) | (refine bar_f hS ?_) | (refine .mk ⟨by omega, by omega⟩ ?_; refine ix_i rfl ?_) | (refine ld_el encT_len (hR.below hS.nil).at (i := i) (k := 0) hlt (by omega) rfl (v := .string (strY l[i])) rfl ?_) | (refine ld_el encT_len (hQ.below hS.nil).at (i := i) (k := 0) hlt2 (by omega) rfl (v := .string (strY k[i])) rfl ?_) | (refine drawf TB_ok rfl (by kernel_rfl) (by kernel_rfl) hS (List.Sublist.refl _) (List.Sublist.refl _) ?_; intro w1 hS) | (refine br_t (by assumption) ?_) | (refine br_f (by assumption) ?_))
        refine ⟨rfl, i + 1, ?_, ⟨by omega, by rw [List.take_succ_eq_append_getElem hlt, List.take_succ_eq_append_getElem hlt2, hk, he], hS⟩, by omega⟩
        rw [wi hlt (by omega)]
        rfl
      · have hq : (!streq (strY l[i]) (strY k[i])) = true := by rw [streq_strY, decide_eq_false he]; rfl
        have hd : decide (l = k) = false := decide_eq_false fun h => he (by subst h; rfl)
        rw [hd]
        repeat ((conv => whnf); first | (apply q_i; focus (intro w1 hS; (conv => whnf); first | exact ⟨rfl, rfl⟩)) | (refine nw_f hS ?_; intro b w1 hS) | (refine as_i hS ?_) | (refine as_i (hS.subs (List.nil_sublist _) (by repeat (first | exact List.Sublist.refl _ | apply List.Sublist.cons_cons | apply List.Sublist.cons))) ?_) | (refine as_i (hS.subs (List.Sublist.refl _) (by repeat (first | exact List.Sublist.refl _ | apply List.Sublist.cons_cons | apply List.Sublist.cons))) ?_) | (refine bar_f hS ?_) | (refine br_t (by assumption) ?_) | (refine br_f (by assumption) ?_))
        refine drawf (Ls := []) TB_ok rfl (by kernel_rfl) (by kernel_rfl) hS (List.nil_sublist _) (List.nil_sublist _) ?_; intro w1 hS
        repeat ((conv => whnf); first | (apply q_i; focus (intro w1 hS; (conv => whnf); first | exact ⟨rfl, rfl⟩ | ((refine .mk ⟨by omega, by omega⟩ ?_; refine ix_i rfl ?_); (conv => whnf); exact ⟨rfl, rfl⟩) | ((refine ld_el encT_len (hR.below hS.nil).at (i := i) (k := 0) hlt (by omega) rfl (v := .string (strY l[i])) rfl ?_); (conv => whnf); exact ⟨rfl, rfl⟩) | ((refine ld_el encT_len (hQ.below hS.nil).at (i := i) (k := 0) hlt2 (by omega) rfl (v := .string (strY k[i])) rfl ?_); (conv => whnf); exact ⟨rfl, rfl⟩))) | (refine nw_f hS ?_; intro b w1 hS) | (refine as_i hS ?_) | (refine as_i (hS.subs (List.nil_sublist _) (by repeat (first | exact List.Sublist.refl _ | apply List.Sublist.cons_cons | apply List.Sublist.cons))) ?_) | (refine as_i (hS.subs (List.Sublist.refl _) (by repeat (first | exact List.Sublist.refl _ | apply List.Sublist.cons_cons | apply List.Sublist.cons))) ?_) | (refine bar_f hS ?_) | (refine .mk ⟨by omega, by omega⟩ ?_; refine ix_i rfl ?_) | (refine ld_el encT_len (hR.below hS.nil).at (i := i) (k := 0) hlt (by omega) rfl (v := .string (strY l[i])) rfl ?_) | (refine ld_el encT_len (hQ.below hS.nil).at (i := i) (k := 0) hlt2 (by omega) rfl (v := .string (strY k[i])) rfl ?_) | (refine drawf TB_ok rfl (by kernel_rfl) (by kernel_rfl) hS (List.Sublist.refl _) (List.Sublist.refl _) ?_; intro w1 hS) | (refine br_t (by assumption) ?_) | (refine br_f (by assumption) ?_))
        exact ⟨rfl, hS.nil⟩
    · have g1 : decide ((i : Int) < (l.length : Int)) = false := decide_eq_false (by omega)
      have hd : decide (l = k) = true := decide_eq_true (by rw [List.take_of_length_le (by omega), List.take_of_length_le (by omega)] at hk; exact hk)
      rw [hd]
      repeat ((conv => whnf); first | (apply q_i; focus (intro w1 hS; (conv => whnf); first | exact ⟨rfl, rfl⟩)) | (refine nw_f hS ?_; intro b w1 hS) | (refine as_i hS ?_) | (refine as_i (hS.subs (List.nil_sublist _) (by repeat (first | exact List.Sublist.refl _ | apply List.Sublist.cons_cons | apply List.Sublist.cons))) ?_) | (refine as_i (hS.subs (List.Sublist.refl _) (by repeat (first | exact List.Sublist.refl _ | apply List.Sublist.cons_cons | apply List.Sublist.cons))) ?_) | (refine bar_f hS ?_) | (refine drawf TB_ok rfl (by kernel_rfl) (by kernel_rfl) hS (List.Sublist.refl _) (List.Sublist.refl _) ?_; intro w1 hS) | (refine br_t (by assumption) ?_) | (refine br_f (by assumption) ?_))
      exact ⟨rfl, hS.nil⟩
  · have g0 : ((l.length : Int) != (k.length : Int)) = true := by simp; omega
    have hd : decide (l = k) = false := decide_eq_false fun h => hl (by rw [h])
    rw [hd]
    repeat ((conv => whnf); first | (apply q_i; focus (intro w1 hS; (conv => whnf); first | exact ⟨rfl, rfl⟩)) | (refine nw_f hS ?_; intro b w1 hS) | (refine as_i hS ?_) | (refine as_i (hS.subs (List.nil_sublist _) (by repeat (first | exact List.Sublist.refl _ | apply List.Sublist.cons_cons | apply List.Sublist.cons))) ?_) | (refine as_i (hS.subs (List.Sublist.refl _) (by repeat (first | exact List.Sublist.refl _ | apply List.Sublist.cons_cons | apply List.Sublist.cons))) ?_) | (refine bar_f hS ?_) | (refine drawf TB_ok rfl (by kernel_rfl) (by kernel_rfl) hS (List.Sublist.refl _) (List.Sublist.refl _) ?_; intro w1 hS) | (refine br_t (by assumption) ?_) | (refine br_f (by assumption) ?_))
    exact ⟨rfl, hS.nil⟩
theorem rwithin_c (A : Option Addr) (c : Nat) (l : Nm) (B : Option Addr) (d : Nat) (k : Nm) (w : World) (hR : Rd w A (flat encT l)) (hn : l.length ≤ 4611686018427387904) (hQ : Rd w B (flat encT k)) :
    Fc Tryd.prog 31 [.slice A l.length c, .slice B k.length d] w fun v w' => v = .bool (withinB l k) ∧ St [] w w' [] := by
  refine fc_i TB_ok Tryd.func31 rfl (by kernel_rfl) ?_
  have hS := Sf.refl w
  unfold withinB
  by_cases hl : l.length ≤ k.length
  · have g0 : decide ((k.length : Int) < (l.length : Int)) = false := decide_eq_false (by omega)
    rw [decide_eq_true hl, Bool.true_and]
    repeat ((conv => whnf); first | (apply q_i; focus (intro w1 hS; (conv => whnf); first | exact ⟨rfl, rfl⟩)) | (refine nw_f hS ?_; intro b w1 hS) | (refine as_i hS ?_) | (refine as_i (hS.subs (List.nil_sublist _) (by repeat (first | exact List.Sublist.refl _ | apply List.Sublist.cons_cons | apply List.Sublist.cons))) ?_) | (refine as_i (hS.subs (List.Sublist.refl _) (by repeat (first | exact List.Sublist.refl _ | apply List.Sublist.cons_cons | apply List.Sublist.cons))) ?_) | (refine bar_f hS ?_) | (refine drawf TB_ok rfl (by kernel_rfl) (by kernel_rfl) hS (List.Sublist.refl _) (List.Sublist.refl _) ?_; intro w1 hS) | (refine br_t (by assumption) ?_) | (refine br_f (by assumption) ?_))
    refine loop_i TB_ok (fun i : Nat => [(5, .int .i64 i)]) (fun i w' => i ≤ l.length ∧ l.take i = k.take i ∧ Sf [] w w' [] []) (fun i => l.length - i) 0 rfl ⟨Nat.zero_le _, rfl, hS⟩ ?_
    rintro i us w2 ⟨hi, hk, hS⟩
    by_cases hlt : i < l.length
    · have g1 : decide ((i : Int) < (l.length : Int)) = true := decide_eq_true (by omega)
      have hlt2 : i < k.length := by omega
      obtain ⟨x, off, rfl⟩ := hR.form (flat_ne encT_len (by omega) hlt)
      obtain ⟨x2, off2, rfl⟩ := hQ.form (flat_ne encT_len (by omega) hlt2)
      by_cases he : l[i] = k[i]
      · have hq : (!streq (strY l[i]) (strY k[i])) = false := by rw [streq_strY, decide_eq_true he]; rfl
        repeat ((conv => whnf); first | (apply q_i; focus (intro w1 hS; (conv => whnf); first | exact ⟨rfl, rfl⟩)) | (refine nw_f hS ?_; intro b w1 hS) | (refine as_i hS ?_) | (refine as_i (hS.subs (List.nil_sublist _) (by repeat (first | exact List.Sublist.refl _ | apply List.Sublist.cons_cons | apply List.Sublist.cons))) ?_) | (refine as_i (hS.subs (List.Sublist.refl _) (by repeat (first | exact List.Sublist.refl _ | apply List.Sublist.cons_cons | apply List.Sublist.cons))) ?_) | (refine bar_f hS ?_) | (refine br_t (by assumption) ?_) | (refine br_f (by assumption) ?_))
        refine drawf (Ls := []) TB_ok rfl (by kernel_rfl) (by kernel_rfl) hS (List.nil_sublist _) (List.nil_sublist _) ?_; intro w1 hS
        repeat ((conv => whnf); first | (apply q_i; focus (intro w1 hS; (conv => whnf); first | exact ⟨rfl, rfl⟩ | ((refine .mk ⟨by omega, by omega⟩ ?_; refine ix_i rfl ?_); (conv => whnf); exact ⟨rfl, rfl⟩) | ((refine ld_el encT_len (hR.below hS.nil).at (i := i) (k := 0) hlt (by omega) rfl (v := .string (strY l[i])) rfl ?_); (conv => whnf); exact ⟨rfl, rfl⟩) | ((refine ld_el encT_len (hQ.below hS.nil).at (i := i) (k := 0) hlt2 (by omega) rfl (v := .string (strY k[i])) rfl ?_); (conv => whnf); exact ⟨rfl, rfl⟩))) | (refine nw_f hS ?_; intro b w1 hS) | (refine as_i hS ?_) | (refine as_i (hS.subs (List.nil_sublist _) (by repeat (first | exact List.Sublist.refl _ | apply List.Sublist.cons_cons | apply List.Sublist.cons))) ?_) | (refine as_i (hS.subs (List.Sublist.refl _) (by repeat (first | exact List.Sublist.refl _ | apply List.Sublist.cons_cons | apply List.Sublist.cons))) ?_) | (refine bar_f hS ?_) | (refine .mk ⟨by omega, by omega⟩ ?_; refine ix_i rfl ?_) | (refine ld_el encT_len (hR.below hS.nil).at (i := i) (k := 0) hlt (by omega) rfl (v := .string (strY l[i])) rfl ?_) | (refine ld_el encT_len (hQ.below hS.nil).at (i := i) (k := 0) hlt2 (by omega) rfl (v := .string (strY k[i])) rfl ?_) | (refine drawf TB_ok rfl (by kernel_rfl) (by kernel_rfl) hS (List.Sublist.refl _) (List.Sublist.refl _) ?_; intro w1 hS) | (refine br_t (by assumption) ?_) | (refine br_f (by assumption) ?_))
        refine ⟨rfl, i + 1, ?_, ⟨by omega, by rw [List.take_succ_eq_append_getElem hlt, List.take_succ_eq_append_getElem hlt2, hk, he], hS⟩, by omega⟩
        rw [wi hlt (by omega)]
        rfl
      · have hq : (!streq (strY l[i]) (strY k[i])) = true := by rw [streq_strY, decide_eq_false he]; rfl
        have hd : decide (l = k.take l.length) = false := decide_eq_false fun h => he (by
          have h2 : l[i]? = (k.take l.length)[i]? := by rw [← h]
          rw [List.getElem?_take, if_pos hlt, List.getElem?_eq_getElem hlt, List.getElem?_eq_getElem hlt2] at h2
          exact Option.some.inj h2)
        rw [hd]
        repeat ((conv => whnf); first | (apply q_i; focus (intro w1 hS; (conv => whnf); first | exact ⟨rfl, rfl⟩)) | (refine nw_f hS ?_; intro b w1 hS) | (refine as_i hS ?_) | (refine as_i (hS.subs (List.nil_sublist _) (by repeat (first | exact List.Sublist.refl _ | apply List.Sublist.cons_cons | apply List.Sublist.cons))) ?_) | (refine as_i (hS.subs (List.Sublist.refl _) (by repeat (first | exact List.Sublist.refl _ | apply List.Sublist.cons_cons | apply List.Sublist.cons))) ?_) | (refine bar_f hS ?_) | (refine br_t (by assumption) ?_) | (refine br_f (by assumption) ?_))
        refine drawf (Ls := []) TB_ok rfl (by kernel_rfl) (by kernel_rfl) hS (List.nil_sublist _) (List.nil_sublist _) ?_; intro w1 hS
        repeat ((conv => whnf); first | (apply q_i; focus (intro w1 hS; (conv => whnf); first | exact ⟨rfl, rfl⟩ | ((refine .mk ⟨by omega, by omega⟩ ?_; refine ix_i rfl ?_); (conv => whnf); exact ⟨rfl, rfl⟩) | ((refine ld_el encT_len (hR.below hS.nil).at (i := i) (k := 0) hlt (by omega) rfl (v := .string (strY l[i])) rfl ?_); (conv => whnf); exact ⟨rfl, rfl⟩) | ((refine ld_el encT_len (hQ.below hS.nil).at (i := i) (k := 0) hlt2 (by omega) rfl (v := .string (strY k[i])) rfl ?_); (conv => whnf); exact ⟨rfl, rfl⟩))) | (refine nw_f hS ?_; intro b w1 hS) | (refine as_i hS ?_) | (refine as_i (hS.subs (List.nil_sublist _) (by repeat (first | exact List.Sublist.refl _ | apply List.Sublist.cons_cons | apply List.Sublist.cons))) ?_) | (refine as_i (hS.subs (List.Sublist.refl _) (by repeat (first | exact List.Sublist.refl _ | apply List.Sublist.cons_cons | apply List.Sublist.cons))) ?_) | (refine bar_f hS ?_) | (refine .mk ⟨by omega, by omega⟩ ?_; refine ix_i rfl ?_) | (refine ld_el encT_len (hR.below hS.nil).at (i := i) (k := 0) hlt (by omega) rfl (v := .string (strY l[i])) rfl ?_) | (refine ld_el encT_len (hQ.below hS.nil).at (i := i) (k := 0) hlt2 (by omega) rfl (v := .string (strY k[i])) rfl ?_) | (refine drawf TB_ok rfl (by kernel_rfl) (by kernel_rfl) hS (List.Sublist.refl _) (List.Sublist.refl _) ?_; intro w1 hS) | (refine br_t (by assumption) ?_) | (refine br_f (by assumption) ?_))
        exact ⟨rfl, hS.nil⟩
    · have g1 : decide ((i : Int) < (l.length : Int)) = false := decide_eq_false (by omega)
      have hge : i = l.length := by omega
      have hd : decide (l = k.take l.length) = true := decide_eq_true (by rw [hge, List.take_length] at hk; exact hk)
      rw [hd]
      repeat ((conv => whnf); first | (apply q_i; focus (intro w1 hS; (conv => whnf); first | exact ⟨rfl, rfl⟩)) | (refine nw_f hS ?_; intro b w1 hS) | (refine as_i hS ?_) | (refine as_i (hS.subs (List.nil_sublist _) (by repeat (first | exact List.Sublist.refl _ | apply List.Sublist.cons_cons | apply List.Sublist.cons))) ?_) | (refine as_i (hS.subs (List.Sublist.refl _) (by repeat (first | exact List.Sublist.refl _ | apply List.Sublist.cons_cons | apply List.Sublist.cons))) ?_) | (refine bar_f hS ?_) | (refine drawf TB_ok rfl (by kernel_rfl) (by kernel_rfl) hS (List.Sublist.refl _) (List.Sublist.refl _) ?_; intro w1 hS) | (refine br_t (by assumption) ?_) | (refine br_f (by assumption) ?_))
      exact ⟨rfl, hS.nil⟩
  · have g0 : decide ((k.length : Int) < (l.length : Int)) = true := decide_eq_true (by omega)
    rw [decide_eq_false hl]
    repeat ((conv => whnf); first | (apply q_i; focus (intro w1 hS; (conv => whnf); first | exact ⟨rfl, rfl⟩)) | (refine nw_f hS ?_; intro b w1 hS) | (refine as_i hS ?_) | (refine as_i (hS.subs (List.nil_sublist _) (by repeat (first | exact List.Sublist.refl _ | apply List.Sublist.cons_cons | apply List.Sublist.cons))) ?_) | (refine as_i (hS.subs (List.Sublist.refl _) (by repeat (first | exact List.Sublist.refl _ | apply List.Sublist.cons_cons | apply List.Sublist.cons))) ?_) | (refine bar_f hS ?_) | (refine drawf TB_ok rfl (by kernel_rfl) (by kernel_rfl) hS (List.Sublist.refl _) (List.Sublist.refl _) ?_; intro w1 hS) | (refine br_t (by assumption) ?_) | (refine br_f (by assumption) ?_))
    exact ⟨rfl, hS.nil⟩
theorem rsame_c (A : Option Addr) (c : Nat) (l : Nm) (B : Option Addr) (d : Nat) (k : Nm) (w : World) (hR : Rd w A (flat encT l)) (hn : l.length ≤ 4611686018427387904) (hQ : Rd w B (flat encT k)) :
    Fc Tryd.prog 17 [.slice A l.length c, .slice B k.length d] w fun v w' => v = .bool (decide (l = k)) ∧ St [] w w' [] := by
  refine fc_i TB_ok Tryd.func17 rfl (by kernel_rfl) ?_
  have hS := Sf.refl w
  by_cases hl : l.length = k.length
  · have g0 : ((l.length : Int) == (k.length : Int)) = true := by simp [hl]
    have hw : withinB l k = decide (l = k) := by
      unfold withinB
      rw [decide_eq_true (by omega), Bool.true_and, hl, List.take_length]
    rw [← hw]
    repeat ((conv => whnf); first | (apply q_i; focus (intro w1 hS; (conv => whnf); first | exact ⟨rfl, rfl⟩ | ((refine fc_m (rwithin_c A c l B d k _ (hR.below hS.nil) hn (hQ.below hS.nil)) ?_; rintro v w3 ⟨rfl, hS'⟩; replace hS := hS.call0 hS'); (conv => whnf); exact ⟨rfl, rfl⟩))) | (refine nw_f hS ?_; intro b w1 hS) | (refine as_i hS ?_) | (refine as_i (hS.subs (List.nil_sublist _) (by repeat (first | exact List.Sublist.refl _ | apply List.Sublist.cons_cons | apply List.Sublist.cons))) ?_) | (refine as_i (hS.subs (List.Sublist.refl _) (by repeat (first | exact List.Sublist.refl _ | apply List.Sublist.cons_cons | apply List.Sublist.cons))) ?_) | (refine bar_f hS ?_) | (refine fc_m (rwithin_c A c l B d k _ (hR.below hS.nil) hn (hQ.below hS.nil)) ?_; rintro v w3 ⟨rfl, hS'⟩; replace hS := hS.call0 hS') | (refine drawf TB_ok rfl (by kernel_rfl) (by kernel_rfl) hS (List.Sublist.refl _) (List.Sublist.refl _) ?_; intro w1 hS) | (refine br_t (by assumption) ?_) | (refine br_f (by assumption) ?_))
    exact ⟨rfl, hS.nil⟩
  · have g0 : ((l.length : Int) == (k.length : Int)) = false := by rw [beq_eq_false_iff_ne]; omega
    have hd : decide (l = k) = false := decide_eq_false fun h => hl (by rw [h])
    rw [hd]
    repeat ((conv => whnf); first | (apply q_i; focus (intro w1 hS; (conv => whnf); first | exact ⟨rfl, rfl⟩)) | (refine nw_f hS ?_; intro b w1 hS) | (refine as_i hS ?_) | (refine as_i (hS.subs (List.nil_sublist _) (by repeat (first | exact List.Sublist.refl _ | apply List.Sublist.cons_cons | apply List.Sublist.cons))) ?_) | (refine as_i (hS.subs (List.Sublist.refl _) (by repeat (first | exact List.Sublist.refl _ | apply List.Sublist.cons_cons | apply List.Sublist.cons))) ?_) | (refine bar_f hS ?_) | (refine drawf TB_ok rfl (by kernel_rfl) (by kernel_rfl) hS (List.Sublist.refl _) (List.Sublist.refl _) ?_; intro w1 hS) | (refine br_t (by assumption) ?_) | (refine br_f (by assumption) ?_))
    exact ⟨rfl, hS.nil⟩
theorem rup_c (A : Option Addr) (c : Nat) (l : Nm) (w : World) (hR : Rd w A (flat encT l)) (hn : l.length ≤ 1000000) (hc : l.length ≤ c) :
    Fc Tryd.prog 29 [.slice A l.length c] w fun v w' => ∃ A' c' Lv, v = .tuple #[.slice A' l.dropLast.length c', .string (strY (l.getLast?.getD []))] ∧ Sl 9 1 (.slice A' l.dropLast.length c') l.dropLast.length (flat encT l.dropLast) Lv ∧ St [] w w' Lv := by
  refine fc_i TB_ok Tryd.func29 rfl (by kernel_rfl) ?_
  have hS := Sf.refl w
  by_cases h0 : l.length = 0
  · have g : ((l.length : Int) == 0) = true := by simp [h0]
    obtain rfl := List.eq_nil_of_length_eq_zero h0
    repeat ((conv => whnf); first | (apply q_i; focus (intro w1 hS; (conv => whnf); first | exact ⟨rfl, rfl⟩)) | (refine nw_f hS ?_; intro b w1 hS) | (refine as_i hS ?_) | (refine as_i (hS.subs (List.nil_sublist _) (by repeat (first | exact List.Sublist.refl _ | apply List.Sublist.cons_cons | apply List.Sublist.cons))) ?_) | (refine as_i (hS.subs (List.Sublist.refl _) (by repeat (first | exact List.Sublist.refl _ | apply List.Sublist.cons_cons | apply List.Sublist.cons))) ?_) | (refine bar_f hS ?_) | (refine drawf TB_ok rfl (by kernel_rfl) (by kernel_rfl) hS (List.Sublist.refl _) (List.Sublist.refl _) ?_; intro w1 hS) | (refine br_t (by assumption) ?_) | (refine br_f (by assumption) ?_))
    exact ⟨none, 0, [], rfl, .nil, hS.nil⟩
  · have g : ((l.length : Int) == 0) = false := by rw [beq_eq_false_iff_ne]; omega
    have hw1 : IntKind.i64.wrap ((l.length : Int) - 1) = ((l.length - 1 : Nat) : Int) := by rw [wrap_i64 (by omega) (by omega)]; omega
    obtain ⟨x, off, hAx⟩ := hR.form (flat_ne encT_len (by omega) (show 0 < l.length by omega))
    have hdl : l.dropLast = l.take (l.length - 1) := List.dropLast_eq_take
    have hdn : l.dropLast.length = l.length - 1 := List.length_dropLast
    have hlt : l.length - 1 < l.length := by omega
    have hgl : l.getLast?.getD [] = l[l.length - 1] := by rw [List.getLast?_eq_getElem?, List.getElem?_eq_getElem hlt]; rfl
    have e1 : (((l.length - 1 : Nat) : Int)).toNat = (IntKind.i64.wrap ((l.length : Int) - 1)).toNat := by rw [hw1]
    rw [Int.toNat_natCast] at e1
    have hRx : Rd w (some ⟨x, off, none⟩) (flat encT l) := by rw [← hAx]; exact hR
    have hRd : Rd w A (flat encT l.dropLast) := by rw [hdl]; exact hR.first _
    repeat ((conv => whnf); first | (apply q_i; focus (intro w1 hS; (conv => whnf); first | exact ⟨rfl, rfl⟩ | ((refine .mk (by rw [hw1]; constructor <;> omega) ?_); (conv => whnf); exact ⟨rfl, rfl⟩))) | (refine nw_f hS ?_; intro b w1 hS) | (refine as_i hS ?_) | (refine as_i (hS.subs (List.nil_sublist _) (by repeat (first | exact List.Sublist.refl _ | apply List.Sublist.cons_cons | apply List.Sublist.cons))) ?_) | (refine as_i (hS.subs (List.Sublist.refl _) (by repeat (first | exact List.Sublist.refl _ | apply List.Sublist.cons_cons | apply List.Sublist.cons))) ?_) | (refine bar_f hS ?_) | (refine .mk (by rw [hw1]; constructor <;> omega) ?_) | (refine drawf TB_ok rfl (by kernel_rfl) (by kernel_rfl) hS (List.Sublist.refl _) (List.Sublist.refl _) ?_; intro w1 hS) | (refine br_t (by assumption) ?_) | (refine br_f (by assumption) ?_))
    refine app_f TB_ok elStr (show Sf [] w _ ([] ++ []) _ from hS) .nil (hRd.below hS.nil) (by rw [flatT_len, hdn, e1]) (flatT_one _) (by rw [← e1]; omega) (by rw [← e1]; omega) ?_
    intro v' Lv' w6 hv' hS
    rw [Nat.zero_add, List.nil_append] at hv'
    obtain ⟨A', c', rfl, hv'⟩ := hv'.open
    repeat ((conv => whnf); first | (apply q_i; focus (intro w1 hS; (conv => whnf); first | exact ⟨rfl, rfl⟩)) | (refine nw_f hS ?_; intro b w1 hS) | (refine as_i hS ?_) | (refine as_i (hS.subs (List.nil_sublist _) (by repeat (first | exact List.Sublist.refl _ | apply List.Sublist.cons_cons | apply List.Sublist.cons))) ?_) | (refine as_i (hS.subs (List.Sublist.refl _) (by repeat (first | exact List.Sublist.refl _ | apply List.Sublist.cons_cons | apply List.Sublist.cons))) ?_) | (refine bar_f hS ?_) | (refine br_t (by assumption) ?_) | (refine br_f (by assumption) ?_))
    refine drawf (Ls := []) TB_ok rfl (by kernel_rfl) (by kernel_rfl) hS (List.Sublist.refl _) (List.nil_sublist _) ?_; intro w1 hS
    repeat ((conv => whnf); first | (apply q_i; focus (intro w1 hS; (conv => whnf); first | exact ⟨rfl, rfl⟩ | ((refine .mk (by rw [hw1]; constructor <;> omega) ?_; refine ix_i hAx ?_); (conv => whnf); exact ⟨rfl, rfl⟩) | ((refine .mk (by rw [hw1]; constructor <;> omega) ?_); (conv => whnf); exact ⟨rfl, rfl⟩) | ((refine ld_el encT_len (hRx.below hS.nil).at (i := l.length - 1) (k := 0) hlt (by omega) (by rw [hw1]; rfl) (v := .string (strY l[l.length - 1])) rfl ?_); (conv => whnf); exact ⟨rfl, rfl⟩))) | (refine nw_f hS ?_; intro b w1 hS) | (refine as_i hS ?_) | (refine as_i (hS.subs (List.nil_sublist _) (by repeat (first | exact List.Sublist.refl _ | apply List.Sublist.cons_cons | apply List.Sublist.cons))) ?_) | (refine as_i (hS.subs (List.Sublist.refl _) (by repeat (first | exact List.Sublist.refl _ | apply List.Sublist.cons_cons | apply List.Sublist.cons))) ?_) | (refine bar_f hS ?_) | (refine .mk (by rw [hw1]; constructor <;> omega) ?_; refine ix_i hAx ?_) | (refine .mk (by rw [hw1]; constructor <;> omega) ?_) | (refine ld_el encT_len (hRx.below hS.nil).at (i := l.length - 1) (k := 0) hlt (by omega) (by rw [hw1]; rfl) (v := .string (strY l[l.length - 1])) rfl ?_) | (refine drawf TB_ok rfl (by kernel_rfl) (by kernel_rfl) hS (List.Sublist.refl _) (List.Sublist.refl _) ?_; intro w1 hS) | (refine br_t (by assumption) ?_) | (refine br_f (by assumption) ?_))
    rw [← e1, ← hdn] at hv'
    refine ⟨A', c', Lv', ?_, hv', by simpa using hS.fr (List.Sublist.refl _)⟩
    rw [hgl, hdn]
    show Value.tuple #[.slice A' (IntKind.i64.wrap ((l.length : Int) - 1)).toNat c', _] = _
    rw [← e1]
theorem rmove_c (A : Option Addr) (c : Nat) (l : Nm) (B : Option Addr) (d : Nat) (a : Nm) (D : Option Addr) (e : Nat) (bb : Nm) (w : World) (hR : Rd w A (flat encT l)) (hn : l.length ≤ 1000) (hc : l.length ≤ c) (hQ : Rd w B (flat encT a)) (hm : a.length ≤ 1000) (hU : Rd w D (flat encT bb)) (hk : bb.length ≤ 1000) :
    Fc Tryd.prog 32 [.slice A l.length c, .slice B a.length d, .slice D bb.length e] w fun v w' => ∃ Lv, Sl 9 1 v (moveT l a bb).length (flat encT (moveT l a bb)) Lv ∧ St [] w w' Lv := by
  refine fc_i TB_ok Tryd.func32 rfl (by kernel_rfl) ?_
  have hS := Sf.refl w
  have hW := fun w h1 h2 => rwithin_c B d a A c l w (h1 : Rd w B (flat encT a)) (by omega) (h2 : Rd w A (flat encT l))
  unfold moveT
  cases hwi : withinB a l with
  | false =>
    rw [hwi] at hW
    repeat ((conv => whnf); first | (apply q_i; focus (intro w1 hS; (conv => whnf); first | exact ⟨rfl, rfl⟩ | ((refine fc_m (hW _ (hQ.below hS.nil) (hR.below hS.nil)) ?_; rintro v w3 ⟨rfl, hS'⟩; replace hS := hS.call0 hS'); (conv => whnf); exact ⟨rfl, rfl⟩))) | (refine nw_f hS ?_; intro b w1 hS) | (refine as_i hS ?_) | (refine as_i (hS.subs (List.nil_sublist _) (by repeat (first | exact List.Sublist.refl _ | apply List.Sublist.cons_cons | apply List.Sublist.cons))) ?_) | (refine as_i (hS.subs (List.Sublist.refl _) (by repeat (first | exact List.Sublist.refl _ | apply List.Sublist.cons_cons | apply List.Sublist.cons))) ?_) | (refine bar_f hS ?_) | (refine fc_m (hW _ (hQ.below hS.nil) (hR.below hS.nil)) ?_; rintro v w3 ⟨rfl, hS'⟩; replace hS := hS.call0 hS') | (refine drawf TB_ok rfl (by kernel_rfl) (by kernel_rfl) hS (List.Sublist.refl _) (List.Sublist.refl _) ?_; intro w1 hS) | (refine br_t (by assumption) ?_) | (refine br_f (by assumption) ?_))
    refine app_f TB_ok elStr (show Sf [] w _ ([] ++ []) _ from hS) .nil (hR.below hS.nil) (flatT_len _) (flatT_one _) (by omega) (by omega) ?_
    intro v' Lv' w6 hv' hS
    rw [Nat.zero_add, List.nil_append] at hv'
    repeat ((conv => whnf); first | (apply q_i; focus (intro w1 hS; (conv => whnf); first | exact ⟨rfl, rfl⟩)) | (refine nw_f hS ?_; intro b w1 hS) | (refine as_i hS ?_) | (refine as_i (hS.subs (List.nil_sublist _) (by repeat (first | exact List.Sublist.refl _ | apply List.Sublist.cons_cons | apply List.Sublist.cons))) ?_) | (refine as_i (hS.subs (List.Sublist.refl _) (by repeat (first | exact List.Sublist.refl _ | apply List.Sublist.cons_cons | apply List.Sublist.cons))) ?_) | (refine bar_f hS ?_) | (refine drawf TB_ok rfl (by kernel_rfl) (by kernel_rfl) hS (List.Sublist.refl _) (List.Sublist.refl _) ?_; intro w1 hS) | (refine br_t (by assumption) ?_) | (refine br_f (by assumption) ?_))
    exact ⟨Lv', hv', by simpa using hS.fr (List.Sublist.refl _)⟩
  | true =>
    rw [hwi] at hW
    have hal : a.length ≤ l.length := by
      unfold withinB at hwi
      simp only [Bool.and_eq_true, decide_eq_true_eq] at hwi
      exact hwi.1
    rw [if_pos rfl]
    have hp := hR.part encT_len (l := a.length) hc
    repeat ((conv => whnf); first | (apply q_i; focus (intro w1 hS; (conv => whnf); first | exact ⟨rfl, rfl⟩ | ((refine fc_m (hW _ (hQ.below hS.nil) (hR.below hS.nil)) ?_; rintro v w3 ⟨rfl, hS'⟩; replace hS := hS.call0 hS'); (conv => whnf); exact ⟨rfl, rfl⟩) | ((refine .mk ⟨by omega, by omega⟩ ?_); (conv => whnf); exact ⟨rfl, rfl⟩))) | (refine nw_f hS ?_; intro b w1 hS) | (refine as_i hS ?_) | (refine as_i (hS.subs (List.nil_sublist _) (by repeat (first | exact List.Sublist.refl _ | apply List.Sublist.cons_cons | apply List.Sublist.cons))) ?_) | (refine as_i (hS.subs (List.Sublist.refl _) (by repeat (first | exact List.Sublist.refl _ | apply List.Sublist.cons_cons | apply List.Sublist.cons))) ?_) | (refine bar_f hS ?_) | (refine fc_m (hW _ (hQ.below hS.nil) (hR.below hS.nil)) ?_; rintro v w3 ⟨rfl, hS'⟩; replace hS := hS.call0 hS') | (refine .mk ⟨by omega, by omega⟩ ?_) | (refine drawf TB_ok rfl (by kernel_rfl) (by kernel_rfl) hS (List.Sublist.refl _) (List.Sublist.refl _) ?_; intro w1 hS) | (refine br_t (by assumption) ?_) | (refine br_f (by assumption) ?_))
    refine app_f TB_ok elStr (show Sf [] w _ ([] ++ []) _ from hS) .nil (hU.below hS.nil) (flatT_len _) (flatT_one _) (by omega) (by omega) ?_
    intro v' Lv' w6 hv' hS
    rw [Nat.zero_add, List.nil_append] at hv'
    repeat ((conv => whnf); first | (apply q_i; focus (intro w1 hS; (conv => whnf); first | exact ⟨rfl, rfl⟩ | ((refine .mk ⟨by omega, by omega⟩ ?_); (conv => whnf); exact ⟨rfl, rfl⟩))) | (refine nw_f hS ?_; intro b w1 hS) | (refine as_i hS ?_) | (refine as_i (hS.subs (List.nil_sublist _) (by repeat (first | exact List.Sublist.refl _ | apply List.Sublist.cons_cons | apply List.Sublist.cons))) ?_) | (refine as_i (hS.subs (List.Sublist.refl _) (by repeat (first | exact List.Sublist.refl _ | apply List.Sublist.cons_cons | apply List.Sublist.cons))) ?_) | (refine bar_f hS ?_) | (refine .mk ⟨by omega, by omega⟩ ?_) | (refine drawf TB_ok rfl (by kernel_rfl) (by kernel_rfl) hS (List.Sublist.refl _) (List.Sublist.refl _) ?_; intro w1 hS) | (refine br_t (by assumption) ?_) | (refine br_f (by assumption) ?_))
    refine app_f TB_ok elStr hS hv' (hp.below hS.nil) (by rw [flatT_len, List.length_drop]; rfl) (flatT_one _) (by omega) (by omega) ?_
    intro v2 Lv2 w7 hv2 hS
    repeat ((conv => whnf); first | (apply q_i; focus (intro w1 hS; (conv => whnf); first | exact ⟨rfl, rfl⟩)) | (refine nw_f hS ?_; intro b w1 hS) | (refine as_i hS ?_) | (refine as_i (hS.subs (List.nil_sublist _) (by repeat (first | exact List.Sublist.refl _ | apply List.Sublist.cons_cons | apply List.Sublist.cons))) ?_) | (refine as_i (hS.subs (List.Sublist.refl _) (by repeat (first | exact List.Sublist.refl _ | apply List.Sublist.cons_cons | apply List.Sublist.cons))) ?_) | (refine bar_f hS ?_) | (refine drawf TB_ok rfl (by kernel_rfl) (by kernel_rfl) hS (List.Sublist.refl _) (List.Sublist.refl _) ?_; intro w1 hS) | (refine br_t (by assumption) ?_) | (refine br_f (by assumption) ?_))
    refine ⟨Lv2, ?_, by simpa using hS.fr (List.Sublist.refl _)⟩
    rw [List.length_append, List.length_drop, flat_append]
    exact hv2
end Go.RV
