/- Contracts of functions of chapter 4: lists of names. Conditions: none. -/
import Derived.Test.YtdlmjbnggahpjaaDoorPa6
import Derived.Lib.AppendZeros
set_option maxRecDepth 20000
set_option linter.unusedVariables false
set_option linter.unusedSimpArgs false
namespace Go.RV
open Go Go.Proofs Go.RowKit

abbrev Nm := List (List UInt8)
theorem encT_one (s : List UInt8) : ∀ y ∈ encT s, one y = true := by
  intro y hy
  simp [encT] at hy
  subst hy
  rfl
theorem flatT_one (l : Nm) : ∀ y ∈ flat encT l, one y = true := by
  intro y hy
  obtain ⟨x, _, h⟩ := List.mem_flatMap.1 hy
  exact encT_one x y h
theorem flatT_len (l : Nm) : (flat encT l).length = l.length * 1 := flat_length encT_len l
theorem clone_c (A : Option Addr) (c : Nat) (l : Nm) (w : World) (hR : Rd w A (flat encT l)) (hn : l.length ≤ 1000000) (hA : A = none → l = [] ∧ c = 0) :
    Fc Tryd.prog 52 [.slice A l.length c] w fun v w' => ∃ Lv, Sl 9 1 v l.length (flat encT l) Lv ∧ St [] w w' Lv := by
  refine fc_i TB_ok Tryd.func52 rfl (by kernel_rfl) ?_
  have hS := Sf.refl w
  cases A with
  | none =>
    obtain ⟨rfl, rfl⟩ := hA rfl
    repeat ((conv => whnf); first | (apply q_i; focus (intro w1 hS; (conv => whnf); first | exact ⟨rfl, rfl⟩)) | (refine nw_f hS ?_; intro b w1 hS) | (refine as_i hS ?_) | (refine as_i (hS.subs (List.nil_sublist _) (by repeat (first | exact List.Sublist.refl _ | apply List.Sublist.cons_cons | apply List.Sublist.cons))) ?_) | (refine as_i (hS.subs (List.Sublist.refl _) (by repeat (first | exact List.Sublist.refl _ | apply List.Sublist.cons_cons | apply List.Sublist.cons))) ?_) | (refine bar_f hS ?_) | (refine drawf TB_ok rfl (by kernel_rfl) (by kernel_rfl) hS (List.Sublist.refl _) (List.Sublist.refl _) ?_; intro w1 hS) | (refine br_t (by assumption) ?_) | (refine br_f (by assumption) ?_))
    exact ⟨[], .nil, hS.nil⟩
  | some a =>
    repeat ((conv => whnf); first | (apply q_i; focus (intro w1 hS; (conv => whnf); first | exact ⟨rfl, rfl⟩)) | (refine nw_f hS ?_; intro b w1 hS) | (refine as_i hS ?_) | (refine as_i (hS.subs (List.nil_sublist _) (by repeat (first | exact List.Sublist.refl _ | apply List.Sublist.cons_cons | apply List.Sublist.cons))) ?_) | (refine as_i (hS.subs (List.Sublist.refl _) (by repeat (first | exact List.Sublist.refl _ | apply List.Sublist.cons_cons | apply List.Sublist.cons))) ?_) | (refine bar_f hS ?_) | (refine drawf TB_ok rfl (by kernel_rfl) (by kernel_rfl) hS (List.Sublist.refl _) (List.Sublist.refl _) ?_; intro w1 hS) | (refine br_t (by assumption) ?_) | (refine br_f (by assumption) ?_))
    have hS1 : Sf [] w _ ([_] ++ []) [] := ⟨by simpa using hS.st⟩
    have hv : Sl 9 1 (.slice (some ⟨b, 0, none⟩) 0 0) 0 [] [(b, .cells #[] 9 (0, 0))] := .blk b 0 0 [] #[] (Nat.le_refl _) rfl rfl rfl
    refine app_f TB_ok elStr hS1 hv (hR.below hS.nil) (flatT_len l) (flatT_one l) (by omega) (by omega) ?_
    intro v' Lv' w6 hv' hS
    rw [Nat.zero_add, List.nil_append] at hv'
    repeat ((conv => whnf); first | (apply q_i; focus (intro w1 hS; (conv => whnf); first | exact ⟨rfl, rfl⟩)) | (refine nw_f hS ?_; intro b w1 hS) | (refine as_i hS ?_) | (refine as_i (hS.subs (List.nil_sublist _) (by repeat (first | exact List.Sublist.refl _ | apply List.Sublist.cons_cons | apply List.Sublist.cons))) ?_) | (refine as_i (hS.subs (List.Sublist.refl _) (by repeat (first | exact List.Sublist.refl _ | apply List.Sublist.cons_cons | apply List.Sublist.cons))) ?_) | (refine bar_f hS ?_) | (refine drawf TB_ok rfl (by kernel_rfl) (by kernel_rfl) hS (List.Sublist.refl _) (List.Sublist.refl _) ?_; intro w1 hS) | (refine br_t (by assumption) ?_) | (refine br_f (by assumption) ?_))
    exact ⟨Lv', hv', by simpa using hS.fr (List.Sublist.refl _)⟩
theorem sequal_c (A : Option Addr) (c : Nat) (l : Nm) (B : Option Addr) (d : Nat) (k : Nm) (w : World) (hR : Rd w A (flat encT l)) (hn : l.length ≤ 4611686018427387904) (hQ : Rd w B (flat encT k)) :
    Fc Tryd.prog 54 [.slice A l.length c, .slice B k.length d] w fun v w' => v = .bool (decide (l = k)) ∧ St [] w w' [] := by
  refine fc_i TB_ok Tryd.func54 rfl (by kernel_rfl) ?_
  have hS := Sf.refl w
  by_cases hl : l.length = k.length
  · have g0 : ((l.length : Int) != (k.length : Int)) = false := by simp [hl]
    repeat ((conv => whnf); first | (apply q_i; focus (intro w1 hS; (conv => whnf); first | exact ⟨rfl, rfl⟩)) | (refine nw_f hS ?_; intro b w1 hS) | (refine as_i hS ?_) | (refine as_i (hS.subs (List.nil_sublist _) (by repeat (first | exact List.Sublist.refl _ | apply List.Sublist.cons_cons | apply List.Sublist.cons))) ?_) | (refine as_i (hS.subs (List.Sublist.refl _) (by repeat (first | exact List.Sublist.refl _ | apply List.Sublist.cons_cons | apply List.Sublist.cons))) ?_) | (refine bar_f hS ?_) | (refine drawf TB_ok rfl (by kernel_rfl) (by kernel_rfl) hS (List.Sublist.refl _) (List.Sublist.refl _) ?_; intro w1 hS) | (refine br_t (by assumption) ?_) | (refine br_f (by assumption) ?_))
    refine loop_i TB_ok (fun i : Nat => [(13, .int .i64 i)]) (fun i w' => i ≤ l.length ∧ l.take i = k.take i ∧ Sf [] w w' [] []) (fun i => l.length - i) 0 rfl ⟨Nat.zero_le _, rfl, hS⟩ ?_
    rintro i us w2 ⟨hi, hk, hS⟩
    by_cases hlt : i < l.length
    · have g1 : decide ((i : Int) < (l.length : Int)) = true := decide_eq_true (by omega)
      have hlt2 : i < k.length := by omega
      obtain ⟨x, off, rfl⟩ := hR.form (flat_ne encT_len (by omega) hlt)
      obtain ⟨x2, off2, rfl⟩ := hQ.form (flat_ne encT_len (by omega) hlt2)
      by_cases he : l[i] = k[i]
      · have hq : (!streq (strY l[i]) (strY k[i])) = false := by rw [streq_strY, decide_eq_true he]; rfl
        repeat ((conv => whnf); first | (apply q_i; focus (intro w1 hS; (conv => whnf); first | exact ⟨rfl, rfl⟩)) | (refine nw_f hS ?_; intro b w1 hS) | (refine as_i hS ?_) | (refine as_i (hS.subs (List.nil_sublist _) (by repeat (first | exact List.Sublist.refl _ | apply List.Sublist.cons_cons | apply List.Sublist.cons))) ?_) | (refine as_i (hS.subs (List.Sublist.refl _) (by repeat (first | exact List.Sublist.refl _ | apply List.Sublist.cons_cons | apply List.Sublist.cons))) ?_) | (refine bar_f hS ?_) | (refine br_t (by assumption) ?_) | (refine br_f (by assumption) ?_))
        refine drawf (Ls := []) TB_ok rfl (by kernel_rfl) (by kernel_rfl) hS (List.nil_sublist _) (List.nil_sublist _) ?_; intro w1 hS
        repeat ((conv => whnf); first | (apply q_i; focus (intro w1 hS; (conv => whnf); first | exact ⟨rfl, rfl⟩ | ((refine .mk ⟨by omega, by omega⟩ ?_; refine ix_i rfl ?_); (conv => whnf); exact ⟨rfl, rfl⟩) | ((refine ld_el encT_len (hR.below hS.nil).at (i := i) (k := 0) hlt (by omega) rfl (v := .string (strY l[i])) rfl ?_); (conv => whnf); exact ⟨rfl, rfl⟩) | ((refine ld_el encT_len (hQ.below hS.nil).at (i := i) (k := 0) hlt2 (by omega) rfl (v := .string (strY k[i])) rfl ?_); (conv => whnf); exact ⟨rfl, rfl⟩))) | (refine nw_f hS ?_; intro b w1 hS) | (refine as_i hS ?_) | (refine as_i (hS.subs (List.nil_sublist _) (by repeat (first | exact List.Sublist.refl _ | apply List.Sublist.cons_cons | apply List.Sublist.cons))) ?_) | (refine as_i (hS.subs (List.Sublist.refl _) (by repeat (first | exact List.Sublist.refl _ | apply List.Sublist.cons_cons | apply List.Sublist.cons))) ?_) | (refine bar_f hS ?_) | (refine .mk ⟨by omega, by omega⟩ ?_; refine ix_i rfl ?_) | (refine ld_el encT_len (hR.below hS.nil).at (i := i) (k := 0) hlt (by omega) rfl (v := .string (strY l[i])) rfl ?_) | (refine ld_el encT_len (hQ.below hS.nil).at (i := i) (k := 0) hlt2 (by omega) rfl (v := .string (strY k[i])) rfl ?_) | (refine drawf TB_ok rfl (by kernel_rfl) (by kernel_rfl) hS (List.Sublist.refl _) (List.Sublist.refl _) ?_; intro w1 hS) | (refine br_t (by assumption) ?_) | (refine br_f (by assumption) ?_))
        refine ⟨rfl, i + 1, ?_, ⟨by omega, by rw [List.take_succ_eq_append_getElem hlt, List.take_succ_eq_append_getElem hlt2, hk, he], hS⟩, by omega⟩
        rw [wi hlt (by omega)]
        rfl
      · have hq : (!streq (strY l[i]) (strY k[i])) = true := by rw [streq_strY, decide_eq_false he]; rfl
        have hd : decide (l = k) = false := decide_eq_false fun h => he (by subst h; rfl)
        rw [hd]
        repeat ((conv => whnf); first | (apply q_i; focus (intro w1 hS; (conv => whnf); first | exact ⟨rfl, rfl⟩)) | (refine nw_f hS ?_; intro b w1 hS) | (refine as_i hS ?_) | (refine as_i (hS.subs (List.nil_sublist _) (by repeat (first | exact List.Sublist.refl _ | apply List.Sublist.cons_cons | apply List.Sublist.cons))) ?_) | (refine as_i (hS.subs (List.Sublist.refl _) (by repeat (first | exact List.Sublist.refl _ | apply List.Sublist.cons_cons | apply List.Sublist.cons))) ?_) | (refine bar_f hS ?_) | (refine br_t (by assumption) ?_) | (refine br_f (by assumption) ?_))
        refine drawf (Ls := []) TB_ok rfl (by kernel_rfl) (by kernel_rfl) hS (List.nil_sublist _) (List.nil_sublist _) ?_; intro w1 hS
        repeat ((conv => whnf); first | (apply q_i; focus (intro w1 hS; (conv => whnf); first | exact ⟨rfl, rfl⟩ | ((refine .mk ⟨by omega, by omega⟩ ?_; refine ix_i rfl ?_); (conv => whnf); exact ⟨rfl, rfl⟩) | ((refine ld_el encT_len (hR.below hS.nil).at (i := i) (k := 0) hlt (by omega) rfl (v := .string (strY l[i])) rfl ?_); (conv => whnf); exact ⟨rfl, rfl⟩) | ((refine ld_el encT_len (hQ.below hS.nil).at (i := i) (k := 0) hlt2 (by omega) rfl (v := .string (strY k[i])) rfl ?_); (conv => whnf); exact ⟨rfl, rfl⟩))) | (refine nw_f hS ?_; intro b w1 hS) | (refine as_i hS ?_) | (refine as_i (hS.subs (List.nil_sublist _) (by repeat (first | exact List.Sublist.refl _ | apply List.Sublist.cons_cons | apply List.Sublist.cons))) ?_) | (refine as_i (hS.subs (List.Sublist.refl _) (by repeat (first | exact List.Sublist.refl _ | apply List.Sublist.cons_cons | apply List.Sublist.cons))) ?_) | (refine bar_f hS ?_) | (refine .mk ⟨by omega, by omega⟩ ?_; refine ix_i rfl ?_) | (refine ld_el encT_len (hR.below hS.nil).at (i := i) (k := 0) hlt (by omega) rfl (v := .string (strY l[i])) rfl ?_) | (refine ld_el encT_len (hQ.below hS.nil).at (i := i) (k := 0) hlt2 (by omega) rfl (v := .string (strY k[i])) rfl ?_) | (refine drawf TB_ok rfl (by kernel_rfl) (by kernel_rfl) hS (List.Sublist.refl _) (List.Sublist.refl _) ?_; intro w1 hS) | (refine br_t (by assumption) ?_) | (refine br_f (by assumption) ?_))
        exact ⟨rfl, hS.nil⟩
    · have g1 : decide ((i : Int) < (l.length : Int)) = false := decide_eq_false (by omega)
      have hd : decide (l = k) = true := decide_eq_true (by rw [List.take_of_length_le (by omega), List.take_of_length_le (by omega)] at hk; exact hk)
      rw [hd]
      repeat ((conv => whnf); first | (apply q_i; focus (intro w1 hS; (conv => whnf); first | exact ⟨rfl, rfl⟩)) | (refine nw_f hS ?_; intro b w1 hS) | (refine as_i hS ?_) | (refine as_i (hS.subs (List.nil_sublist _) (by repeat (first | exact List.Sublist.refl _ | apply List.Sublist.cons_cons | apply List.Sublist.cons))) ?_) | (refine as_i (hS.subs (List.Sublist.refl _) (by repeat (first | exact List.Sublist.refl _ | apply List.Sublist.cons_cons | apply List.Sublist.cons))) ?_) | (refine bar_f hS ?_) | (refine drawf TB_ok rfl (by kernel_rfl) (by kernel_rfl) hS (List.Sublist.refl _) (List.Sublist.refl _) ?_; intro w1 hS) | (refine br_t (by assumption) ?_) | (refine br_f (by assumption) ?_))
      exact ⟨rfl, hS.nil⟩
  · have g0 : ((l.length : Int) != (k.length : Int)) = true := by simp; omega
    have hd : decide (l = k) = false := decide_eq_false fun h => hl (by rw [h])
    rw [hd]
    repeat ((conv => whnf); first | (apply q_i; focus (intro w1 hS; (conv => whnf); first | exact ⟨rfl, rfl⟩)) | (refine nw_f hS ?_; intro b w1 hS) | (refine as_i hS ?_) | (refine as_i (hS.subs (List.nil_sublist _) (by repeat (first | exact List.Sublist.refl _ | apply List.Sublist.cons_cons | apply List.Sublist.cons))) ?_) | (refine as_i (hS.subs (List.Sublist.refl _) (by repeat (first | exact List.Sublist.refl _ | apply List.Sublist.cons_cons | apply List.Sublist.cons))) ?_) | (refine bar_f hS ?_) | (refine drawf TB_ok rfl (by kernel_rfl) (by kernel_rfl) hS (List.Sublist.refl _) (List.Sublist.refl _) ?_; intro w1 hS) | (refine br_t (by assumption) ?_) | (refine br_f (by assumption) ?_))
    exact ⟨rfl, hS.nil⟩
/-- the first k of a slice -/
theorem Rd.first {A : Option Addr} {l : Nm} {w : World} (hR : Rd w A (flat encT l)) (k : Nat) : Rd w A (flat encT (l.take k)) := by
  rcases hR with h | ⟨b, off, hA, h⟩
  · left
    have e : flat encT l = flat encT (l.take k) ++ flat encT (l.drop k) := by rw [← flat_append, List.take_append_drop]
    rw [e] at h
    exact (List.append_eq_nil_iff.1 h).1
  · right
    refine ⟨b, off, hA, fun j v hj => h j v ?_⟩
    have e : flat encT l = flat encT (l.take k) ++ flat encT (l.drop k) := by rw [← flat_append, List.take_append_drop]
    rw [e, List.getElem?_append_left (List.getElem?_eq_some_iff.1 hj).1]
    exact hj
def withinB (a b : Nm) : Bool := decide (a.length ≤ b.length) && decide (a = b.take a.length)
theorem within_c (A : Option Addr) (c : Nat) (l : Nm) (B : Option Addr) (d : Nat) (k : Nm) (w : World) (hR : Rd w A (flat encT l)) (hn : l.length ≤ 4611686018427387904) (hQ : Rd w B (flat encT k)) (hd : k.length ≤ d) :
    Fc Tryd.prog 30 [.slice A l.length c, .slice B k.length d] w fun v w' => v = .bool (withinB l k) ∧ St [] w w' [] := by
  refine fc_i TB_ok Tryd.func30 rfl (by kernel_rfl) ?_
  have hS := Sf.refl w
  unfold withinB
  by_cases h : l.length ≤ k.length
  · have g : decide ((l.length : Int) ≤ (k.length : Int)) = true := decide_eq_true (by omega)
    have hl : (k.take l.length).length = l.length := by rw [List.length_take]; omega
    have he := fun w h1 h2 => sequal_c A c l B d (k.take l.length) w (h1 : Rd w A (flat encT l)) hn (h2 : Rd w B (flat encT (k.take l.length)))
    rw [hl] at he
    rw [decide_eq_true h]
    repeat ((conv => whnf); first | (apply q_i; focus (intro w1 hS; (conv => whnf); first | exact ⟨rfl, rfl⟩ | ((refine .mk ⟨by omega, by omega⟩ ?_); (conv => whnf); exact ⟨rfl, rfl⟩) | ((refine fc_m (he _ (hR.below hS.nil) ((hQ.first _).below hS.nil)) ?_; rintro v w3 ⟨rfl, hS'⟩; replace hS := hS.call0 hS'); (conv => whnf); exact ⟨rfl, rfl⟩))) | (refine nw_f hS ?_; intro b w1 hS) | (refine as_i hS ?_) | (refine as_i (hS.subs (List.nil_sublist _) (by repeat (first | exact List.Sublist.refl _ | apply List.Sublist.cons_cons | apply List.Sublist.cons))) ?_) | (refine as_i (hS.subs (List.Sublist.refl _) (by repeat (first | exact List.Sublist.refl _ | apply List.Sublist.cons_cons | apply List.Sublist.cons))) ?_) | (refine bar_f hS ?_) | (refine .mk ⟨by omega, by omega⟩ ?_) | (refine fc_m (he _ (hR.below hS.nil) ((hQ.first _).below hS.nil)) ?_; rintro v w3 ⟨rfl, hS'⟩; replace hS := hS.call0 hS') | (refine drawf TB_ok rfl (by kernel_rfl) (by kernel_rfl) hS (List.Sublist.refl _) (List.Sublist.refl _) ?_; intro w1 hS) | (refine br_t (by assumption) ?_) | (refine br_f (by assumption) ?_))
    exact ⟨rfl, hS.nil⟩
  · have g : decide ((l.length : Int) ≤ (k.length : Int)) = false := decide_eq_false (by omega)
    rw [decide_eq_false h]
    repeat ((conv => whnf); first | (apply q_i; focus (intro w1 hS; (conv => whnf); first | exact ⟨rfl, rfl⟩)) | (refine nw_f hS ?_; intro b w1 hS) | (refine as_i hS ?_) | (refine as_i (hS.subs (List.nil_sublist _) (by repeat (first | exact List.Sublist.refl _ | apply List.Sublist.cons_cons | apply List.Sublist.cons))) ?_) | (refine as_i (hS.subs (List.Sublist.refl _) (by repeat (first | exact List.Sublist.refl _ | apply List.Sublist.cons_cons | apply List.Sublist.cons))) ?_) | (refine bar_f hS ?_) | (refine drawf TB_ok rfl (by kernel_rfl) (by kernel_rfl) hS (List.Sublist.refl _) (List.Sublist.refl _) ?_; intro w1 hS) | (refine br_t (by assumption) ?_) | (refine br_f (by assumption) ?_))
    exact ⟨rfl, hS.nil⟩
theorem up_c (A : Option Addr) (c : Nat) (l : Nm) (w : World) (hR : Rd w A (flat encT l)) (hn : l.length ≤ 1000000) (hc : l.length ≤ c) (hA : A = none → l = [] ∧ c = 0) :
    Fc Tryd.prog 28 [.slice A l.length c] w fun v w' => ∃ A' c' Lv, v = .tuple #[.slice A' l.dropLast.length c', .string (strY (l.getLast?.getD []))] ∧ Sl 9 1 (.slice A' l.dropLast.length c') l.dropLast.length (flat encT l.dropLast) Lv ∧ St [] w w' Lv := by
  refine fc_i TB_ok Tryd.func28 rfl (by kernel_rfl) ?_
  have hS := Sf.refl w
  by_cases h0 : l.length = 0
  · have g : ((l.length : Int) == 0) = true := by simp [h0]
    obtain rfl := List.eq_nil_of_length_eq_zero h0
    repeat ((conv => whnf); first | (apply q_i; focus (intro w1 hS; (conv => whnf); first | exact ⟨rfl, rfl⟩)) | (refine nw_f hS ?_; intro b w1 hS) | (refine as_i hS ?_) | (refine as_i (hS.subs (List.nil_sublist _) (by repeat (first | exact List.Sublist.refl _ | apply List.Sublist.cons_cons | apply List.Sublist.cons))) ?_) | (refine as_i (hS.subs (List.Sublist.refl _) (by repeat (first | exact List.Sublist.refl _ | apply List.Sublist.cons_cons | apply List.Sublist.cons))) ?_) | (refine bar_f hS ?_) | (refine drawf TB_ok rfl (by kernel_rfl) (by kernel_rfl) hS (List.Sublist.refl _) (List.Sublist.refl _) ?_; intro w1 hS) | (refine br_t (by assumption) ?_) | (refine br_f (by assumption) ?_))
    exact ⟨none, 0, [], rfl, .nil, hS.nil⟩
  · have g : ((l.length : Int) == 0) = false := by rw [beq_eq_false_iff_ne]; omega
    have hw1 : IntKind.i64.wrap ((l.length : Int) - 1) = ((l.length - 1 : Nat) : Int) := by rw [wrap_i64 (by omega) (by omega)]; omega
    obtain ⟨x, off, hAx⟩ := hR.form (flat_ne encT_len (by omega) (show 0 < l.length by omega))
    have hdl : l.dropLast = l.take (l.length - 1) := List.dropLast_eq_take
    have hdn : l.dropLast.length = l.length - 1 := List.length_dropLast
    have hlt : l.length - 1 < l.length := by omega
    have hgl : l.getLast?.getD [] = l[l.length - 1] := by rw [List.getLast?_eq_getElem?, List.getElem?_eq_getElem hlt]; rfl
    have hcl := fun w h => clone_c A c l.dropLast w (h : Rd w A (flat encT l.dropLast)) (by omega) (fun h => by rw [hAx] at h; cases h)
    rw [hdn] at hcl
    have e1 : (((l.length - 1 : Nat) : Int)).toNat = (IntKind.i64.wrap ((l.length : Int) - 1)).toNat := by rw [hw1]
    rw [Int.toNat_natCast] at e1
    rw [e1] at hcl
    have hRx : Rd w (some ⟨x, off, none⟩) (flat encT l) := by rw [← hAx]; exact hR
    repeat ((conv => whnf); first | (apply q_i; focus (intro w1 hS; (conv => whnf); first | exact ⟨rfl, rfl⟩)) | (refine nw_f hS ?_; intro b w1 hS) | (refine as_i hS ?_) | (refine as_i (hS.subs (List.nil_sublist _) (by repeat (first | exact List.Sublist.refl _ | apply List.Sublist.cons_cons | apply List.Sublist.cons))) ?_) | (refine as_i (hS.subs (List.Sublist.refl _) (by repeat (first | exact List.Sublist.refl _ | apply List.Sublist.cons_cons | apply List.Sublist.cons))) ?_) | (refine bar_f hS ?_) | (refine br_t (by assumption) ?_) | (refine br_f (by assumption) ?_))
    refine drawf (Ls := []) TB_ok rfl (by kernel_rfl) (by kernel_rfl) hS (List.nil_sublist _) (List.nil_sublist _) ?_; intro w1 hS
    repeat ((conv => whnf); first | (apply q_i; focus (intro w1 hS; (conv => whnf); first | exact ⟨rfl, rfl⟩ | ((refine .mk (by rw [hw1]; constructor <;> omega) ?_; refine ix_i hAx ?_); (conv => whnf); exact ⟨rfl, rfl⟩) | ((refine .mk (by rw [hw1]; constructor <;> omega) ?_); (conv => whnf); exact ⟨rfl, rfl⟩) | ((refine ld_el encT_len (hRx.below hS.nil).at (i := l.length - 1) (k := 0) hlt (by omega) (by rw [hw1]; rfl) (v := .string (strY l[l.length - 1])) rfl ?_); (conv => whnf); exact ⟨rfl, rfl⟩))) | (refine nw_f hS ?_; intro b w1 hS) | (refine as_i hS ?_) | (refine as_i (hS.subs (List.nil_sublist _) (by repeat (first | exact List.Sublist.refl _ | apply List.Sublist.cons_cons | apply List.Sublist.cons))) ?_) | (refine as_i (hS.subs (List.Sublist.refl _) (by repeat (first | exact List.Sublist.refl _ | apply List.Sublist.cons_cons | apply List.Sublist.cons))) ?_) | (refine bar_f hS ?_) | (refine .mk (by rw [hw1]; constructor <;> omega) ?_; refine ix_i hAx ?_) | (refine .mk (by rw [hw1]; constructor <;> omega) ?_) | (refine ld_el encT_len (hRx.below hS.nil).at (i := l.length - 1) (k := 0) hlt (by omega) (by rw [hw1]; rfl) (v := .string (strY l[l.length - 1])) rfl ?_) | (refine br_t (by assumption) ?_) | (refine br_f (by assumption) ?_))
    refine fc_m (hcl _ ((by rw [hdl]; exact hR.first _ : Rd w A (flat encT l.dropLast)).below hS.nil)) ?_
    rintro v w2 ⟨Lv, hv, hS'⟩
    replace hS := hS.callF hS'
    obtain ⟨A', c', rfl, hv⟩ := hv.open
    repeat ((conv => whnf); first | (apply q_i; focus (intro w1 hS; (conv => whnf); first | exact ⟨rfl, rfl⟩)) | (refine nw_f hS ?_; intro b w1 hS) | (refine as_i hS ?_) | (refine as_i (hS.subs (List.nil_sublist _) (by repeat (first | exact List.Sublist.refl _ | apply List.Sublist.cons_cons | apply List.Sublist.cons))) ?_) | (refine as_i (hS.subs (List.Sublist.refl _) (by repeat (first | exact List.Sublist.refl _ | apply List.Sublist.cons_cons | apply List.Sublist.cons))) ?_) | (refine bar_f hS ?_) | (refine drawf TB_ok rfl (by kernel_rfl) (by kernel_rfl) hS (List.Sublist.refl _) (List.Sublist.refl _) ?_; intro w1 hS) | (refine br_t (by assumption) ?_) | (refine br_f (by assumption) ?_))
    rw [← e1, ← hdn] at hv
    refine ⟨A', c', Lv, ?_, hv, hS.fr (List.sublist_append_left _ _)⟩
    rw [hgl, hdn]
    show Value.tuple #[.slice A' (IntKind.i64.wrap ((l.length : Int) - 1)).toNat c', _] = _
    rw [← e1]
/-- a new row of zeros -/
theorem grow0_i {t tn ty : TypeId} {n : Nat} {w w0 : World} {M : List Nat} {F L : LM} {K : Value → World → Prop} (ht : Tryd.prog.underlying t = some (.slice 9)) (htn : Tryd.prog.underlying tn = some (.int .i64)) (h0 : 0 < n) (hn : n ≤ 1000000000) (hS : Sf M w0 w F L)
    (k : ∀ b cap cs w', n ≤ cap → cs.size = cap → Sf M w0 w' F ((b, .cells cs 9 (0, 0)) :: L) → K (.slice (some ⟨b, 0, none⟩) n cap) w') : SemN Tryd.prog (Builtin.append_ #[t, tn] ty #[.slice none 0 0, .int .i64 n]) w K := by
  have hrun := Lib.run_append_nil_zeros (P := Tryd.prog) w t tn ty 9 _ _ .i64 .i64 ht htn inf9 rfl n h0 (by decide) (by omega) (by show n * 16 ≤ _; omega)
  have hge := grownCap_ge w n 0 9
  refine ⟨SemW.of_run hrun ?_⟩
  have h2 := (hS.drew (w.drawn + 1))
  refine (nw_f (K := fun b w' => K (.slice (some ⟨b, 0, none⟩) n (grownCap w n 0 9)) w') h2 (o := .cells (Builtin.zeroCells #[Value.string ⟨#[]⟩] n ++ Builtin.zeroCells #[Value.string ⟨#[]⟩] (grownCap w n 0 9 - n)) 9 (0, 0)) (fun b w' hS' => k b _ _ w' hge ?_ hS')).out
  rw [Array.size_append, size_zc, size_zc]
  simp
  omega
theorem sgrow_c (n : Nat) (hn : n ≤ 1000000000) (w : World) : Fc Tryd.prog 70 [.slice none 0 0, .int .i64 n] w fun v w' => ∃ Lv, Sl 9 1 v 0 [] Lv ∧ St [] w w' Lv := by
  refine fc_i TB_ok Tryd.func70 rfl (by kernel_rfl) ?_
  have hS := Sf.refl w
  have g0 : decide ((n : Int) < 0) = false := decide_eq_false (by omega)
  have hw : IntKind.i64.wrap ((n : Int) - IntKind.i64.wrap (((0 : Nat) : Int) - ((0 : Nat) : Int))) = (n : Int) := by
    rw [wrap_i64 (x := ((0 : Nat) : Int) - ((0 : Nat) : Int)) (by omega) (by omega), wrap_i64 (by omega) (by omega)]
    omega
  by_cases h : n = 0
  · have g1 : decide ((0 : Int) < IntKind.i64.wrap ((n : Int) - IntKind.i64.wrap (((0 : Nat) : Int) - ((0 : Nat) : Int)))) = false := decide_eq_false (by rw [hw]; omega)
    repeat ((conv => whnf); first | (apply q_i; focus (intro w1 hS; (conv => whnf); first | exact ⟨rfl, rfl⟩)) | (refine nw_f hS ?_; intro b w1 hS) | (refine as_i hS ?_) | (refine as_i (hS.subs (List.nil_sublist _) (by repeat (first | exact List.Sublist.refl _ | apply List.Sublist.cons_cons | apply List.Sublist.cons))) ?_) | (refine as_i (hS.subs (List.Sublist.refl _) (by repeat (first | exact List.Sublist.refl _ | apply List.Sublist.cons_cons | apply List.Sublist.cons))) ?_) | (refine bar_f hS ?_) | (refine drawf TB_ok rfl (by kernel_rfl) (by kernel_rfl) hS (List.Sublist.refl _) (List.Sublist.refl _) ?_; intro w1 hS) | (refine br_t (by assumption) ?_) | (refine br_f (by assumption) ?_))
    exact ⟨[], .nil, hS.nil⟩
  · have g1 : decide ((0 : Int) < IntKind.i64.wrap ((n : Int) - IntKind.i64.wrap (((0 : Nat) : Int) - ((0 : Nat) : Int)))) = true := decide_eq_true (by rw [hw]; omega)
    repeat ((conv => whnf); first | (apply q_i; focus (intro w1 hS; (conv => whnf); first | exact ⟨rfl, rfl⟩ | ((refine .mk ⟨by omega, by omega⟩ ?_); (conv => whnf); exact ⟨rfl, rfl⟩))) | (refine nw_f hS ?_; intro b w1 hS) | (refine as_i hS ?_) | (refine as_i (hS.subs (List.nil_sublist _) (by repeat (first | exact List.Sublist.refl _ | apply List.Sublist.cons_cons | apply List.Sublist.cons))) ?_) | (refine as_i (hS.subs (List.Sublist.refl _) (by repeat (first | exact List.Sublist.refl _ | apply List.Sublist.cons_cons | apply List.Sublist.cons))) ?_) | (refine bar_f hS ?_) | (refine .mk ⟨by omega, by omega⟩ ?_) | (refine drawf TB_ok rfl (by kernel_rfl) (by kernel_rfl) hS (List.Sublist.refl _) (List.Sublist.refl _) ?_; intro w1 hS) | (refine br_t (by assumption) ?_) | (refine br_f (by assumption) ?_))
    rw [hw]
    (conv => whnf)
    refine grow0_i Tryd.underlying23 Tryd.underlying3 (by omega) hn hS ?_
    intro b cap cs w2 hnc hcs hS
    repeat ((conv => whnf); first | (apply q_i; focus (intro w1 hS; (conv => whnf); first | exact ⟨rfl, rfl⟩ | ((refine ld_f hS 0 rfl rfl ?_); (conv => whnf); exact ⟨rfl, rfl⟩) | ((refine ldA_f hS 0 rfl rfl ?_); (conv => whnf); exact ⟨rfl, rfl⟩) | ((refine .mk ⟨by omega, by omega⟩ ?_); (conv => whnf); exact ⟨rfl, rfl⟩))) | (refine nw_f hS ?_; intro b w1 hS) | (refine as_i hS ?_) | (refine as_i (hS.subs (List.nil_sublist _) (by repeat (first | exact List.Sublist.refl _ | apply List.Sublist.cons_cons | apply List.Sublist.cons))) ?_) | (refine as_i (hS.subs (List.Sublist.refl _) (by repeat (first | exact List.Sublist.refl _ | apply List.Sublist.cons_cons | apply List.Sublist.cons))) ?_) | (refine bar_f hS ?_) | (refine ld_f hS 0 rfl rfl ?_) | (refine ldA_f hS 0 rfl rfl ?_) | (refine stN_f hS 0 rfl (Nat.le_of_ble_eq_true rfl) rfl rfl ?_; (conv => whnf); intro w1 hS) | (refine stM_f hS 0 rfl (Nat.le_of_ble_eq_true rfl) rfl ?_; (conv => whnf); intro w1 hS) | (refine .mk ⟨by omega, by omega⟩ ?_) | (refine drawf TB_ok rfl (by kernel_rfl) (by kernel_rfl) hS (List.Sublist.refl _) (List.Sublist.refl _) ?_; intro w1 hS) | (refine br_t (by assumption) ?_) | (refine br_f (by assumption) ?_))
    exact ⟨_, .blk b cap 0 [] cs (Nat.zero_le _) (by omega) rfl rfl, hS.sub (List.Sublist.refl _)⟩
/-- a list of names in memory -/
structure Sg where
  l : Nm
  A : Option Addr
  c : Nat
def encSg (g : Sg) : List Value := [.slice g.A g.l.length g.c]
theorem encSg_len (g : Sg) : (encSg g).length = 1 := rfl
def sumSg (gs : List Sg) : Nat := (gs.map fun g => g.l.length).sum
def catSg (gs : List Sg) : Nm := gs.flatMap (·.l)
theorem sumSg_snoc (gs : List Sg) (g : Sg) : sumSg (gs ++ [g]) = sumSg gs + g.l.length := by simp [sumSg]
theorem catSg_snoc (gs : List Sg) (g : Sg) : catSg (gs ++ [g]) = catSg gs ++ g.l := by simp [catSg]
theorem catSg_len (gs : List Sg) : (catSg gs).length = sumSg gs := by
  induction gs with
  | nil => rfl
  | cons g gs ih => simp [catSg, sumSg] at *
set_option maxHeartbeats 1000000 in
theorem concat_c (X : Option Addr) (d : Nat) (gs : List Sg) (w : World) (hX : Rd w X (flat encSg gs)) (hg : ∀ g ∈ gs, Rd w g.A (flat encT g.l)) (hn : gs.length ≤ 1000) (hs : ∀ g ∈ gs, g.l.length ≤ 1000) :
    Fc Tryd.prog 53 [.slice X gs.length d] w fun v w' => ∃ Lv, Sl 9 1 v (catSg gs).length (flat encT (catSg gs)) Lv ∧ St [] w w' Lv := by
  refine fc_i TB_ok Tryd.func53 rfl (by kernel_rfl) ?_
  have hS := Sf.refl w
  have hb : ∀ i, i ≤ gs.length → sumSg (gs.take i) ≤ i * 1000 := by
    intro i
    induction i with
    | zero => intro _; simp [sumSg]
    | succ i ih =>
      intro hi
      have hlt : i < gs.length := by omega
      rw [List.take_succ_eq_append_getElem hlt, sumSg_snoc]
      have := ih (by omega)
      have h2 := hs gs[i] (List.getElem_mem hlt)
      omega
  repeat ((conv => whnf); first | (apply q_i; focus (intro w1 hS; (conv => whnf); first | exact ⟨rfl, rfl⟩)) | (refine nw_f hS ?_; intro b w1 hS) | (refine as_i hS ?_) | (refine as_i (hS.subs (List.nil_sublist _) (by repeat (first | exact List.Sublist.refl _ | apply List.Sublist.cons_cons | apply List.Sublist.cons))) ?_) | (refine as_i (hS.subs (List.Sublist.refl _) (by repeat (first | exact List.Sublist.refl _ | apply List.Sublist.cons_cons | apply List.Sublist.cons))) ?_) | (refine bar_f hS ?_) | (refine drawf TB_ok rfl (by kernel_rfl) (by kernel_rfl) hS (List.Sublist.refl _) (List.Sublist.refl _) ?_; intro w1 hS) | (refine br_t (by assumption) ?_) | (refine br_f (by assumption) ?_))
  refine loop_i TB_ok (fun i : Nat => [(11, .int .i64 i), (3, .int .i64 (sumSg (gs.take i)))]) (fun i w' => i ≤ gs.length ∧ Sf [] w w' [] []) (fun i => gs.length - i) 0 rfl ⟨Nat.zero_le _, hS⟩ ?_
  rintro i us w2 ⟨hi, hS⟩
  by_cases hlt : i < gs.length
  · have g1 : decide ((i : Int) < (gs.length : Int)) = true := decide_eq_true (by omega)
    obtain ⟨x, off, rfl⟩ := hX.form (flat_ne encSg_len (by omega) hlt)
    have hsum : sumSg (gs.take (i + 1)) = sumSg (gs.take i) + gs[i].l.length := by rw [List.take_succ_eq_append_getElem hlt, sumSg_snoc]
    have h1 := hb (i + 1) (by omega)
    have hw : IntKind.i64.wrap ((sumSg (gs.take i) : Int) + (gs[i].l.length : Int)) = (sumSg (gs.take (i + 1)) : Int) := by rw [wrap_i64 (by omega) (by omega), hsum]; omega
    have g2 : decide (IntKind.i64.wrap ((sumSg (gs.take i) : Int) + (gs[i].l.length : Int)) < 0) = false := decide_eq_false (by rw [hw]; omega)
    repeat ((conv => whnf); first | (apply q_i; focus (intro w1 hS; (conv => whnf); first | exact ⟨rfl, rfl⟩ | ((refine .mk ⟨by omega, by omega⟩ ?_; refine ix_i rfl ?_); (conv => whnf); exact ⟨rfl, rfl⟩) | ((refine ld_el encSg_len (hX.below hS.nil).at (i := i) (k := 0) hlt (by omega) rfl (v := .slice gs[i].A gs[i].l.length gs[i].c) rfl ?_); (conv => whnf); exact ⟨rfl, rfl⟩))) | (refine nw_f hS ?_; intro b w1 hS) | (refine as_i hS ?_) | (refine as_i (hS.subs (List.nil_sublist _) (by repeat (first | exact List.Sublist.refl _ | apply List.Sublist.cons_cons | apply List.Sublist.cons))) ?_) | (refine as_i (hS.subs (List.Sublist.refl _) (by repeat (first | exact List.Sublist.refl _ | apply List.Sublist.cons_cons | apply List.Sublist.cons))) ?_) | (refine bar_f hS ?_) | (refine .mk ⟨by omega, by omega⟩ ?_; refine ix_i rfl ?_) | (refine ld_el encSg_len (hX.below hS.nil).at (i := i) (k := 0) hlt (by omega) rfl (v := .slice gs[i].A gs[i].l.length gs[i].c) rfl ?_) | (refine drawf TB_ok rfl (by kernel_rfl) (by kernel_rfl) hS (List.Sublist.refl _) (List.Sublist.refl _) ?_; intro w1 hS) | (refine br_t (by assumption) ?_) | (refine br_f (by assumption) ?_))
    refine ⟨rfl, i + 1, ?_, ⟨by omega, hS⟩, by omega⟩
    rw [wi hlt (by omega), hw]
    rfl
  · have g1 : decide ((i : Int) < (gs.length : Int)) = false := decide_eq_false (by omega)
    have hge : i = gs.length := by omega
    subst hge
    have hbn := hb gs.length (Nat.le_refl _)
    rw [List.take_length] at hbn ⊢
    repeat ((conv => whnf); first | (apply q_i; focus (intro w1 hS; (conv => whnf); first | exact ⟨rfl, rfl⟩)) | (refine nw_f hS ?_; intro b w1 hS) | (refine as_i hS ?_) | (refine as_i (hS.subs (List.nil_sublist _) (by repeat (first | exact List.Sublist.refl _ | apply List.Sublist.cons_cons | apply List.Sublist.cons))) ?_) | (refine as_i (hS.subs (List.Sublist.refl _) (by repeat (first | exact List.Sublist.refl _ | apply List.Sublist.cons_cons | apply List.Sublist.cons))) ?_) | (refine bar_f hS ?_) | (refine drawf TB_ok rfl (by kernel_rfl) (by kernel_rfl) hS (List.Sublist.refl _) (List.Sublist.refl _) ?_; intro w1 hS) | (refine br_t (by assumption) ?_) | (refine br_f (by assumption) ?_))
    refine fc_m (sgrow_c (sumSg gs) (by omega) _) ?_
    rintro v w3 ⟨Lv, hv, hS'⟩
    replace hS := hS.callF hS'
    repeat ((conv => whnf); first | (apply q_i; focus (intro w1 hS; (conv => whnf); first | exact ⟨rfl, rfl⟩)) | (refine nw_f hS ?_; intro b w1 hS) | (refine as_i hS ?_) | (refine as_i (hS.subs (List.nil_sublist _) (by repeat (first | exact List.Sublist.refl _ | apply List.Sublist.cons_cons | apply List.Sublist.cons))) ?_) | (refine as_i (hS.subs (List.Sublist.refl _) (by repeat (first | exact List.Sublist.refl _ | apply List.Sublist.cons_cons | apply List.Sublist.cons))) ?_) | (refine bar_f hS ?_) | (refine drawf TB_ok rfl (by kernel_rfl) (by kernel_rfl) hS (List.Sublist.refl _) (List.Sublist.refl _) ?_; intro w1 hS) | (refine br_t (by assumption) ?_) | (refine br_f (by assumption) ?_))
    refine loop_i TB_ok (fun t : Nat × Value => [(27, .int .i64 t.1), (6, t.2)]) (fun t w' => t.1 ≤ gs.length ∧ ∃ Lo, Sl 9 1 t.2 (catSg (gs.take t.1)).length (flat encT (catSg (gs.take t.1))) Lo ∧ Sf [] w w' (Lo ++ []) []) (fun t => gs.length - t.1) (0, v) rfl ⟨Nat.zero_le _, Lv, hv, hS⟩ ?_
    rintro ⟨i, sl⟩ us4 w4 ⟨hi4, Lo, hvo, hS⟩
    simp only at hi4 hvo
    obtain ⟨A2, c2, rfl, hvo⟩ := hvo.open
    by_cases hlt : i < gs.length
    · have g1 : decide ((i : Int) < (gs.length : Int)) = true := decide_eq_true (by omega)
      obtain ⟨x, off, rfl⟩ := hX.form (flat_ne encSg_len (by omega) hlt)
      have hcat : catSg (gs.take (i + 1)) = catSg (gs.take i) ++ gs[i].l := by rw [List.take_succ_eq_append_getElem hlt, catSg_snoc]
      have hbi := hb i hi4
      have hl1 := catSg_len (gs.take i)
      have hl2 := hs gs[i] (List.getElem_mem hlt)
      repeat ((conv => whnf); first | (apply q_i; focus (intro w1 hS; (conv => whnf); first | exact ⟨rfl, rfl⟩ | ((refine .mk ⟨by omega, by omega⟩ ?_; refine ix_i rfl ?_); (conv => whnf); exact ⟨rfl, rfl⟩) | ((refine ld_el encSg_len (hX.below hS.nil).at (i := i) (k := 0) hlt (by omega) rfl (v := .slice gs[i].A gs[i].l.length gs[i].c) rfl ?_); (conv => whnf); exact ⟨rfl, rfl⟩))) | (refine nw_f hS ?_; intro b w1 hS) | (refine as_i hS ?_) | (refine as_i (hS.subs (List.nil_sublist _) (by repeat (first | exact List.Sublist.refl _ | apply List.Sublist.cons_cons | apply List.Sublist.cons))) ?_) | (refine as_i (hS.subs (List.Sublist.refl _) (by repeat (first | exact List.Sublist.refl _ | apply List.Sublist.cons_cons | apply List.Sublist.cons))) ?_) | (refine bar_f hS ?_) | (refine .mk ⟨by omega, by omega⟩ ?_; refine ix_i rfl ?_) | (refine ld_el encSg_len (hX.below hS.nil).at (i := i) (k := 0) hlt (by omega) rfl (v := .slice gs[i].A gs[i].l.length gs[i].c) rfl ?_) | (refine drawf TB_ok rfl (by kernel_rfl) (by kernel_rfl) hS (List.Sublist.refl _) (List.Sublist.refl _) ?_; intro w1 hS) | (refine br_t (by assumption) ?_) | (refine br_f (by assumption) ?_))
      refine app_f TB_ok elStr hS hvo ((hg gs[i] (List.getElem_mem hlt)).below hS.nil) (flatT_len _) (flatT_one _) (by omega) (by omega) ?_
      intro v' Lo' w6 hv' hS
      obtain ⟨A3, c3, rfl, hv'⟩ := hv'.open
      repeat ((conv => whnf); first | (apply q_i; focus (intro w1 hS; (conv => whnf); first | exact ⟨rfl, rfl⟩)) | (refine nw_f hS ?_; intro b w1 hS) | (refine as_i hS ?_) | (refine as_i (hS.subs (List.nil_sublist _) (by repeat (first | exact List.Sublist.refl _ | apply List.Sublist.cons_cons | apply List.Sublist.cons))) ?_) | (refine as_i (hS.subs (List.Sublist.refl _) (by repeat (first | exact List.Sublist.refl _ | apply List.Sublist.cons_cons | apply List.Sublist.cons))) ?_) | (refine bar_f hS ?_) | (refine drawf TB_ok rfl (by kernel_rfl) (by kernel_rfl) hS (List.Sublist.refl _) (List.Sublist.refl _) ?_; intro w1 hS) | (refine br_t (by assumption) ?_) | (refine br_f (by assumption) ?_))
      refine ⟨rfl, (i + 1, .slice A3 ((catSg (gs.take i)).length + gs[i].l.length) c3), ?_, ⟨by show i + 1 ≤ _; omega, Lo', ?_, hS⟩, by show gs.length - (i + 1) < _; omega⟩
      · rw [wi hlt (by omega)]
        rfl
      · show Sl _ _ _ (catSg (gs.take (i + 1))).length (flat encT (catSg (gs.take (i + 1)))) Lo'
        rw [hcat, List.length_append, flat_append]
        exact hv'
    · have g1 : decide ((i : Int) < (gs.length : Int)) = false := decide_eq_false (by omega)
      have hge : i = gs.length := by omega
      rw [hge] at g1
      rw [hge, List.take_length] at hvo
      rw [hge, List.take_length]
      repeat ((conv => whnf); first | (apply q_i; focus (intro w1 hS; (conv => whnf); first | exact ⟨rfl, rfl⟩)) | (refine nw_f hS ?_; intro b w1 hS) | (refine as_i hS ?_) | (refine as_i (hS.subs (List.nil_sublist _) (by repeat (first | exact List.Sublist.refl _ | apply List.Sublist.cons_cons | apply List.Sublist.cons))) ?_) | (refine as_i (hS.subs (List.Sublist.refl _) (by repeat (first | exact List.Sublist.refl _ | apply List.Sublist.cons_cons | apply List.Sublist.cons))) ?_) | (refine bar_f hS ?_) | (refine drawf TB_ok rfl (by kernel_rfl) (by kernel_rfl) hS (List.Sublist.refl _) (List.Sublist.refl _) ?_; intro w1 hS) | (refine br_t (by assumption) ?_) | (refine br_f (by assumption) ?_))
      exact ⟨Lo, hvo, by simpa using hS.fr (List.Sublist.refl _)⟩
theorem Rd.part {α : Type} {enc : α → List Value} {sz : Nat} {w : World} {A : Option Addr} {xs : List α} (henc : ∀ x, (enc x).length = sz) (hR : Rd w A (flat enc xs)) {m l : Nat} (hm : xs.length ≤ m) : Rd w (sliA A m l sz) (flat enc (xs.drop l)) := by
  by_cases hl : l < xs.length
  · have hml : m ≠ l := by omega
    rcases hR with h | ⟨b, off, rfl, h⟩
    · left
      have : flat enc xs = flat enc (xs.take l) ++ flat enc (xs.drop l) := by rw [← flat_append, List.take_append_drop]
      rw [this] at h
      exact (List.append_eq_nil_iff.1 h).2
    · right
      refine ⟨b, off + l * sz, by unfold sliA; rw [if_neg hml]; show some ((⟨b, off, none⟩ : Addr).add _) = _; rw [add_none], fun j v hj => ?_⟩
      have e : flat enc xs = flat enc (xs.take l) ++ flat enc (xs.drop l) := by rw [← flat_append, List.take_append_drop]
      have hlen : (flat enc (xs.take l)).length = l * sz := by rw [flat_length henc, List.length_take, Nat.min_eq_left (by omega)]
      have := h (l * sz + j) v (by rw [e, List.getElem?_append_right (by omega), hlen, show l * sz + j - l * sz = j from by omega]; exact hj)
      rw [← this, Nat.add_assoc]
  · left
    rw [List.drop_eq_nil_of_le (by omega)]
    rfl
def moveT (l a b : Nm) : Nm := if withinB a l = true then b ++ l.drop a.length else l
theorem move_c (A : Option Addr) (c : Nat) (l : Nm) (B : Option Addr) (d : Nat) (a : Nm) (D : Option Addr) (e : Nat) (bb : Nm) (w : World) (hR : Rd w A (flat encT l)) (hn : l.length ≤ 1000) (hc : l.length ≤ c) (hA : A = none → l = [] ∧ c = 0) (hQ : Rd w B (flat encT a)) (hm : a.length ≤ 1000) (hU : Rd w D (flat encT bb)) (hk : bb.length ≤ 1000) :
    Fc Tryd.prog 27 [.slice A l.length c, .slice B a.length d, .slice D bb.length e] w fun v w' => ∃ Lv, Sl 9 1 v (moveT l a bb).length (flat encT (moveT l a bb)) Lv ∧ St [] w w' Lv := by
  refine fc_i TB_ok Tryd.func27 rfl (by kernel_rfl) ?_
  have hS := Sf.refl w
  have hW := fun w h1 h2 => within_c B d a A c l w (h1 : Rd w B (flat encT a)) (by omega) (h2 : Rd w A (flat encT l)) hc
  unfold moveT
  cases hwi : withinB a l with
  | false =>
    rw [hwi] at hW
    repeat ((conv => whnf); first | (apply q_i; focus (intro w1 hS; (conv => whnf); first | exact ⟨rfl, rfl⟩ | ((refine fc_m (hW _ (hQ.below hS.nil) (hR.below hS.nil)) ?_; rintro v w3 ⟨rfl, hS'⟩; replace hS := hS.call0 hS'); (conv => whnf); exact ⟨rfl, rfl⟩))) | (refine nw_f hS ?_; intro b w1 hS) | (refine as_i hS ?_) | (refine as_i (hS.subs (List.nil_sublist _) (by repeat (first | exact List.Sublist.refl _ | apply List.Sublist.cons_cons | apply List.Sublist.cons))) ?_) | (refine as_i (hS.subs (List.Sublist.refl _) (by repeat (first | exact List.Sublist.refl _ | apply List.Sublist.cons_cons | apply List.Sublist.cons))) ?_) | (refine bar_f hS ?_) | (refine fc_m (hW _ (hQ.below hS.nil) (hR.below hS.nil)) ?_; rintro v w3 ⟨rfl, hS'⟩; replace hS := hS.call0 hS') | (refine drawf TB_ok rfl (by kernel_rfl) (by kernel_rfl) hS (List.Sublist.refl _) (List.Sublist.refl _) ?_; intro w1 hS) | (refine br_t (by assumption) ?_) | (refine br_f (by assumption) ?_))
    refine fc_m (clone_c A c l _ (hR.below hS.nil) (by omega) hA) ?_
    rintro v w2 ⟨Lv, hv, hS'⟩
    replace hS := hS.callF hS'
    repeat ((conv => whnf); first | (apply q_i; focus (intro w1 hS; (conv => whnf); first | exact ⟨rfl, rfl⟩)) | (refine nw_f hS ?_; intro b w1 hS) | (refine as_i hS ?_) | (refine as_i (hS.subs (List.nil_sublist _) (by repeat (first | exact List.Sublist.refl _ | apply List.Sublist.cons_cons | apply List.Sublist.cons))) ?_) | (refine as_i (hS.subs (List.Sublist.refl _) (by repeat (first | exact List.Sublist.refl _ | apply List.Sublist.cons_cons | apply List.Sublist.cons))) ?_) | (refine bar_f hS ?_) | (refine drawf TB_ok rfl (by kernel_rfl) (by kernel_rfl) hS (List.Sublist.refl _) (List.Sublist.refl _) ?_; intro w1 hS) | (refine br_t (by assumption) ?_) | (refine br_f (by assumption) ?_))
    exact ⟨Lv, hv, hS.fr (List.sublist_append_left _ _)⟩
  | true =>
    rw [hwi] at hW
    have hal : a.length ≤ l.length := by
      unfold withinB at hwi
      simp only [Bool.and_eq_true, decide_eq_true_eq] at hwi
      exact hwi.1
    rw [if_pos rfl]
    repeat ((conv => whnf); first | (apply q_i; focus (intro w1 hS; (conv => whnf); first | exact ⟨rfl, rfl⟩ | ((refine fc_m (hW _ (hQ.below hS.nil) (hR.below hS.nil)) ?_; rintro v w3 ⟨rfl, hS'⟩; replace hS := hS.call0 hS'); (conv => whnf); exact ⟨rfl, rfl⟩) | ((refine .mk ⟨by omega, by omega⟩ ?_); (conv => whnf); exact ⟨rfl, rfl⟩))) | (refine nw_f hS ?_; intro b w1 hS) | (refine as_i hS ?_) | (refine as_i (hS.subs (List.nil_sublist _) (by repeat (first | exact List.Sublist.refl _ | apply List.Sublist.cons_cons | apply List.Sublist.cons))) ?_) | (refine as_i (hS.subs (List.Sublist.refl _) (by repeat (first | exact List.Sublist.refl _ | apply List.Sublist.cons_cons | apply List.Sublist.cons))) ?_) | (refine bar_f hS ?_) | (refine fc_m (hW _ (hQ.below hS.nil) (hR.below hS.nil)) ?_; rintro v w3 ⟨rfl, hS'⟩; replace hS := hS.call0 hS') | (refine .mk ⟨by omega, by omega⟩ ?_) | (refine drawf TB_ok rfl (by kernel_rfl) (by kernel_rfl) hS (List.Sublist.refl _) (List.Sublist.refl _) ?_; intro w1 hS) | (refine br_t (by assumption) ?_) | (refine br_f (by assumption) ?_))
    have hp := hR.part encT_len (l := a.length) hc
    have hgs : flat encSg [⟨bb, D, e⟩, ⟨l.drop a.length, sliA A c a.length 1, c - a.length⟩] = [Value.slice D bb.length e, Value.slice (sliA A c a.length 1) (l.length - a.length) (c - a.length)] := by
      show [Value.slice D bb.length e, Value.slice (sliA A c a.length 1) (l.drop a.length).length (c - a.length)] = _
      rw [List.length_drop]
    have hX : ∀ (w1 : World) (x : Nat), Rd w1 (some ⟨x, 0, none⟩) [Value.slice D bb.length e, Value.slice (sliA A c a.length 1) (l.length - a.length) (c - a.length)] → St [] w w1 [] → Fc Tryd.prog 53 [.slice (some ⟨x, 0, none⟩) 2 2] w1 fun v w' => ∃ Lv, Sl 9 1 v (bb ++ l.drop a.length).length (flat encT (bb ++ l.drop a.length)) Lv ∧ St [] w1 w' Lv := fun w1 x h1 h2 => by
      have := concat_c (some ⟨x, 0, none⟩) 2 [⟨bb, D, e⟩, ⟨l.drop a.length, sliA A c a.length 1, c - a.length⟩] w1 (by rw [hgs]; exact h1) (fun g hg => by
        rcases List.mem_cons.1 hg with rfl | hg
        · exact hU.below h2
        · obtain rfl := List.mem_singleton.1 hg
          exact hp.below h2) (by show 2 ≤ 1000; decide) (fun g hg => by
        rcases List.mem_cons.1 hg with rfl | hg
        · exact hk
        · obtain rfl := List.mem_singleton.1 hg
          show (l.drop a.length).length ≤ 1000
          rw [List.length_drop]; omega)
      rw [show catSg [⟨bb, D, e⟩, ⟨l.drop a.length, sliA A c a.length 1, c - a.length⟩] = bb ++ l.drop a.length from by simp [catSg]] at this
      exact this
    refine fc_m (hX _ _ (hS.rd 0 rfl) hS.nil) ?_
    rintro v w2 ⟨Lv, hv, hS'⟩
    replace hS := hS.callF hS'
    repeat ((conv => whnf); first | (apply q_i; focus (intro w1 hS; (conv => whnf); first | exact ⟨rfl, rfl⟩ | ((refine ld_f hS 0 rfl rfl ?_); (conv => whnf); exact ⟨rfl, rfl⟩) | ((refine ldA_f hS 0 rfl rfl ?_); (conv => whnf); exact ⟨rfl, rfl⟩))) | (refine nw_f hS ?_; intro b w1 hS) | (refine as_i hS ?_) | (refine as_i (hS.subs (List.nil_sublist _) (by repeat (first | exact List.Sublist.refl _ | apply List.Sublist.cons_cons | apply List.Sublist.cons))) ?_) | (refine as_i (hS.subs (List.Sublist.refl _) (by repeat (first | exact List.Sublist.refl _ | apply List.Sublist.cons_cons | apply List.Sublist.cons))) ?_) | (refine bar_f hS ?_) | (refine ld_f hS 0 rfl rfl ?_) | (refine ldA_f hS 0 rfl rfl ?_) | (refine stN_f hS 0 rfl (Nat.le_of_ble_eq_true rfl) rfl rfl ?_; (conv => whnf); intro w1 hS) | (refine stM_f hS 0 rfl (Nat.le_of_ble_eq_true rfl) rfl ?_; (conv => whnf); intro w1 hS) | (refine drawf TB_ok rfl (by kernel_rfl) (by kernel_rfl) hS (List.Sublist.refl _) (List.Sublist.refl _) ?_; intro w1 hS) | (refine br_t (by assumption) ?_) | (refine br_f (by assumption) ?_))
    exact ⟨Lv, hv, hS.fr (List.sublist_append_left _ _)⟩
end Go.RV
