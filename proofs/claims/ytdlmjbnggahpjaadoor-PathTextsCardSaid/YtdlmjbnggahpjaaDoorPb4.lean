/- The laws of chapter 4, walked: Text, and PathNames. Conditions: none. -/
import Derived.Test.YtdlmjbnggahpjaaDoorPb1
set_option maxRecDepth 20000
set_option linter.unusedVariables false
set_option linter.unusedSimpArgs false
namespace Go.RV
open Go Go.Proofs Go.RowKit

theorem text1_c (x : List UInt8) (w : World) : Fc Tryd.prog 50 [.string (strY x)] w fun v w' => v = .bool (!nameB x) ∧ St [] w w' [] := by
  refine fc_i TB_ok Tryd.func50 rfl (by kernel_rfl) ?_
  have hS := Sf.refl w
  repeat ((conv => whnf); first | (apply q_i; focus (intro w1 hS; (conv => whnf); first | exact ⟨rfl, rfl⟩ | ((refine fc_m (pname_c x _) ?_; rintro v w3 ⟨rfl, hS'⟩; replace hS := hS.call0 hS'); (conv => whnf); exact ⟨rfl, rfl⟩))) | (refine nw_f hS ?_; intro b w1 hS) | (refine as_i hS ?_) | (refine as_i (hS.subs (List.nil_sublist _) (by repeat (first | exact List.Sublist.refl _ | apply List.Sublist.cons_cons | apply List.Sublist.cons))) ?_) | (refine as_i (hS.subs (List.Sublist.refl _) (by repeat (first | exact List.Sublist.refl _ | apply List.Sublist.cons_cons | apply List.Sublist.cons))) ?_) | (refine bar_f hS ?_) | (refine fc_m (pname_c x _) ?_; rintro v w3 ⟨rfl, hS'⟩; replace hS := hS.call0 hS') | (refine drawf TB_ok rfl (by kernel_rfl) (by kernel_rfl) hS (List.Sublist.refl _) (List.Sublist.refl _) ?_; intro w1 hS) | (refine br_t (by assumption) ?_) | (refine br_f (by assumption) ?_))
  exact ⟨rfl, hS.nil⟩
def badName (l : Nm) : Bool := l.any fun x => !nameB x
theorem ifT_c (A : Option Addr) (c : Nat) (l : Nm) (w : World) (hR : Rd w A (flat encT l)) (hn : l.length ≤ 4611686018427387904) :
    Fc Tryd.prog 69 [.slice A l.length c, .func (.func 50) #[] #[]] w fun v w' => (∃ n : Int, v = .int .i64 n ∧ decide (0 ≤ n) = badName l) ∧ St [] w w' [] := by
  refine fc_i TB_ok Tryd.func69 rfl (by kernel_rfl) ?_
  have hS := Sf.refl w
  repeat ((conv => whnf); first | (apply q_i; focus (intro w1 hS; (conv => whnf); first | exact ⟨rfl, rfl⟩)) | (refine nw_f hS ?_; intro b w1 hS) | (refine as_i hS ?_) | (refine as_i (hS.subs (List.nil_sublist _) (by repeat (first | exact List.Sublist.refl _ | apply List.Sublist.cons_cons | apply List.Sublist.cons))) ?_) | (refine as_i (hS.subs (List.Sublist.refl _) (by repeat (first | exact List.Sublist.refl _ | apply List.Sublist.cons_cons | apply List.Sublist.cons))) ?_) | (refine bar_f hS ?_) | (refine drawf TB_ok rfl (by kernel_rfl) (by kernel_rfl) hS (List.Sublist.refl _) (List.Sublist.refl _) ?_; intro w1 hS) | (refine br_t (by assumption) ?_) | (refine br_f (by assumption) ?_))
  refine loop_i TB_ok (fun i : Nat => [(8, .int .i64 i)]) (fun i w' => i ≤ l.length ∧ badName (l.take i) = false ∧ Sf [] w w' [] []) (fun i => l.length - i) 0 rfl ⟨Nat.zero_le _, rfl, hS⟩ ?_
  rintro i us w2 ⟨hi, hk, hS⟩
  by_cases hlt : i < l.length
  · have g1 : decide ((i : Int) < (l.length : Int)) = true := decide_eq_true (by omega)
    obtain ⟨x, off, rfl⟩ := hR.form (flat_ne encT_len (by omega) hlt)
    repeat ((conv => whnf); first | (apply q_i; focus (intro w1 hS; (conv => whnf); first | exact ⟨rfl, rfl⟩ | ((refine .mk ⟨by omega, by omega⟩ ?_; refine ix_i rfl ?_); (conv => whnf); exact ⟨rfl, rfl⟩) | ((refine ld_el encT_len (hR.below hS.nil).at (i := i) (k := 0) hlt (by omega) rfl (v := .string (strY l[i])) rfl ?_); (conv => whnf); exact ⟨rfl, rfl⟩))) | (refine nw_f hS ?_; intro b w1 hS) | (refine as_i hS ?_) | (refine as_i (hS.subs (List.nil_sublist _) (by repeat (first | exact List.Sublist.refl _ | apply List.Sublist.cons_cons | apply List.Sublist.cons))) ?_) | (refine as_i (hS.subs (List.Sublist.refl _) (by repeat (first | exact List.Sublist.refl _ | apply List.Sublist.cons_cons | apply List.Sublist.cons))) ?_) | (refine bar_f hS ?_) | (refine .mk ⟨by omega, by omega⟩ ?_; refine ix_i rfl ?_) | (refine ld_el encT_len (hR.below hS.nil).at (i := i) (k := 0) hlt (by omega) rfl (v := .string (strY l[i])) rfl ?_) | (refine drawf TB_ok rfl (by kernel_rfl) (by kernel_rfl) hS (List.Sublist.refl _) (List.Sublist.refl _) ?_; intro w1 hS) | (refine br_t (by assumption) ?_) | (refine br_f (by assumption) ?_))
    refine fc_m (text1_c l[i] _) ?_
    rintro v w3 ⟨rfl, hS'⟩
    replace hS := hS.call0 hS'
    cases hnb : nameB l[i] with
    | true =>
      repeat ((conv => whnf); first | (apply q_i; focus (intro w1 hS; (conv => whnf); first | exact ⟨rfl, rfl⟩)) | (refine nw_f hS ?_; intro b w1 hS) | (refine as_i hS ?_) | (refine as_i (hS.subs (List.nil_sublist _) (by repeat (first | exact List.Sublist.refl _ | apply List.Sublist.cons_cons | apply List.Sublist.cons))) ?_) | (refine as_i (hS.subs (List.Sublist.refl _) (by repeat (first | exact List.Sublist.refl _ | apply List.Sublist.cons_cons | apply List.Sublist.cons))) ?_) | (refine bar_f hS ?_) | (refine drawf TB_ok rfl (by kernel_rfl) (by kernel_rfl) hS (List.Sublist.refl _) (List.Sublist.refl _) ?_; intro w1 hS) | (refine br_t (by assumption) ?_) | (refine br_f (by assumption) ?_))
      refine ⟨rfl, i + 1, ?_, ⟨by omega, ?_, hS⟩, by omega⟩
      · rw [wi hlt (by omega)]
        rfl
      · rw [List.take_succ_eq_append_getElem hlt]
        unfold badName at hk ⊢
        rw [List.any_append, hk]
        simp [hnb]
    | false =>
      repeat ((conv => whnf); first | (apply q_i; focus (intro w1 hS; (conv => whnf); first | exact ⟨rfl, rfl⟩)) | (refine nw_f hS ?_; intro b w1 hS) | (refine as_i hS ?_) | (refine as_i (hS.subs (List.nil_sublist _) (by repeat (first | exact List.Sublist.refl _ | apply List.Sublist.cons_cons | apply List.Sublist.cons))) ?_) | (refine as_i (hS.subs (List.Sublist.refl _) (by repeat (first | exact List.Sublist.refl _ | apply List.Sublist.cons_cons | apply List.Sublist.cons))) ?_) | (refine bar_f hS ?_) | (refine drawf TB_ok rfl (by kernel_rfl) (by kernel_rfl) hS (List.Sublist.refl _) (List.Sublist.refl _) ?_; intro w1 hS) | (refine br_t (by assumption) ?_) | (refine br_f (by assumption) ?_))
      refine ⟨⟨_, rfl, ?_⟩, hS.nil⟩
      rw [decide_eq_true (by omega)]
      symm
      unfold badName
      rw [List.any_eq_true]
      exact ⟨l[i], List.getElem_mem hlt, by simp [hnb]⟩
  · have g1 : decide ((i : Int) < (l.length : Int)) = false := decide_eq_false (by omega)
    repeat ((conv => whnf); first | (apply q_i; focus (intro w1 hS; (conv => whnf); first | exact ⟨rfl, rfl⟩)) | (refine nw_f hS ?_; intro b w1 hS) | (refine as_i hS ?_) | (refine as_i (hS.subs (List.nil_sublist _) (by repeat (first | exact List.Sublist.refl _ | apply List.Sublist.cons_cons | apply List.Sublist.cons))) ?_) | (refine as_i (hS.subs (List.Sublist.refl _) (by repeat (first | exact List.Sublist.refl _ | apply List.Sublist.cons_cons | apply List.Sublist.cons))) ?_) | (refine bar_f hS ?_) | (refine drawf TB_ok rfl (by kernel_rfl) (by kernel_rfl) hS (List.Sublist.refl _) (List.Sublist.refl _) ?_; intro w1 hS) | (refine br_t (by assumption) ?_) | (refine br_f (by assumption) ?_))
    refine ⟨⟨_, rfl, ?_⟩, hS.nil⟩
    rw [List.take_of_length_le (by omega)] at hk
    rw [hk]
    rfl
theorem cfT_c (A : Option Addr) (c : Nat) (l : Nm) (w : World) (hR : Rd w A (flat encT l)) (hn : l.length ≤ 4611686018427387904) :
    Fc Tryd.prog 49 [.slice A l.length c, .func (.func 50) #[] #[]] w fun v w' => v = .bool (badName l) ∧ St [] w w' [] := by
  refine fc_i TB_ok Tryd.func49 rfl (by kernel_rfl) ?_
  have hS := Sf.refl w
  repeat ((conv => whnf); first | (apply q_i; focus (intro w1 hS; (conv => whnf); first | exact ⟨rfl, rfl⟩)) | (refine nw_f hS ?_; intro b w1 hS) | (refine as_i hS ?_) | (refine as_i (hS.subs (List.nil_sublist _) (by repeat (first | exact List.Sublist.refl _ | apply List.Sublist.cons_cons | apply List.Sublist.cons))) ?_) | (refine as_i (hS.subs (List.Sublist.refl _) (by repeat (first | exact List.Sublist.refl _ | apply List.Sublist.cons_cons | apply List.Sublist.cons))) ?_) | (refine bar_f hS ?_) | (refine drawf TB_ok rfl (by kernel_rfl) (by kernel_rfl) hS (List.Sublist.refl _) (List.Sublist.refl _) ?_; intro w1 hS) | (refine br_t (by assumption) ?_) | (refine br_f (by assumption) ?_))
  refine fc_m (ifT_c A c l _ (hR.below hS.nil) hn) ?_
  rintro v w1 ⟨⟨n, rfl, hb⟩, hS'⟩
  replace hS := hS.call0 hS'
  repeat ((conv => whnf); first | (apply q_i; focus (intro w1 hS; (conv => whnf); first | exact ⟨rfl, rfl⟩)) | (refine nw_f hS ?_; intro b w1 hS) | (refine as_i hS ?_) | (refine as_i (hS.subs (List.nil_sublist _) (by repeat (first | exact List.Sublist.refl _ | apply List.Sublist.cons_cons | apply List.Sublist.cons))) ?_) | (refine as_i (hS.subs (List.Sublist.refl _) (by repeat (first | exact List.Sublist.refl _ | apply List.Sublist.cons_cons | apply List.Sublist.cons))) ?_) | (refine bar_f hS ?_) | (refine drawf TB_ok rfl (by kernel_rfl) (by kernel_rfl) hS (List.Sublist.refl _) (List.Sublist.refl _) ?_; intro w1 hS) | (refine br_t (by assumption) ?_) | (refine br_f (by assumption) ?_))
  exact ⟨congrArg Value.bool hb, hS.nil⟩
def textT (l : Nm) : List UInt8 × Int := if badName l then ([], 4) else if 4 < l.length then ([], 3) else (47 :: Lib.join l [47], 0)
theorem name_len {x : List UInt8} (h : nameB x = true) : x.length ≤ 8 ∧ x ≠ [] ∧ bads x = false := by
  unfold nameB checkE at h
  by_cases h1 : (x.isEmpty || bads x) = true
  · rw [if_pos h1] at h; simp at h
  rw [if_neg h1] at h
  by_cases h2 : 8 < x.length
  · rw [if_pos h2] at h; simp at h
  simp only [Bool.or_eq_true, not_or, Bool.not_eq_true] at h1
  exact ⟨by omega, by intro e; subst e; simp at h1, h1.2⟩
theorem badName_cons (x : List UInt8) (l : Nm) : badName (x :: l) = (!nameB x || badName l) := rfl
theorem join_len (l : Nm) (h : badName l = false) : (Lib.join l [47]).length ≤ 9 * l.length := by
  induction l with
  | nil => simp [Lib.join]
  | cons x t ih =>
    rw [badName_cons, Bool.or_eq_false_iff] at h
    have h1 := name_len (x := x) (by simpa using h.1)
    have h2 := ih h.2
    cases t with
    | nil => simp [Lib.join]; omega
    | cons y t => simp only [Lib.join, List.length_append, List.length_cons] at h2 ⊢; simp; omega
theorem strY_app (a b : List UInt8) : strY (a ++ b) = strY a ++ strY b := by
  unfold strY
  apply ByteArray.ext
  simp
theorem text_c (A : Option Addr) (c : Nat) (l : Nm) (w : World) (hR : Rd w A (flat encT l)) (hn : l.length ≤ 1000000) (hc : l.length ≤ c) :
    Fc Tryd.prog 23 [.slice A l.length c] w fun v w' => v = .tuple #[.string (strY (textT l).1), .int .i64 (textT l).2] ∧ St [] w w' [] := by
  refine fc_i TB_ok Tryd.func23 rfl (by kernel_rfl) ?_
  have hS := Sf.refl w
  repeat ((conv => whnf); first | (apply q_i; focus (intro w1 hS; (conv => whnf); first | exact ⟨rfl, rfl⟩)) | (refine nw_f hS ?_; intro b w1 hS) | (refine as_i hS ?_) | (refine as_i (hS.subs (List.nil_sublist _) (by repeat (first | exact List.Sublist.refl _ | apply List.Sublist.cons_cons | apply List.Sublist.cons))) ?_) | (refine as_i (hS.subs (List.Sublist.refl _) (by repeat (first | exact List.Sublist.refl _ | apply List.Sublist.cons_cons | apply List.Sublist.cons))) ?_) | (refine bar_f hS ?_) | (refine drawf TB_ok rfl (by kernel_rfl) (by kernel_rfl) hS (List.Sublist.refl _) (List.Sublist.refl _) ?_; intro w1 hS) | (refine br_t (by assumption) ?_) | (refine br_f (by assumption) ?_))
  refine fc_m (cfT_c A c l _ (hR.below hS.nil) (by omega)) ?_
  rintro v w1 ⟨rfl, hS'⟩
  replace hS := hS.call0 hS'
  unfold textT
  cases hb : badName l with
  | true =>
    repeat ((conv => whnf); first | (apply q_i; focus (intro w1 hS; (conv => whnf); first | exact ⟨rfl, rfl⟩)) | (refine nw_f hS ?_; intro b w1 hS) | (refine as_i hS ?_) | (refine as_i (hS.subs (List.nil_sublist _) (by repeat (first | exact List.Sublist.refl _ | apply List.Sublist.cons_cons | apply List.Sublist.cons))) ?_) | (refine as_i (hS.subs (List.Sublist.refl _) (by repeat (first | exact List.Sublist.refl _ | apply List.Sublist.cons_cons | apply List.Sublist.cons))) ?_) | (refine bar_f hS ?_) | (refine drawf TB_ok rfl (by kernel_rfl) (by kernel_rfl) hS (List.Sublist.refl _) (List.Sublist.refl _) ?_; intro w1 hS) | (refine br_t (by assumption) ?_) | (refine br_f (by assumption) ?_))
    exact ⟨rfl, hS.nil⟩
  | false =>
    by_cases h4 : 4 < l.length
    · have g1 : decide (4 < (l.length : Int)) = true := decide_eq_true (by omega)
      rw [if_neg (by decide), if_pos h4]
      repeat ((conv => whnf); first | (apply q_i; focus (intro w1 hS; (conv => whnf); first | exact ⟨rfl, rfl⟩)) | (refine nw_f hS ?_; intro b w1 hS) | (refine as_i hS ?_) | (refine as_i (hS.subs (List.nil_sublist _) (by repeat (first | exact List.Sublist.refl _ | apply List.Sublist.cons_cons | apply List.Sublist.cons))) ?_) | (refine as_i (hS.subs (List.Sublist.refl _) (by repeat (first | exact List.Sublist.refl _ | apply List.Sublist.cons_cons | apply List.Sublist.cons))) ?_) | (refine bar_f hS ?_) | (refine drawf TB_ok rfl (by kernel_rfl) (by kernel_rfl) hS (List.Sublist.refl _) (List.Sublist.refl _) ?_; intro w1 hS) | (refine br_t (by assumption) ?_) | (refine br_f (by assumption) ?_))
      exact ⟨rfl, hS.nil⟩
    · have g1 : decide (4 < (l.length : Int)) = false := decide_eq_false (by omega)
      rw [if_neg (by decide), if_neg h4]
      have hj := join_len l hb
      have g2 : (⟨#[47]⟩ : ByteArray).size + (strY (Lib.join l [47])).size ≤ 9223372036854775807 := by rw [strY_size]; show 1 + _ ≤ _; omega
      have e2 : (⟨#[47]⟩ : ByteArray) ++ strY (Lib.join l [47]) = strY (47 :: Lib.join l [47]) := strY_append [47] _
      repeat ((conv => whnf); first | (apply q_i; focus (intro w1 hS; (conv => whnf); first | exact ⟨rfl, rfl⟩ | ((refine fc_m (join_c l [47] A c hc _ (hR.below hS.nil) (by omega) (by omega)) ?_; rintro v w3 ⟨rfl, hS'⟩; replace hS := hS.call0 hS'); (conv => whnf); exact ⟨rfl, rfl⟩) | ((refine ⟨g2, ?_⟩); (conv => whnf); exact ⟨rfl, rfl⟩))) | (refine nw_f hS ?_; intro b w1 hS) | (refine as_i hS ?_) | (refine as_i (hS.subs (List.nil_sublist _) (by repeat (first | exact List.Sublist.refl _ | apply List.Sublist.cons_cons | apply List.Sublist.cons))) ?_) | (refine as_i (hS.subs (List.Sublist.refl _) (by repeat (first | exact List.Sublist.refl _ | apply List.Sublist.cons_cons | apply List.Sublist.cons))) ?_) | (refine bar_f hS ?_) | (refine fc_m (join_c l [47] A c hc _ (hR.below hS.nil) (by omega) (by omega)) ?_; rintro v w3 ⟨rfl, hS'⟩; replace hS := hS.call0 hS') | (refine ⟨g2, ?_⟩) | (refine drawf TB_ok rfl (by kernel_rfl) (by kernel_rfl) hS (List.Sublist.refl _) (List.Sublist.refl _) ?_; intro w1 hS) | (refine br_t (by assumption) ?_) | (refine br_f (by assumption) ?_))
      exact ⟨by rw [e2], hS.nil⟩
theorem join_snoc (x : List UInt8) (sep : List UInt8) : ∀ (l : Nm), l ≠ [] → Lib.join (l ++ [x]) sep = Lib.join l sep ++ sep ++ x
  | [], h => absurd rfl h
  | [y], _ => by simp [Lib.join]
  | y :: z :: t, _ => by
    have := join_snoc x sep (z :: t) (by simp)
    simp only [List.cons_append, Lib.join, List.intercalate_cons_cons] at this ⊢
    rw [this]
    simp
theorem few4x_c (A : Option Addr) (c : Nat) (l : Nm) (w : World) (hR : Rd w A (flat encT l)) (hn : l.length ≤ 9223372036854775807) :
    Fc Tryd.prog 22 [.slice A l.length c] w fun v w' => (∃ b, v = .bool b ∧ (b = true → l.length ≤ 20 ∧ ∀ x ∈ l, x.length ≤ 100)) ∧ St [] w w' [] := by
  refine fc_i TB_ok Tryd.func22 rfl (by kernel_rfl) ?_
  have hS := Sf.refl w
  repeat ((conv => whnf); first | (apply q_i; focus (intro w1 hS; (conv => whnf); first | exact ⟨rfl, rfl⟩)) | (refine nw_f hS ?_; intro b w1 hS) | (refine as_i hS ?_) | (refine as_i (hS.subs (List.nil_sublist _) (by repeat (first | exact List.Sublist.refl _ | apply List.Sublist.cons_cons | apply List.Sublist.cons))) ?_) | (refine as_i (hS.subs (List.Sublist.refl _) (by repeat (first | exact List.Sublist.refl _ | apply List.Sublist.cons_cons | apply List.Sublist.cons))) ?_) | (refine bar_f hS ?_) | (refine drawf TB_ok rfl (by kernel_rfl) (by kernel_rfl) hS (List.Sublist.refl _) (List.Sublist.refl _) ?_; intro w1 hS) | (refine br_t (by assumption) ?_) | (refine br_f (by assumption) ?_))
  refine loop_i TB_ok (fun i : Nat => [(3, .int .i64 i)]) (fun i w' => i ≤ l.length ∧ i ≤ 30 ∧ (∀ j (h : j < l.length), j < i → l[j].length ≤ 100) ∧ Sf [] w w' [] []) (fun i => l.length - i) 0 rfl ⟨Nat.zero_le _, Nat.zero_le _, fun j h h2 => by omega, hS⟩ ?_
  rintro i us w2 ⟨hi, hi2, hj, hS⟩
  by_cases hlt : i < l.length
  · have h1 : decide ((i : Int) < (l.length : Int)) = true := decide_eq_true (by omega)
    by_cases h40 : i < 30
    · have h2 : decide ((i : Int) < 30) = true := decide_eq_true (by omega)
      obtain ⟨x, off, rfl⟩ := hR.form (flat_ne encT_len (by omega) hlt)
      have hz := strY_size l[i]
      repeat ((conv => whnf); first | (apply q_i; focus (intro w1 hS; (conv => whnf); first | exact ⟨rfl, rfl⟩ | ((refine .mk ⟨by omega, by omega⟩ ?_; refine ix_i rfl ?_); (conv => whnf); exact ⟨rfl, rfl⟩) | ((refine ld_el encT_len (hR.below hS.nil).at (i := i) (k := 0) hlt (by omega) rfl (v := .string (strY l[i])) rfl ?_); (conv => whnf); exact ⟨rfl, rfl⟩))) | (refine nw_f hS ?_; intro b w1 hS) | (refine as_i hS ?_) | (refine as_i (hS.subs (List.nil_sublist _) (by repeat (first | exact List.Sublist.refl _ | apply List.Sublist.cons_cons | apply List.Sublist.cons))) ?_) | (refine as_i (hS.subs (List.Sublist.refl _) (by repeat (first | exact List.Sublist.refl _ | apply List.Sublist.cons_cons | apply List.Sublist.cons))) ?_) | (refine bar_f hS ?_) | (refine .mk ⟨by omega, by omega⟩ ?_; refine ix_i rfl ?_) | (refine ld_el encT_len (hR.below hS.nil).at (i := i) (k := 0) hlt (by omega) rfl (v := .string (strY l[i])) rfl ?_) | (refine drawf TB_ok rfl (by kernel_rfl) (by kernel_rfl) hS (List.Sublist.refl _) (List.Sublist.refl _) ?_; intro w1 hS) | (refine br_t (by assumption) ?_) | (refine br_f (by assumption) ?_))
      refine br_i (fun h3 => ?_) (fun h3 => ?_)
      · repeat ((conv => whnf); first | (apply q_i; focus (intro w1 hS; (conv => whnf); first | exact ⟨rfl, rfl⟩)) | (refine nw_f hS ?_; intro b w1 hS) | (refine as_i hS ?_) | (refine as_i (hS.subs (List.nil_sublist _) (by repeat (first | exact List.Sublist.refl _ | apply List.Sublist.cons_cons | apply List.Sublist.cons))) ?_) | (refine as_i (hS.subs (List.Sublist.refl _) (by repeat (first | exact List.Sublist.refl _ | apply List.Sublist.cons_cons | apply List.Sublist.cons))) ?_) | (refine bar_f hS ?_) | (refine drawf TB_ok rfl (by kernel_rfl) (by kernel_rfl) hS (List.Sublist.refl _) (List.Sublist.refl _) ?_; intro w1 hS) | (refine br_t (by assumption) ?_) | (refine br_f (by assumption) ?_))
        exact ⟨⟨_, rfl, fun h => by cases h⟩, hS.nil⟩
      · have h3' : l[i].length ≤ 100 := by have := of_decide_eq_false h3; omega
        repeat ((conv => whnf); first | (apply q_i; focus (intro w1 hS; (conv => whnf); first | exact ⟨rfl, rfl⟩)) | (refine nw_f hS ?_; intro b w1 hS) | (refine as_i hS ?_) | (refine as_i (hS.subs (List.nil_sublist _) (by repeat (first | exact List.Sublist.refl _ | apply List.Sublist.cons_cons | apply List.Sublist.cons))) ?_) | (refine as_i (hS.subs (List.Sublist.refl _) (by repeat (first | exact List.Sublist.refl _ | apply List.Sublist.cons_cons | apply List.Sublist.cons))) ?_) | (refine bar_f hS ?_) | (refine drawf TB_ok rfl (by kernel_rfl) (by kernel_rfl) hS (List.Sublist.refl _) (List.Sublist.refl _) ?_; intro w1 hS) | (refine br_t (by assumption) ?_) | (refine br_f (by assumption) ?_))
        refine ⟨rfl, i + 1, ?_, ⟨by omega, by omega, fun j h h2 => ?_, hS⟩, by omega⟩
        · rw [wi h40 (by omega)]
          rfl
        · by_cases e : j = i
          · subst e; exact h3'
          · exact hj j h (by omega)
    · have h2 : decide ((i : Int) < 30) = false := decide_eq_false (by omega)
      repeat ((conv => whnf); first | (apply q_i; focus (intro w1 hS; (conv => whnf); first | exact ⟨rfl, rfl⟩)) | (refine nw_f hS ?_; intro b w1 hS) | (refine as_i hS ?_) | (refine as_i (hS.subs (List.nil_sublist _) (by repeat (first | exact List.Sublist.refl _ | apply List.Sublist.cons_cons | apply List.Sublist.cons))) ?_) | (refine as_i (hS.subs (List.Sublist.refl _) (by repeat (first | exact List.Sublist.refl _ | apply List.Sublist.cons_cons | apply List.Sublist.cons))) ?_) | (refine bar_f hS ?_) | (refine drawf TB_ok rfl (by kernel_rfl) (by kernel_rfl) hS (List.Sublist.refl _) (List.Sublist.refl _) ?_; intro w1 hS) | (refine br_t (by assumption) ?_) | (refine br_f (by assumption) ?_))
      exact ⟨⟨_, rfl, fun h => by have := of_decide_eq_true h; omega⟩, hS.nil⟩
  · have h1 : decide ((i : Int) < (l.length : Int)) = false := decide_eq_false (by omega)
    repeat ((conv => whnf); first | (apply q_i; focus (intro w1 hS; (conv => whnf); first | exact ⟨rfl, rfl⟩)) | (refine nw_f hS ?_; intro b w1 hS) | (refine as_i hS ?_) | (refine as_i (hS.subs (List.nil_sublist _) (by repeat (first | exact List.Sublist.refl _ | apply List.Sublist.cons_cons | apply List.Sublist.cons))) ?_) | (refine as_i (hS.subs (List.Sublist.refl _) (by repeat (first | exact List.Sublist.refl _ | apply List.Sublist.cons_cons | apply List.Sublist.cons))) ?_) | (refine bar_f hS ?_) | (refine drawf TB_ok rfl (by kernel_rfl) (by kernel_rfl) hS (List.Sublist.refl _) (List.Sublist.refl _) ?_; intro w1 hS) | (refine br_t (by assumption) ?_) | (refine br_f (by assumption) ?_))
    refine ⟨⟨_, rfl, fun h => ⟨by have := of_decide_eq_true h; omega, fun x hx => ?_⟩⟩, hS.nil⟩
    obtain ⟨j, hjl, rfl⟩ := List.getElem_of_mem hx
    exact hj j hjl (by omega)
theorem rtext_c (A : Option Addr) (c : Nat) (l : Nm) (w : World) (hR : Rd w A (flat encT l)) (hn : l.length ≤ 1000000) (hx : ∀ x ∈ l, x.length ≤ 100) :
    Fc Tryd.prog 24 [.slice A l.length c] w fun v w' => v = .tuple #[.string (strY (textT l).1), .int .i64 (textT l).2] ∧ St [] w w' [] := by
  refine fc_i TB_ok Tryd.func24 rfl (by kernel_rfl) ?_
  have hS := Sf.refl w
  repeat ((conv => whnf); first | (apply q_i; focus (intro w1 hS; (conv => whnf); first | exact ⟨rfl, rfl⟩)) | (refine nw_f hS ?_; intro b w1 hS) | (refine as_i hS ?_) | (refine as_i (hS.subs (List.nil_sublist _) (by repeat (first | exact List.Sublist.refl _ | apply List.Sublist.cons_cons | apply List.Sublist.cons))) ?_) | (refine as_i (hS.subs (List.Sublist.refl _) (by repeat (first | exact List.Sublist.refl _ | apply List.Sublist.cons_cons | apply List.Sublist.cons))) ?_) | (refine bar_f hS ?_) | (refine drawf TB_ok rfl (by kernel_rfl) (by kernel_rfl) hS (List.Sublist.refl _) (List.Sublist.refl _) ?_; intro w1 hS) | (refine br_t (by assumption) ?_) | (refine br_f (by assumption) ?_))
  refine loop_i TB_ok (fun i : Nat => [(4, .int .i64 i)]) (fun i w' => i ≤ l.length ∧ badName (l.take i) = false ∧ Sf [] w w' [] []) (fun i => l.length - i) 0 rfl ⟨Nat.zero_le _, rfl, hS⟩ ?_
  rintro i us w2 ⟨hi, hk, hS⟩
  by_cases hlt : i < l.length
  · have g1 : decide ((i : Int) < (l.length : Int)) = true := decide_eq_true (by omega)
    obtain ⟨x, off, rfl⟩ := hR.form (flat_ne encT_len (by omega) hlt)
    repeat ((conv => whnf); first | (apply q_i; focus (intro w1 hS; (conv => whnf); first | exact ⟨rfl, rfl⟩ | ((refine .mk ⟨by omega, by omega⟩ ?_; refine ix_i rfl ?_); (conv => whnf); exact ⟨rfl, rfl⟩) | ((refine ld_el encT_len (hR.below hS.nil).at (i := i) (k := 0) hlt (by omega) rfl (v := .string (strY l[i])) rfl ?_); (conv => whnf); exact ⟨rfl, rfl⟩))) | (refine nw_f hS ?_; intro b w1 hS) | (refine as_i hS ?_) | (refine as_i (hS.subs (List.nil_sublist _) (by repeat (first | exact List.Sublist.refl _ | apply List.Sublist.cons_cons | apply List.Sublist.cons))) ?_) | (refine as_i (hS.subs (List.Sublist.refl _) (by repeat (first | exact List.Sublist.refl _ | apply List.Sublist.cons_cons | apply List.Sublist.cons))) ?_) | (refine bar_f hS ?_) | (refine .mk ⟨by omega, by omega⟩ ?_; refine ix_i rfl ?_) | (refine ld_el encT_len (hR.below hS.nil).at (i := i) (k := 0) hlt (by omega) rfl (v := .string (strY l[i])) rfl ?_) | (refine drawf TB_ok rfl (by kernel_rfl) (by kernel_rfl) hS (List.Sublist.refl _) (List.Sublist.refl _) ?_; intro w1 hS) | (refine br_t (by assumption) ?_) | (refine br_f (by assumption) ?_))
    have hlen : l[i].length ≤ 4611686018427387904 := by have := hx l[i] (List.getElem_mem hlt); omega
    refine fc_m (rcheck_c l[i] hlen _) ?_
    rintro v w3 ⟨rfl, hS'⟩
    replace hS := hS.call0 hS'
    cases hnb : nameB l[i] with
    | true =>
      have hz : (checkE l[i] != 0) = false := by unfold nameB at hnb; simpa using hnb
      repeat ((conv => whnf); first | (apply q_i; focus (intro w1 hS; (conv => whnf); first | exact ⟨rfl, rfl⟩)) | (refine nw_f hS ?_; intro b w1 hS) | (refine as_i hS ?_) | (refine as_i (hS.subs (List.nil_sublist _) (by repeat (first | exact List.Sublist.refl _ | apply List.Sublist.cons_cons | apply List.Sublist.cons))) ?_) | (refine as_i (hS.subs (List.Sublist.refl _) (by repeat (first | exact List.Sublist.refl _ | apply List.Sublist.cons_cons | apply List.Sublist.cons))) ?_) | (refine bar_f hS ?_) | (refine drawf TB_ok rfl (by kernel_rfl) (by kernel_rfl) hS (List.Sublist.refl _) (List.Sublist.refl _) ?_; intro w1 hS) | (refine br_t (by assumption) ?_) | (refine br_f (by assumption) ?_))
      refine ⟨rfl, i + 1, ?_, ⟨by omega, ?_, hS⟩, by omega⟩
      · rw [wi hlt (by omega)]
        rfl
      · rw [List.take_succ_eq_append_getElem hlt]
        unfold badName at hk ⊢
        rw [List.any_append, hk]
        simp [hnb]
    | false =>
      have hz : (checkE l[i] != 0) = true := by unfold nameB at hnb; simpa using hnb
      repeat ((conv => whnf); first | (apply q_i; focus (intro w1 hS; (conv => whnf); first | exact ⟨rfl, rfl⟩)) | (refine nw_f hS ?_; intro b w1 hS) | (refine as_i hS ?_) | (refine as_i (hS.subs (List.nil_sublist _) (by repeat (first | exact List.Sublist.refl _ | apply List.Sublist.cons_cons | apply List.Sublist.cons))) ?_) | (refine as_i (hS.subs (List.Sublist.refl _) (by repeat (first | exact List.Sublist.refl _ | apply List.Sublist.cons_cons | apply List.Sublist.cons))) ?_) | (refine bar_f hS ?_) | (refine drawf TB_ok rfl (by kernel_rfl) (by kernel_rfl) hS (List.Sublist.refl _) (List.Sublist.refl _) ?_; intro w1 hS) | (refine br_t (by assumption) ?_) | (refine br_f (by assumption) ?_))
      have hbn : badName l = true := by
        unfold badName
        rw [List.any_eq_true]
        exact ⟨l[i], List.getElem_mem hlt, by simp [hnb]⟩
      unfold textT
      rw [if_pos hbn]
      exact ⟨rfl, hS.nil⟩
  · have g1 : decide ((i : Int) < (l.length : Int)) = false := decide_eq_false (by omega)
    rw [List.take_of_length_le (by omega)] at hk
    unfold textT
    rw [hk, if_neg (by decide)]
    by_cases h4 : 4 < l.length
    · have g2 : decide (4 < (l.length : Int)) = true := decide_eq_true (by omega)
      rw [if_pos h4]
      repeat ((conv => whnf); first | (apply q_i; focus (intro w1 hS; (conv => whnf); first | exact ⟨rfl, rfl⟩)) | (refine nw_f hS ?_; intro b w1 hS) | (refine as_i hS ?_) | (refine as_i (hS.subs (List.nil_sublist _) (by repeat (first | exact List.Sublist.refl _ | apply List.Sublist.cons_cons | apply List.Sublist.cons))) ?_) | (refine as_i (hS.subs (List.Sublist.refl _) (by repeat (first | exact List.Sublist.refl _ | apply List.Sublist.cons_cons | apply List.Sublist.cons))) ?_) | (refine bar_f hS ?_) | (refine drawf TB_ok rfl (by kernel_rfl) (by kernel_rfl) hS (List.Sublist.refl _) (List.Sublist.refl _) ?_; intro w1 hS) | (refine br_t (by assumption) ?_) | (refine br_f (by assumption) ?_))
      exact ⟨rfl, hS.nil⟩
    have g2 : decide (4 < (l.length : Int)) = false := decide_eq_false (by omega)
    rw [if_neg h4]
    repeat ((conv => whnf); first | (apply q_i; focus (intro w1 hS; (conv => whnf); first | exact ⟨rfl, rfl⟩)) | (refine nw_f hS ?_; intro b w1 hS) | (refine as_i hS ?_) | (refine as_i (hS.subs (List.nil_sublist _) (by repeat (first | exact List.Sublist.refl _ | apply List.Sublist.cons_cons | apply List.Sublist.cons))) ?_) | (refine as_i (hS.subs (List.Sublist.refl _) (by repeat (first | exact List.Sublist.refl _ | apply List.Sublist.cons_cons | apply List.Sublist.cons))) ?_) | (refine bar_f hS ?_) | (refine drawf TB_ok rfl (by kernel_rfl) (by kernel_rfl) hS (List.Sublist.refl _) (List.Sublist.refl _) ?_; intro w1 hS) | (refine br_t (by assumption) ?_) | (refine br_f (by assumption) ?_))
    refine loop_i TB_ok (fun j : Nat => [(5, .string (strY (47 :: Lib.join (l.take j) [47]))), (6, .int .i64 j)]) (fun j w' => j ≤ l.length ∧ Sf [] w w' [] []) (fun j => l.length - j) 0 rfl ⟨Nat.zero_le _, hS⟩ ?_
    rintro j us w3 ⟨hj, hS⟩
    by_cases hlt2 : j < l.length
    · have g3 : decide ((j : Int) < (l.length : Int)) = true := decide_eq_true (by omega)
      obtain ⟨x, off, rfl⟩ := hR.form (flat_ne encT_len (by omega) hlt2)
      have hbt : badName (l.take j) = false := by
        unfold badName at hk ⊢
        rw [List.any_eq_false] at hk ⊢
        exact fun y hy => hk y (List.mem_of_mem_take hy)
      have hjl := join_len (l.take j) hbt
      have htl : (l.take j).length ≤ 4 := by rw [List.length_take]; omega
      have hnl := name_len (x := l[j]) (by
        unfold badName at hk
        rw [List.any_eq_false] at hk
        simpa using hk l[j] (List.getElem_mem hlt2))
      have ht2 : Lib.join (l.take (j + 1)) [47] = if j = 0 then l[j] else Lib.join (l.take j) [47] ++ [47] ++ l[j] := by
        rw [List.take_succ_eq_append_getElem hlt2]
        by_cases h0 : j = 0
        · subst h0; simp [Lib.join]
        · rw [if_neg h0, join_snoc _ _ _ (by intro e; have := congrArg List.length e; rw [List.length_take] at this; simp only [List.length_nil] at this; omega)]
      have z1 := strY_size (47 :: Lib.join (l.take j) [47])
      have z2 := strY_size l[j]
      rw [List.length_cons] at z1
      by_cases h0 : j = 0
      · have g4 : decide ((0 : Int) < (j : Int)) = false := decide_eq_false (by omega)
        rw [if_pos h0] at ht2
        have c1 : (strY (47 :: Lib.join (l.take j) [47])).size + (strY l[j]).size ≤ 9223372036854775807 := by omega
        have e1 : strY (47 :: Lib.join (l.take j) [47]) ++ strY l[j] = strY (47 :: Lib.join (l.take (j + 1)) [47]) := by
          rw [strY_append, ht2]
          subst h0
          simp [Lib.join]
        repeat ((conv => whnf); first | (apply q_i; focus (intro w1 hS; (conv => whnf); first | exact ⟨rfl, rfl⟩ | ((refine .mk ⟨by omega, by omega⟩ ?_; refine ix_i rfl ?_); (conv => whnf); exact ⟨rfl, rfl⟩) | ((refine ld_el encT_len (hR.below hS.nil).at (i := j) (k := 0) hlt2 (by omega) rfl (v := .string (strY l[j])) rfl ?_); (conv => whnf); exact ⟨rfl, rfl⟩) | ((refine ⟨c1, ?_⟩); (conv => whnf); exact ⟨rfl, rfl⟩))) | (refine nw_f hS ?_; intro b w1 hS) | (refine as_i hS ?_) | (refine as_i (hS.subs (List.nil_sublist _) (by repeat (first | exact List.Sublist.refl _ | apply List.Sublist.cons_cons | apply List.Sublist.cons))) ?_) | (refine as_i (hS.subs (List.Sublist.refl _) (by repeat (first | exact List.Sublist.refl _ | apply List.Sublist.cons_cons | apply List.Sublist.cons))) ?_) | (refine bar_f hS ?_) | (refine .mk ⟨by omega, by omega⟩ ?_; refine ix_i rfl ?_) | (refine ld_el encT_len (hR.below hS.nil).at (i := j) (k := 0) hlt2 (by omega) rfl (v := .string (strY l[j])) rfl ?_) | (refine ⟨c1, ?_⟩) | (refine drawf TB_ok rfl (by kernel_rfl) (by kernel_rfl) hS (List.Sublist.refl _) (List.Sublist.refl _) ?_; intro w1 hS) | (refine br_t (by assumption) ?_) | (refine br_f (by assumption) ?_))
        refine ⟨rfl, j + 1, ?_, ⟨by omega, hS⟩, by omega⟩
        rw [wi hlt2 (by omega), ← e1]
        rfl
      · have g4 : decide ((0 : Int) < (j : Int)) = true := decide_eq_true (by omega)
        rw [if_neg h0] at ht2
        have c0 : (strY (47 :: Lib.join (l.take j) [47])).size + (⟨#[47]⟩ : ByteArray).size ≤ 9223372036854775807 := by show _ + 1 ≤ _; omega
        have e0 : strY (47 :: Lib.join (l.take j) [47]) ++ (⟨#[47]⟩ : ByteArray) = strY (47 :: Lib.join (l.take j) [47] ++ [47]) := strY_append _ [47]
        have z3 := strY_size (47 :: Lib.join (l.take j) [47] ++ [47])
        have c1 : (strY (47 :: Lib.join (l.take j) [47]) ++ (⟨#[47]⟩ : ByteArray)).size + (strY l[j]).size ≤ 9223372036854775807 := by rw [e0, z3, z2]; simp; omega
        have e1 : strY (47 :: Lib.join (l.take j) [47]) ++ (⟨#[47]⟩ : ByteArray) ++ strY l[j] = strY (47 :: Lib.join (l.take (j + 1)) [47]) := by
          rw [e0, strY_append, ht2]
          simp
        repeat ((conv => whnf); first | (apply q_i; focus (intro w1 hS; (conv => whnf); first | exact ⟨rfl, rfl⟩ | ((refine .mk ⟨by omega, by omega⟩ ?_; refine ix_i rfl ?_); (conv => whnf); exact ⟨rfl, rfl⟩) | ((refine ld_el encT_len (hR.below hS.nil).at (i := j) (k := 0) hlt2 (by omega) rfl (v := .string (strY l[j])) rfl ?_); (conv => whnf); exact ⟨rfl, rfl⟩) | ((refine ⟨c0, ?_⟩); (conv => whnf); exact ⟨rfl, rfl⟩) | ((refine ⟨c1, ?_⟩); (conv => whnf); exact ⟨rfl, rfl⟩))) | (refine nw_f hS ?_; intro b w1 hS) | (refine as_i hS ?_) | (refine as_i (hS.subs (List.nil_sublist _) (by repeat (first | exact List.Sublist.refl _ | apply List.Sublist.cons_cons | apply List.Sublist.cons))) ?_) | (refine as_i (hS.subs (List.Sublist.refl _) (by repeat (first | exact List.Sublist.refl _ | apply List.Sublist.cons_cons | apply List.Sublist.cons))) ?_) | (refine bar_f hS ?_) | (refine .mk ⟨by omega, by omega⟩ ?_; refine ix_i rfl ?_) | (refine ld_el encT_len (hR.below hS.nil).at (i := j) (k := 0) hlt2 (by omega) rfl (v := .string (strY l[j])) rfl ?_) | (refine ⟨c0, ?_⟩) | (refine ⟨c1, ?_⟩) | (refine drawf TB_ok rfl (by kernel_rfl) (by kernel_rfl) hS (List.Sublist.refl _) (List.Sublist.refl _) ?_; intro w1 hS) | (refine br_t (by assumption) ?_) | (refine br_f (by assumption) ?_))
        refine ⟨rfl, j + 1, ?_, ⟨by omega, hS⟩, by omega⟩
        rw [wi hlt2 (by omega), ← e1]
        rfl
    · have g3 : decide ((j : Int) < (l.length : Int)) = false := decide_eq_false (by omega)
      rw [List.take_of_length_le (by omega)]
      repeat ((conv => whnf); first | (apply q_i; focus (intro w1 hS; (conv => whnf); first | exact ⟨rfl, rfl⟩)) | (refine nw_f hS ?_; intro b w1 hS) | (refine as_i hS ?_) | (refine as_i (hS.subs (List.nil_sublist _) (by repeat (first | exact List.Sublist.refl _ | apply List.Sublist.cons_cons | apply List.Sublist.cons))) ?_) | (refine as_i (hS.subs (List.Sublist.refl _) (by repeat (first | exact List.Sublist.refl _ | apply List.Sublist.cons_cons | apply List.Sublist.cons))) ?_) | (refine bar_f hS ?_) | (refine drawf TB_ok rfl (by kernel_rfl) (by kernel_rfl) hS (List.Sublist.refl _) (List.Sublist.refl _) ?_; intro w1 hS) | (refine br_t (by assumption) ?_) | (refine br_f (by assumption) ?_))
      exact ⟨rfl, hS.nil⟩
set_option maxHeartbeats 2000000 in
theorem pathNames_c (A : Option Addr) (c : Nat) (l : Nm) (name : List UInt8) (r n : Int) (w : World) (he : Errs w) (ht : Tab10 w) (hR : Rd w A (flat encT l)) (hn : l.length ≤ 9223372036854775807) (hnc : l.length ≤ c) (hsz : name.length ≤ 9223372036854775807) (hr : 0 ≤ r ∧ r ≤ 255) (hn2 : 0 ≤ n ∧ n ≤ 4294967295) :
    Fc Tryd.prog 5 [.slice A l.length c, .string (strY name), dotV r n] w fun v w' => v = .bool true ∧ St [] w w' [] := by
  refine fc_i TB_ok Tryd.func5 rfl (by kernel_rfl) ?_
  have hS := Sf.refl w
  have hz := strY_size name
  have hW4 := fun w h1 h2 => works4_c w h1 h2
  repeat ((conv => whnf); first | (apply q_i; focus (intro w1 hS; (conv => whnf); first | exact ⟨rfl, rfl⟩ | ((refine ld_f hS 0 rfl rfl ?_); (conv => whnf); exact ⟨rfl, rfl⟩) | ((refine ldA_f hS 0 rfl rfl ?_); (conv => whnf); exact ⟨rfl, rfl⟩))) | (refine nw_f hS ?_; intro b w1 hS) | (refine as_i hS ?_) | (refine as_i (hS.subs (List.nil_sublist _) (by repeat (first | exact List.Sublist.refl _ | apply List.Sublist.cons_cons | apply List.Sublist.cons))) ?_) | (refine as_i (hS.subs (List.Sublist.refl _) (by repeat (first | exact List.Sublist.refl _ | apply List.Sublist.cons_cons | apply List.Sublist.cons))) ?_) | (refine bar_f hS ?_) | (refine ld_f hS 0 rfl rfl ?_) | (refine ldA_f hS 0 rfl rfl ?_) | (refine stN_f hS 0 rfl (Nat.le_of_ble_eq_true rfl) rfl rfl ?_; (conv => whnf); intro w1 hS) | (refine stM_f hS 0 rfl (Nat.le_of_ble_eq_true rfl) rfl ?_; (conv => whnf); intro w1 hS) | (refine drawf TB_ok rfl (by kernel_rfl) (by kernel_rfl) hS (List.Sublist.refl _) (List.Sublist.refl _) ?_; intro w1 hS) | (refine br_t (by assumption) ?_) | (refine br_f (by assumption) ?_))
  refine fc_m (few4x_c A c l _ (hR.below hS.nil) hn) ?_
  rintro v w1 ⟨⟨b0, rfl, hb0⟩, hS'⟩
  replace hS := hS.call0 hS'
  cases b0
  case false =>
    repeat ((conv => whnf); first | (apply q_i; focus (intro w1 hS; (conv => whnf); first | exact ⟨rfl, rfl⟩ | ((refine ld_f hS 0 rfl rfl ?_); (conv => whnf); exact ⟨rfl, rfl⟩) | ((refine ldA_f hS 0 rfl rfl ?_); (conv => whnf); exact ⟨rfl, rfl⟩) | ((refine fc_m (hW4 _ (he.below hS.nil) (ht.below hS.nil)) ?_; rintro v w3 ⟨rfl, hS'⟩; replace hS := hS.call0 hS'); (conv => whnf); exact ⟨rfl, rfl⟩))) | (refine nw_f hS ?_; intro b w1 hS) | (refine as_i hS ?_) | (refine as_i (hS.subs (List.nil_sublist _) (by repeat (first | exact List.Sublist.refl _ | apply List.Sublist.cons_cons | apply List.Sublist.cons))) ?_) | (refine as_i (hS.subs (List.Sublist.refl _) (by repeat (first | exact List.Sublist.refl _ | apply List.Sublist.cons_cons | apply List.Sublist.cons))) ?_) | (refine bar_f hS ?_) | (refine ld_f hS 0 rfl rfl ?_) | (refine ldA_f hS 0 rfl rfl ?_) | (refine stN_f hS 0 rfl (Nat.le_of_ble_eq_true rfl) rfl rfl ?_; (conv => whnf); intro w1 hS) | (refine stM_f hS 0 rfl (Nat.le_of_ble_eq_true rfl) rfl ?_; (conv => whnf); intro w1 hS) | (refine fc_m (hW4 _ (he.below hS.nil) (ht.below hS.nil)) ?_; rintro v w3 ⟨rfl, hS'⟩; replace hS := hS.call0 hS') | (refine drawf TB_ok rfl (by kernel_rfl) (by kernel_rfl) hS (List.Sublist.refl _) (List.Sublist.refl _) ?_; intro w1 hS) | (refine br_t (by assumption) ?_) | (refine br_f (by assumption) ?_))
    exact ⟨rfl, hS.nil⟩
  obtain ⟨n0, nx⟩ := hb0 rfl
  by_cases h300 : 300 < name.length
  · have g0 : decide (300 < ((strY name).size : Int)) = true := decide_eq_true (by omega)
    repeat ((conv => whnf); first | (apply q_i; focus (intro w1 hS; (conv => whnf); first | exact ⟨rfl, rfl⟩ | ((refine ld_f hS 0 rfl rfl ?_); (conv => whnf); exact ⟨rfl, rfl⟩) | ((refine ldA_f hS 0 rfl rfl ?_); (conv => whnf); exact ⟨rfl, rfl⟩) | ((refine fc_m (hW4 _ (he.below hS.nil) (ht.below hS.nil)) ?_; rintro v w3 ⟨rfl, hS'⟩; replace hS := hS.call0 hS'); (conv => whnf); exact ⟨rfl, rfl⟩))) | (refine nw_f hS ?_; intro b w1 hS) | (refine as_i hS ?_) | (refine as_i (hS.subs (List.nil_sublist _) (by repeat (first | exact List.Sublist.refl _ | apply List.Sublist.cons_cons | apply List.Sublist.cons))) ?_) | (refine as_i (hS.subs (List.Sublist.refl _) (by repeat (first | exact List.Sublist.refl _ | apply List.Sublist.cons_cons | apply List.Sublist.cons))) ?_) | (refine bar_f hS ?_) | (refine ld_f hS 0 rfl rfl ?_) | (refine ldA_f hS 0 rfl rfl ?_) | (refine stN_f hS 0 rfl (Nat.le_of_ble_eq_true rfl) rfl rfl ?_; (conv => whnf); intro w1 hS) | (refine stM_f hS 0 rfl (Nat.le_of_ble_eq_true rfl) rfl ?_; (conv => whnf); intro w1 hS) | (refine fc_m (hW4 _ (he.below hS.nil) (ht.below hS.nil)) ?_; rintro v w3 ⟨rfl, hS'⟩; replace hS := hS.call0 hS') | (refine drawf TB_ok rfl (by kernel_rfl) (by kernel_rfl) hS (List.Sublist.refl _) (List.Sublist.refl _) ?_; intro w1 hS) | (refine br_t (by assumption) ?_) | (refine br_f (by assumption) ?_))
    exact ⟨rfl, hS.nil⟩
  have g0 : decide (300 < ((strY name).size : Int)) = false := decide_eq_false (by omega)
  have q1 : streq (strY (textT l).1) (strY (textT l).1) = true := by rw [streq_strY, decide_eq_true rfl]
  have q2 : ((textT l).2 == (textT l).2) = true := by simp
  have q3 : streq (strY (confT name r n)) (strY (confT name r n)) = true := by rw [streq_strY, decide_eq_true rfl]
  have q4 : (((if nameB name && rightB r n then 0 else 4) : Int) == (if nameB name && rightB r n then 0 else 4)) = true := by simp
  have u1 := fun w h => text_c A c l w h (by omega) hnc
  have u2 := fun w h => rtext_c A c l w h (by omega) nx
  have u3 := fun w h => conflict_c name (by omega) r n hr hn2 w h
  have u4 := fun w => rconf_c name (by omega) r n hr hn2 w
  generalize ((if nameB name && rightB r n then 0 else 4) : Int) = cE at *
  generalize textT l = tl at *
  generalize confT name r n = cf at *
  repeat ((conv => whnf); first | (apply q_i; focus (intro w1 hS; (conv => whnf); first | exact ⟨rfl, rfl⟩ | ((refine ld_f hS 0 rfl rfl ?_); (conv => whnf); exact ⟨rfl, rfl⟩) | ((refine ldA_f hS 0 rfl rfl ?_); (conv => whnf); exact ⟨rfl, rfl⟩) | ((refine fc_m (u1 _ (hR.below hS.nil)) ?_; rintro v w3 ⟨rfl, hS'⟩; replace hS := hS.call0 hS'); (conv => whnf); exact ⟨rfl, rfl⟩) | ((refine fc_m (u2 _ (hR.below hS.nil)) ?_; rintro v w3 ⟨rfl, hS'⟩; replace hS := hS.call0 hS'); (conv => whnf); exact ⟨rfl, rfl⟩) | ((refine fc_m (u3 _ (fun _ => ⟨digs_tab (ht.below hS.nil) hr.1 (by omega), digs_tab (ht.below hS.nil) hn2.1 (by omega)⟩)) ?_; rintro v w3 ⟨rfl, hS'⟩; replace hS := hS.call0 hS'); (conv => whnf); exact ⟨rfl, rfl⟩) | ((refine fc_m (u4 _) ?_; rintro v w3 ⟨rfl, hS'⟩; replace hS := hS.call0 hS'); (conv => whnf); exact ⟨rfl, rfl⟩) | ((refine fc_m (hW4 _ (he.below hS.nil) (ht.below hS.nil)) ?_; rintro v w3 ⟨rfl, hS'⟩; replace hS := hS.call0 hS'); (conv => whnf); exact ⟨rfl, rfl⟩))) | (refine nw_f hS ?_; intro b w1 hS) | (refine as_i hS ?_) | (refine as_i (hS.subs (List.nil_sublist _) (by repeat (first | exact List.Sublist.refl _ | apply List.Sublist.cons_cons | apply List.Sublist.cons))) ?_) | (refine as_i (hS.subs (List.Sublist.refl _) (by repeat (first | exact List.Sublist.refl _ | apply List.Sublist.cons_cons | apply List.Sublist.cons))) ?_) | (refine bar_f hS ?_) | (refine ld_f hS 0 rfl rfl ?_) | (refine ldA_f hS 0 rfl rfl ?_) | (refine stN_f hS 0 rfl (Nat.le_of_ble_eq_true rfl) rfl rfl ?_; (conv => whnf); intro w1 hS) | (refine stM_f hS 0 rfl (Nat.le_of_ble_eq_true rfl) rfl ?_; (conv => whnf); intro w1 hS) | (refine fc_m (u1 _ (hR.below hS.nil)) ?_; rintro v w3 ⟨rfl, hS'⟩; replace hS := hS.call0 hS') | (refine fc_m (u2 _ (hR.below hS.nil)) ?_; rintro v w3 ⟨rfl, hS'⟩; replace hS := hS.call0 hS') | (refine fc_m (u3 _ (fun _ => ⟨digs_tab (ht.below hS.nil) hr.1 (by omega), digs_tab (ht.below hS.nil) hn2.1 (by omega)⟩)) ?_; rintro v w3 ⟨rfl, hS'⟩; replace hS := hS.call0 hS') | (refine fc_m (u4 _) ?_; rintro v w3 ⟨rfl, hS'⟩; replace hS := hS.call0 hS') | (refine fc_m (hW4 _ (he.below hS.nil) (ht.below hS.nil)) ?_; rintro v w3 ⟨rfl, hS'⟩; replace hS := hS.call0 hS') | (refine drawf TB_ok rfl (by kernel_rfl) (by kernel_rfl) hS (List.Sublist.refl _) (List.Sublist.refl _) ?_; intro w1 hS) | (refine br_t (by assumption) ?_) | (refine br_f (by assumption) ?_))
  exact ⟨rfl, hS.nil⟩
end Go.RV
