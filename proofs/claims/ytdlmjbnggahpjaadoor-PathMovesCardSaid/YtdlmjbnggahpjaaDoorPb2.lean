/- The laws of chapter 4, walked: PathWithin. Conditions: none. -/
import Derived.Test.YtdlmjbnggahpjaaDoorPb1
set_option maxRecDepth 20000
set_option linter.unusedVariables false
set_option linter.unusedSimpArgs false
namespace Go.RV
open Go Go.Proofs Go.RowKit

theorem Sl.none {e sz : Nat} {A : Option Addr} {c n : Nat} {cs : List Value} {L : LM} (h : Sl e sz (.slice A n c) n cs L) (hA : A = none) : n = 0 ∧ c = 0 := by
  cases h with
  | nil => exact ⟨rfl, rfl⟩
  | blk => cases hA
theorem within_self (l : Nm) : withinB l l = true := by simp [withinB]
theorem within_app (a b : Nm) : withinB a (a ++ b) = true := by simp [withinB]
theorem within_nil (l : Nm) : withinB [] l = true := by simp [withinB]
theorem within_up (l : Nm) : withinB l.dropLast l = true := by
  simp [withinB, List.dropLast_eq_take]
theorem move_app (a b to : Nm) : moveT (a ++ b) a to = to ++ b := by
  unfold moveT
  rw [if_pos (within_app a b), List.drop_left]
set_option maxHeartbeats 2000000 in
theorem pathWithin_c (A : Option Addr) (c : Nat) (l : Nm) (B : Option Addr) (d : Nat) (a : Nm) (D : Option Addr) (e : Nat) (bb : Nm) (w : World) (he : Errs w) (ht : Tab10 w) (hR : Rd w A (flat encT l)) (hn : l.length ≤ 9223372036854775807) (hQ : Rd w B (flat encT a)) (hm : a.length ≤ 9223372036854775807) (hma : a.length ≤ d) (hU : Rd w D (flat encT bb)) (hk : bb.length ≤ 9223372036854775807) (hkb : bb.length ≤ e) :
    Fc Tryd.prog 8 [.slice A l.length c, .slice B a.length d, .slice D bb.length e] w fun v w' => v = .bool true ∧ St [] w w' [] := by
  refine fc_i TB_ok Tryd.func8 rfl (by kernel_rfl) ?_
  have hS := Sf.refl w
  have hW4 := fun w h1 h2 => works4_c w h1 h2
  repeat ((conv => whnf); first | (apply q_i; focus (intro w1 hS; (conv => whnf); first | exact ⟨rfl, rfl⟩)) | (refine nw_f hS ?_; intro b w1 hS) | (refine as_i hS ?_) | (refine as_i (hS.subs (List.nil_sublist _) (by repeat (first | exact List.Sublist.refl _ | apply List.Sublist.cons_cons | apply List.Sublist.cons))) ?_) | (refine as_i (hS.subs (List.Sublist.refl _) (by repeat (first | exact List.Sublist.refl _ | apply List.Sublist.cons_cons | apply List.Sublist.cons))) ?_) | (refine bar_f hS ?_) | (refine drawf TB_ok rfl (by kernel_rfl) (by kernel_rfl) hS (List.Sublist.refl _) (List.Sublist.refl _) ?_; intro w1 hS) | (refine br_t (by assumption) ?_) | (refine br_f (by assumption) ?_))
  refine fc_m (few4_c A c l _ (hR.below hS.nil) hn) ?_
  rintro v w1 ⟨⟨b0, rfl, hb0⟩, hS'⟩
  replace hS := hS.call0 hS'
  cases b0
  case false =>
    repeat ((conv => whnf); first | (apply q_i; focus (intro w1 hS; (conv => whnf); first | exact ⟨rfl, rfl⟩ | ((refine fc_m (hW4 _ (he.below hS.nil) (ht.below hS.nil)) ?_; rintro v w3 ⟨rfl, hS'⟩; replace hS := hS.call0 hS'); (conv => whnf); exact ⟨rfl, rfl⟩))) | (refine nw_f hS ?_; intro b w1 hS) | (refine as_i hS ?_) | (refine as_i (hS.subs (List.nil_sublist _) (by repeat (first | exact List.Sublist.refl _ | apply List.Sublist.cons_cons | apply List.Sublist.cons))) ?_) | (refine as_i (hS.subs (List.Sublist.refl _) (by repeat (first | exact List.Sublist.refl _ | apply List.Sublist.cons_cons | apply List.Sublist.cons))) ?_) | (refine bar_f hS ?_) | (refine fc_m (hW4 _ (he.below hS.nil) (ht.below hS.nil)) ?_; rintro v w3 ⟨rfl, hS'⟩; replace hS := hS.call0 hS') | (refine drawf TB_ok rfl (by kernel_rfl) (by kernel_rfl) hS (List.Sublist.refl _) (List.Sublist.refl _) ?_; intro w1 hS) | (refine br_t (by assumption) ?_) | (refine br_f (by assumption) ?_))
    exact ⟨rfl, hS.nil⟩
  repeat ((conv => whnf); first | (apply q_i; focus (intro w1 hS; (conv => whnf); first | exact ⟨rfl, rfl⟩)) | (refine nw_f hS ?_; intro b w1 hS) | (refine as_i hS ?_) | (refine as_i (hS.subs (List.nil_sublist _) (by repeat (first | exact List.Sublist.refl _ | apply List.Sublist.cons_cons | apply List.Sublist.cons))) ?_) | (refine as_i (hS.subs (List.Sublist.refl _) (by repeat (first | exact List.Sublist.refl _ | apply List.Sublist.cons_cons | apply List.Sublist.cons))) ?_) | (refine bar_f hS ?_) | (refine drawf TB_ok rfl (by kernel_rfl) (by kernel_rfl) hS (List.Sublist.refl _) (List.Sublist.refl _) ?_; intro w1 hS) | (refine br_t (by assumption) ?_) | (refine br_f (by assumption) ?_))
  refine fc_m (few4_c B d a _ (hQ.below hS.nil) hm) ?_
  rintro v w2 ⟨⟨b1, rfl, hb1⟩, hS'⟩
  replace hS := hS.call0 hS'
  cases b1
  case false =>
    repeat ((conv => whnf); first | (apply q_i; focus (intro w1 hS; (conv => whnf); first | exact ⟨rfl, rfl⟩ | ((refine fc_m (hW4 _ (he.below hS.nil) (ht.below hS.nil)) ?_; rintro v w3 ⟨rfl, hS'⟩; replace hS := hS.call0 hS'); (conv => whnf); exact ⟨rfl, rfl⟩))) | (refine nw_f hS ?_; intro b w1 hS) | (refine as_i hS ?_) | (refine as_i (hS.subs (List.nil_sublist _) (by repeat (first | exact List.Sublist.refl _ | apply List.Sublist.cons_cons | apply List.Sublist.cons))) ?_) | (refine as_i (hS.subs (List.Sublist.refl _) (by repeat (first | exact List.Sublist.refl _ | apply List.Sublist.cons_cons | apply List.Sublist.cons))) ?_) | (refine bar_f hS ?_) | (refine fc_m (hW4 _ (he.below hS.nil) (ht.below hS.nil)) ?_; rintro v w3 ⟨rfl, hS'⟩; replace hS := hS.call0 hS') | (refine drawf TB_ok rfl (by kernel_rfl) (by kernel_rfl) hS (List.Sublist.refl _) (List.Sublist.refl _) ?_; intro w1 hS) | (refine br_t (by assumption) ?_) | (refine br_f (by assumption) ?_))
    exact ⟨rfl, hS.nil⟩
  repeat ((conv => whnf); first | (apply q_i; focus (intro w1 hS; (conv => whnf); first | exact ⟨rfl, rfl⟩)) | (refine nw_f hS ?_; intro b w1 hS) | (refine as_i hS ?_) | (refine as_i (hS.subs (List.nil_sublist _) (by repeat (first | exact List.Sublist.refl _ | apply List.Sublist.cons_cons | apply List.Sublist.cons))) ?_) | (refine as_i (hS.subs (List.Sublist.refl _) (by repeat (first | exact List.Sublist.refl _ | apply List.Sublist.cons_cons | apply List.Sublist.cons))) ?_) | (refine bar_f hS ?_) | (refine drawf TB_ok rfl (by kernel_rfl) (by kernel_rfl) hS (List.Sublist.refl _) (List.Sublist.refl _) ?_; intro w1 hS) | (refine br_t (by assumption) ?_) | (refine br_f (by assumption) ?_))
  refine fc_m (few4_c D e bb _ (hU.below hS.nil) hk) ?_
  rintro v w3 ⟨⟨b2, rfl, hb2⟩, hS'⟩
  replace hS := hS.call0 hS'
  cases b2
  case false =>
    repeat ((conv => whnf); first | (apply q_i; focus (intro w1 hS; (conv => whnf); first | exact ⟨rfl, rfl⟩ | ((refine fc_m (hW4 _ (he.below hS.nil) (ht.below hS.nil)) ?_; rintro v w3 ⟨rfl, hS'⟩; replace hS := hS.call0 hS'); (conv => whnf); exact ⟨rfl, rfl⟩))) | (refine nw_f hS ?_; intro b w1 hS) | (refine as_i hS ?_) | (refine as_i (hS.subs (List.nil_sublist _) (by repeat (first | exact List.Sublist.refl _ | apply List.Sublist.cons_cons | apply List.Sublist.cons))) ?_) | (refine as_i (hS.subs (List.Sublist.refl _) (by repeat (first | exact List.Sublist.refl _ | apply List.Sublist.cons_cons | apply List.Sublist.cons))) ?_) | (refine bar_f hS ?_) | (refine fc_m (hW4 _ (he.below hS.nil) (ht.below hS.nil)) ?_; rintro v w3 ⟨rfl, hS'⟩; replace hS := hS.call0 hS') | (refine drawf TB_ok rfl (by kernel_rfl) (by kernel_rfl) hS (List.Sublist.refl _) (List.Sublist.refl _) ?_; intro w1 hS) | (refine br_t (by assumption) ?_) | (refine br_f (by assumption) ?_))
    exact ⟨rfl, hS.nil⟩
  have n0 := hb0 rfl
  have n1 := hb1 rfl
  have n2 := hb2 rfl
  repeat ((conv => whnf); first | (apply q_i; focus (intro w1 hS; (conv => whnf); first | exact ⟨rfl, rfl⟩)) | (refine nw_f hS ?_; intro b w1 hS) | (refine as_i hS ?_) | (refine as_i (hS.subs (List.nil_sublist _) (by repeat (first | exact List.Sublist.refl _ | apply List.Sublist.cons_cons | apply List.Sublist.cons))) ?_) | (refine as_i (hS.subs (List.Sublist.refl _) (by repeat (first | exact List.Sublist.refl _ | apply List.Sublist.cons_cons | apply List.Sublist.cons))) ?_) | (refine bar_f hS ?_) | (refine drawf TB_ok rfl (by kernel_rfl) (by kernel_rfl) hS (List.Sublist.refl _) (List.Sublist.refl _) ?_; intro w1 hS) | (refine br_t (by assumption) ?_) | (refine br_f (by assumption) ?_))
  refine app_f TB_ok elStr (show Sf [] w _ ([] ++ []) _ from hS) .nil (hQ.below hS.nil) (flatT_len _) (flatT_one _) (by omega) (by omega) ?_
  intro v4 L4 w4 hv4 hS
  rw [Nat.zero_add, List.nil_append] at hv4
  repeat ((conv => whnf); first | (apply q_i; focus (intro w1 hS; (conv => whnf); first | exact ⟨rfl, rfl⟩)) | (refine nw_f hS ?_; intro b w1 hS) | (refine as_i hS ?_) | (refine as_i (hS.subs (List.nil_sublist _) (by repeat (first | exact List.Sublist.refl _ | apply List.Sublist.cons_cons | apply List.Sublist.cons))) ?_) | (refine as_i (hS.subs (List.Sublist.refl _) (by repeat (first | exact List.Sublist.refl _ | apply List.Sublist.cons_cons | apply List.Sublist.cons))) ?_) | (refine bar_f hS ?_) | (refine drawf TB_ok rfl (by kernel_rfl) (by kernel_rfl) hS (List.Sublist.refl _) (List.Sublist.refl _) ?_; intro w1 hS) | (refine br_t (by assumption) ?_) | (refine br_f (by assumption) ?_))
  refine app_f TB_ok elStr hS hv4 (hR.below hS.nil) (flatT_len _) (flatT_one _) (by omega) (by omega) ?_
  intro v5 L5 w5 hv5 hS
  obtain ⟨A5, c5, rfl, hv5⟩ := hv5.open
  have hal : (a ++ l).length = a.length + l.length := by simp
  rw [← hal, ← flat_append] at hv5
  rw [← hal]
  have nn : (a ++ l).length ≤ 40 := by omega
  have hlc := hv5.le
  have hno : A5 = none → (a ++ l) = [] ∧ c5 = 0 := fun h => by have := hv5.none h; exact ⟨List.eq_nil_of_length_eq_zero this.1, this.2⟩
  repeat ((conv => whnf); first | (apply q_i; focus (intro w1 hS; (conv => whnf); first | exact ⟨rfl, rfl⟩)) | (refine nw_f hS ?_; intro b w1 hS) | (refine as_i hS ?_) | (refine as_i (hS.subs (List.nil_sublist _) (by repeat (first | exact List.Sublist.refl _ | apply List.Sublist.cons_cons | apply List.Sublist.cons))) ?_) | (refine as_i (hS.subs (List.Sublist.refl _) (by repeat (first | exact List.Sublist.refl _ | apply List.Sublist.cons_cons | apply List.Sublist.cons))) ?_) | (refine bar_f hS ?_) | (refine drawf TB_ok rfl (by kernel_rfl) (by kernel_rfl) hS (List.Sublist.refl _) (List.Sublist.refl _) ?_; intro w1 hS) | (refine br_t (by assumption) ?_) | (refine br_f (by assumption) ?_))
  refine fc_m (up_c A5 c5 (a ++ l) _ (hv5.rdF hS) (by omega) hlc hno) ?_
  rintro v w6 ⟨A6, c6, L6, rfl, hv6, hS'⟩
  replace hS := hS.callF hS'
  repeat ((conv => whnf); first | (apply q_i; focus (intro w1 hS; (conv => whnf); first | exact ⟨rfl, rfl⟩)) | (refine nw_f hS ?_; intro b w1 hS) | (refine as_i hS ?_) | (refine as_i (hS.subs (List.nil_sublist _) (by repeat (first | exact List.Sublist.refl _ | apply List.Sublist.cons_cons | apply List.Sublist.cons))) ?_) | (refine as_i (hS.subs (List.Sublist.refl _) (by repeat (first | exact List.Sublist.refl _ | apply List.Sublist.cons_cons | apply List.Sublist.cons))) ?_) | (refine bar_f hS ?_) | (refine drawf TB_ok rfl (by kernel_rfl) (by kernel_rfl) hS (List.Sublist.refl _) (List.Sublist.refl _) ?_; intro w1 hS) | (refine br_t (by assumption) ?_) | (refine br_f (by assumption) ?_))
  have hM := fun w h1 h2 h3 => move_c A5 c5 (a ++ l) B d a D e bb w (h1 : Rd w A5 (flat encT (a ++ l))) (by omega) hlc hno (h2 : Rd w B (flat encT a)) (by omega) (h3 : Rd w D (flat encT bb)) (by omega)
  rw [move_app] at hM
  refine fc_m (hM _ (hv5.rdM hS (fun x hx => by simp [hx])) (hQ.below hS.nil) (hU.below hS.nil)) ?_
  rintro v w7 ⟨L7, hv7, hS'⟩
  replace hS := hS.callF hS'
  obtain ⟨A7, c7, rfl, hv7⟩ := hv7.open
  have hbl : (bb ++ l).length = bb.length + l.length := by simp
  have hno7 : A7 = none → (bb ++ l) = [] ∧ c7 = 0 := fun h => by have := hv7.none h; exact ⟨List.eq_nil_of_length_eq_zero this.1, this.2⟩
  have hlc7 := hv7.le
  have hM2 := fun w h1 h2 h3 => move_c A7 c7 (bb ++ l) D e bb B d a w (h1 : Rd w A7 (flat encT (bb ++ l))) (by omega) hlc7 hno7 (h2 : Rd w D (flat encT bb)) (by omega) (h3 : Rd w B (flat encT a)) (by omega)
  rw [move_app] at hM2
  have u1 := fun w h => within_c A5 c5 (a ++ l) A5 c5 (a ++ l) w (h : Rd w A5 (flat encT (a ++ l))) (by omega) h hlc
  have hdn : (a ++ l).dropLast.length = (a ++ l).length - 1 := List.length_dropLast
  have u2 := fun w h1 h2 => within_c A6 c6 (a ++ l).dropLast A5 c5 (a ++ l) w (h1 : Rd w A6 (flat encT (a ++ l).dropLast)) (by omega) (h2 : Rd w A5 (flat encT (a ++ l))) hlc
  have u3 := fun w h1 h2 => within_c B d a A5 c5 (a ++ l) w (h1 : Rd w B (flat encT a)) (by omega) (h2 : Rd w A5 (flat encT (a ++ l))) hlc
  have u4 := fun w h2 => within_c none 0 [] A5 c5 (a ++ l) w (.inl rfl) (by decide) (h2 : Rd w A5 (flat encT (a ++ l))) hlc
  have u5 := fun w h1 h2 => within_c D e bb A7 c7 (bb ++ l) w (h1 : Rd w D (flat encT bb)) (by omega) (h2 : Rd w A7 (flat encT (bb ++ l))) hlc7
  rw [within_self] at u1
  rw [within_up] at u2
  rw [within_app] at u3
  rw [within_nil] at u4
  rw [within_app] at u5
  have g1 : (((bb ++ l).length : Int) == IntKind.i64.wrap ((bb.length : Int) + (l.length : Int))) = true := by rw [wrap_i64 (by omega) (by omega), hbl]; simp
  generalize a ++ l = al at *
  generalize bb ++ l = bl at *
  repeat ((conv => whnf); first | (apply q_i; focus (intro w1 hS; (conv => whnf); first | exact ⟨rfl, rfl⟩ | ((refine fc_m (u1 _ (hv5.rdM hS (fun x hx => by simp [hx]))) ?_; rintro v w3 ⟨rfl, hS'⟩; replace hS := hS.call0 hS'); (conv => whnf); exact ⟨rfl, rfl⟩) | ((refine fc_m (u2 _ (hv6.rdM hS (fun x hx => by simp [hx])) (hv5.rdM hS (fun x hx => by simp [hx]))) ?_; rintro v w3 ⟨rfl, hS'⟩; replace hS := hS.call0 hS'); (conv => whnf); exact ⟨rfl, rfl⟩) | ((refine fc_m (u3 _ (hQ.below hS.nil) (hv5.rdM hS (fun x hx => by simp [hx]))) ?_; rintro v w3 ⟨rfl, hS'⟩; replace hS := hS.call0 hS'); (conv => whnf); exact ⟨rfl, rfl⟩) | ((refine fc_m (u4 _ (hv5.rdM hS (fun x hx => by simp [hx]))) ?_; rintro v w3 ⟨rfl, hS'⟩; replace hS := hS.call0 hS'); (conv => whnf); exact ⟨rfl, rfl⟩) | ((refine fc_m (u5 _ (hU.below hS.nil) (hv7.rdM hS (fun x hx => by simp [hx]))) ?_; rintro v w3 ⟨rfl, hS'⟩; replace hS := hS.call0 hS'); (conv => whnf); exact ⟨rfl, rfl⟩))) | (refine nw_f hS ?_; intro b w1 hS) | (refine as_i hS ?_) | (refine as_i (hS.subs (List.nil_sublist _) (by repeat (first | exact List.Sublist.refl _ | apply List.Sublist.cons_cons | apply List.Sublist.cons))) ?_) | (refine as_i (hS.subs (List.Sublist.refl _) (by repeat (first | exact List.Sublist.refl _ | apply List.Sublist.cons_cons | apply List.Sublist.cons))) ?_) | (refine bar_f hS ?_) | (refine fc_m (u1 _ (hv5.rdM hS (fun x hx => by simp [hx]))) ?_; rintro v w3 ⟨rfl, hS'⟩; replace hS := hS.call0 hS') | (refine fc_m (u2 _ (hv6.rdM hS (fun x hx => by simp [hx])) (hv5.rdM hS (fun x hx => by simp [hx]))) ?_; rintro v w3 ⟨rfl, hS'⟩; replace hS := hS.call0 hS') | (refine fc_m (u3 _ (hQ.below hS.nil) (hv5.rdM hS (fun x hx => by simp [hx]))) ?_; rintro v w3 ⟨rfl, hS'⟩; replace hS := hS.call0 hS') | (refine fc_m (u4 _ (hv5.rdM hS (fun x hx => by simp [hx]))) ?_; rintro v w3 ⟨rfl, hS'⟩; replace hS := hS.call0 hS') | (refine fc_m (u5 _ (hU.below hS.nil) (hv7.rdM hS (fun x hx => by simp [hx]))) ?_; rintro v w3 ⟨rfl, hS'⟩; replace hS := hS.call0 hS') | (refine drawf TB_ok rfl (by kernel_rfl) (by kernel_rfl) hS (List.Sublist.refl _) (List.Sublist.refl _) ?_; intro w1 hS) | (refine br_t (by assumption) ?_) | (refine br_f (by assumption) ?_))
  refine fc_m (hM2 _ (hv7.rdM hS (fun x hx => by simp [hx])) (hU.below hS.nil) (hQ.below hS.nil)) ?_
  rintro v w8 ⟨L8, hv8, hS'⟩
  replace hS := hS.callF hS'
  obtain ⟨A8, c8, rfl, hv8⟩ := hv8.open
  have hsm := fun w h1 h2 => lsame_c A8 c8 al A5 c5 al w (h1 : Rd w A8 (flat encT al)) (by omega) (h2 : Rd w A5 (flat encT al))
  rw [decide_eq_true (show al = al from rfl)] at hsm
  repeat ((conv => whnf); first | (apply q_i; focus (intro w1 hS; (conv => whnf); first | exact ⟨rfl, rfl⟩ | ((refine fc_m (hsm _ (hv8.rdM hS (fun x hx => by simp [hx])) (hv5.rdM hS (fun x hx => by simp [hx]))) ?_; rintro v w3 ⟨rfl, hS'⟩; replace hS := hS.call0 hS'); (conv => whnf); exact ⟨rfl, rfl⟩) | ((refine fc_m (hW4 _ (he.below hS.nil) (ht.below hS.nil)) ?_; rintro v w3 ⟨rfl, hS'⟩; replace hS := hS.call0 hS'); (conv => whnf); exact ⟨rfl, rfl⟩))) | (refine nw_f hS ?_; intro b w1 hS) | (refine as_i hS ?_) | (refine as_i (hS.subs (List.nil_sublist _) (by repeat (first | exact List.Sublist.refl _ | apply List.Sublist.cons_cons | apply List.Sublist.cons))) ?_) | (refine as_i (hS.subs (List.Sublist.refl _) (by repeat (first | exact List.Sublist.refl _ | apply List.Sublist.cons_cons | apply List.Sublist.cons))) ?_) | (refine bar_f hS ?_) | (refine fc_m (hsm _ (hv8.rdM hS (fun x hx => by simp [hx])) (hv5.rdM hS (fun x hx => by simp [hx]))) ?_; rintro v w3 ⟨rfl, hS'⟩; replace hS := hS.call0 hS') | (refine fc_m (hW4 _ (he.below hS.nil) (ht.below hS.nil)) ?_; rintro v w3 ⟨rfl, hS'⟩; replace hS := hS.call0 hS') | (refine drawf TB_ok rfl (by kernel_rfl) (by kernel_rfl) hS (List.Sublist.refl _) (List.Sublist.refl _) ?_; intro w1 hS) | (refine br_t (by assumption) ?_) | (refine br_f (by assumption) ?_))
  exact ⟨rfl, hS.nil⟩
end Go.RV
