/- The laws of chapter 4, walked: PathMoves. Conditions: none. -/
import Derived.Test.YtdlmjbnggahpjaaDoorPb2
set_option maxRecDepth 20000
set_option linter.unusedVariables false
set_option linter.unusedSimpArgs false
namespace Go.RV
open Go Go.Proofs Go.RowKit

set_option maxHeartbeats 4000000 in
theorem pathMoves_c (A : Option Addr) (c : Nat) (l : Nm) (B : Option Addr) (d : Nat) (a : Nm) (D : Option Addr) (e : Nat) (bb : Nm) (w : World) (he : Errs w) (ht : Tab10 w) (hR : Rd w A (flat encT l)) (hn : l.length ≤ 9223372036854775807) (hnc : l.length ≤ c) (hQ : Rd w B (flat encT a)) (hm : a.length ≤ 9223372036854775807) (hma : a.length ≤ d) (hU : Rd w D (flat encT bb)) (hk : bb.length ≤ 9223372036854775807) (hkb : bb.length ≤ e) :
    Fc Tryd.prog 7 [.slice A l.length c, .slice B a.length d, .slice D bb.length e] w fun v w' => v = .bool true ∧ St [] w w' [] := by
  refine fc_i TB_ok Tryd.func7 rfl (by kernel_rfl) ?_
  have hS := Sf.refl w
  have hW4 := fun w h1 h2 => works4_c w h1 h2
  repeat ((conv => whnf); first | (apply q_i; focus (intro w1 hS; (conv => whnf); first | exact ⟨rfl, rfl⟩)) | (refine nw_f hS ?_; intro b w1 hS) | (refine as_i hS ?_) | (refine as_i (hS.subs (List.nil_sublist _) (by repeat (first | exact List.Sublist.refl _ | apply List.Sublist.cons_cons | apply List.Sublist.cons))) ?_) | (refine as_i (hS.subs (List.Sublist.refl _) (by repeat (first | exact List.Sublist.refl _ | apply List.Sublist.cons_cons | apply List.Sublist.cons))) ?_) | (refine bar_f hS ?_) | (refine drawf TB_ok rfl (by kernel_rfl) (by kernel_rfl) hS (List.Sublist.refl _) (List.Sublist.refl _) ?_; intro w1 hS) | (refine br_t (by assumption) ?_) | (refine br_f (by assumption) ?_))
  refine fc_m (few4_c A c l _ (hR.below hS.nil) hn) ?_
  rintro v w1 ⟨⟨b0, rfl, hb0⟩, hS'⟩
  replace hS := hS.call0 hS'
  cases b0
  case false =>
    repeat ((conv => whnf); first | (apply q_i; focus (intro w1 hS; (conv => whnf); first | exact ⟨rfl, rfl⟩ | ((refine fc_m (hW4 _ (he.below hS.nil) (ht.below hS.nil)) ?_; rintro v w3 ⟨rfl, hS'⟩; replace hS := hS.call0 hS'); (conv => whnf); exact ⟨rfl, rfl⟩))) | (refine nw_f hS ?_; intro b w1 hS) | (refine as_i hS ?_) | (refine as_i (hS.subs (List.nil_sublist _) (by repeat (first | exact List.Sublist.refl _ | apply List.Sublist.cons_cons | apply List.Sublist.cons))) ?_) | (refine as_i (hS.subs (List.Sublist.refl _) (by repeat (first | exact List.Sublist.refl _ | apply List.Sublist.cons_cons | apply List.Sublist.cons))) ?_) | (refine bar_f hS ?_) | (refine fc_m (hW4 _ (he.below hS.nil) (ht.below hS.nil)) ?_; rintro v w3 ⟨rfl, hS'⟩; replace hS := hS.call0 hS') | (refine drawf TB_ok rfl (by kernel_rfl) (by kernel_rfl) hS (List.Sublist.refl _) (List.Sublist.refl _) ?_; intro w1 hS) | (refine br_t (by assumption) ?_) | (refine br_f (by assumption) ?_))
    exact ⟨rfl, hS.nil⟩
  repeat ((conv => whnf); first | (apply q_i; focus (intro w1 hS; (conv => whnf); first | exact ⟨rfl, rfl⟩)) | (refine nw_f hS ?_; intro b w1 hS) | (refine as_i hS ?_) | (refine as_i (hS.subs (List.nil_sublist _) (by repeat (first | exact List.Sublist.refl _ | apply List.Sublist.cons_cons | apply List.Sublist.cons))) ?_) | (refine as_i (hS.subs (List.Sublist.refl _) (by repeat (first | exact List.Sublist.refl _ | apply List.Sublist.cons_cons | apply List.Sublist.cons))) ?_) | (refine bar_f hS ?_) | (refine drawf TB_ok rfl (by kernel_rfl) (by kernel_rfl) hS (List.Sublist.refl _) (List.Sublist.refl _) ?_; intro w1 hS) | (refine br_t (by assumption) ?_) | (refine br_f (by assumption) ?_))
  refine fc_m (few4_c B d a _ (hQ.below hS.nil) hm) ?_
  rintro v w2 ⟨⟨b1, rfl, hb1⟩, hS'⟩
  replace hS := hS.call0 hS'
  cases b1
  case false =>
    repeat ((conv => whnf); first | (apply q_i; focus (intro w1 hS; (conv => whnf); first | exact ⟨rfl, rfl⟩ | ((refine fc_m (hW4 _ (he.below hS.nil) (ht.below hS.nil)) ?_; rintro v w3 ⟨rfl, hS'⟩; replace hS := hS.call0 hS'); (conv => whnf); exact ⟨rfl, rfl⟩))) | (refine nw_f hS ?_; intro b w1 hS) | (refine as_i hS ?_) | (refine as_i (hS.subs (List.nil_sublist _) (by repeat (first | exact List.Sublist.refl _ | apply List.Sublist.cons_cons | apply List.Sublist.cons))) ?_) | (refine as_i (hS.subs (List.Sublist.refl _) (by repeat (first | exact List.Sublist.refl _ | apply List.Sublist.cons_cons | apply List.Sublist.cons))) ?_) | (refine bar_f hS ?_) | (refine fc_m (hW4 _ (he.below hS.nil) (ht.below hS.nil)) ?_; rintro v w3 ⟨rfl, hS'⟩; replace hS := hS.call0 hS') | (refine drawf TB_ok rfl (by kernel_rfl) (by kernel_rfl) hS (List.Sublist.refl _) (List.Sublist.refl _) ?_; intro w1 hS) | (refine br_t (by assumption) ?_) | (refine br_f (by assumption) ?_))
    exact ⟨rfl, hS.nil⟩
  repeat ((conv => whnf); first | (apply q_i; focus (intro w1 hS; (conv => whnf); first | exact ⟨rfl, rfl⟩)) | (refine nw_f hS ?_; intro b w1 hS) | (refine as_i hS ?_) | (refine as_i (hS.subs (List.nil_sublist _) (by repeat (first | exact List.Sublist.refl _ | apply List.Sublist.cons_cons | apply List.Sublist.cons))) ?_) | (refine as_i (hS.subs (List.Sublist.refl _) (by repeat (first | exact List.Sublist.refl _ | apply List.Sublist.cons_cons | apply List.Sublist.cons))) ?_) | (refine bar_f hS ?_) | (refine drawf TB_ok rfl (by kernel_rfl) (by kernel_rfl) hS (List.Sublist.refl _) (List.Sublist.refl _) ?_; intro w1 hS) | (refine br_t (by assumption) ?_) | (refine br_f (by assumption) ?_))
  refine fc_m (few4_c D e bb _ (hU.below hS.nil) hk) ?_
  rintro v w3 ⟨⟨b2, rfl, hb2⟩, hS'⟩
  replace hS := hS.call0 hS'
  cases b2
  case false =>
    repeat ((conv => whnf); first | (apply q_i; focus (intro w1 hS; (conv => whnf); first | exact ⟨rfl, rfl⟩ | ((refine fc_m (hW4 _ (he.below hS.nil) (ht.below hS.nil)) ?_; rintro v w3 ⟨rfl, hS'⟩; replace hS := hS.call0 hS'); (conv => whnf); exact ⟨rfl, rfl⟩))) | (refine nw_f hS ?_; intro b w1 hS) | (refine as_i hS ?_) | (refine as_i (hS.subs (List.nil_sublist _) (by repeat (first | exact List.Sublist.refl _ | apply List.Sublist.cons_cons | apply List.Sublist.cons))) ?_) | (refine as_i (hS.subs (List.Sublist.refl _) (by repeat (first | exact List.Sublist.refl _ | apply List.Sublist.cons_cons | apply List.Sublist.cons))) ?_) | (refine bar_f hS ?_) | (refine fc_m (hW4 _ (he.below hS.nil) (ht.below hS.nil)) ?_; rintro v w3 ⟨rfl, hS'⟩; replace hS := hS.call0 hS') | (refine drawf TB_ok rfl (by kernel_rfl) (by kernel_rfl) hS (List.Sublist.refl _) (List.Sublist.refl _) ?_; intro w1 hS) | (refine br_t (by assumption) ?_) | (refine br_f (by assumption) ?_))
    exact ⟨rfl, hS.nil⟩
  have n0 := hb0 rfl
  have n1 := hb1 rfl
  have n2 := hb2 rfl
  repeat ((conv => whnf); first | (apply q_i; focus (intro w1 hS; (conv => whnf); first | exact ⟨rfl, rfl⟩)) | (refine nw_f hS ?_; intro b w1 hS) | (refine as_i hS ?_) | (refine as_i (hS.subs (List.nil_sublist _) (by repeat (first | exact List.Sublist.refl _ | apply List.Sublist.cons_cons | apply List.Sublist.cons))) ?_) | (refine as_i (hS.subs (List.Sublist.refl _) (by repeat (first | exact List.Sublist.refl _ | apply List.Sublist.cons_cons | apply List.Sublist.cons))) ?_) | (refine bar_f hS ?_) | (refine drawf TB_ok rfl (by kernel_rfl) (by kernel_rfl) hS (List.Sublist.refl _) (List.Sublist.refl _) ?_; intro w1 hS) | (refine br_t (by assumption) ?_) | (refine br_f (by assumption) ?_))
  refine app_f TB_ok elStr (show Sf [] w _ ([] ++ []) _ from hS) .nil (hR.below hS.nil) (flatT_len _) (flatT_one _) (by omega) (by omega) ?_
  intro v4 L4 w4 hv4 hS
  rw [Nat.zero_add, List.nil_append] at hv4
  obtain ⟨A4, c4, rfl, hv4⟩ := hv4.open
  have hlc := hv4.le
  have hno : A4 = none → l = [] ∧ c4 = 0 := fun h => by have := hv4.none h; exact ⟨List.eq_nil_of_length_eq_zero this.1, this.2⟩
  repeat ((conv => whnf); first | (apply q_i; focus (intro w1 hS; (conv => whnf); first | exact ⟨rfl, rfl⟩)) | (refine nw_f hS ?_; intro b w1 hS) | (refine as_i hS ?_) | (refine as_i (hS.subs (List.nil_sublist _) (by repeat (first | exact List.Sublist.refl _ | apply List.Sublist.cons_cons | apply List.Sublist.cons))) ?_) | (refine as_i (hS.subs (List.Sublist.refl _) (by repeat (first | exact List.Sublist.refl _ | apply List.Sublist.cons_cons | apply List.Sublist.cons))) ?_) | (refine bar_f hS ?_) | (refine drawf TB_ok rfl (by kernel_rfl) (by kernel_rfl) hS (List.Sublist.refl _) (List.Sublist.refl _) ?_; intro w1 hS) | (refine br_t (by assumption) ?_) | (refine br_f (by assumption) ?_))
  have hM := fun w h1 h2 h3 => move_c A4 c4 l B d a D e bb w (h1 : Rd w A4 (flat encT l)) (by omega) hlc hno (h2 : Rd w B (flat encT a)) (by omega) (h3 : Rd w D (flat encT bb)) (by omega)
  refine fc_m (hM _ (hv4.rdM hS (fun x hx => by simp [hx])) (hQ.below hS.nil) (hU.below hS.nil)) ?_
  rintro v w5 ⟨L5, hv5, hS'⟩
  replace hS := hS.callF hS'
  obtain ⟨A5, c5, rfl, hv5⟩ := hv5.open
  repeat ((conv => whnf); first | (apply q_i; focus (intro w1 hS; (conv => whnf); first | exact ⟨rfl, rfl⟩)) | (refine nw_f hS ?_; intro b w1 hS) | (refine as_i hS ?_) | (refine as_i (hS.subs (List.nil_sublist _) (by repeat (first | exact List.Sublist.refl _ | apply List.Sublist.cons_cons | apply List.Sublist.cons))) ?_) | (refine as_i (hS.subs (List.Sublist.refl _) (by repeat (first | exact List.Sublist.refl _ | apply List.Sublist.cons_cons | apply List.Sublist.cons))) ?_) | (refine bar_f hS ?_) | (refine drawf TB_ok rfl (by kernel_rfl) (by kernel_rfl) hS (List.Sublist.refl _) (List.Sublist.refl _) ?_; intro w1 hS) | (refine br_t (by assumption) ?_) | (refine br_f (by assumption) ?_))
  refine fc_m (up_c A4 c4 l _ (hv4.rdM hS (fun x hx => by simp [hx])) (by omega) hlc hno) ?_
  rintro v w6 ⟨A6, c6, L6, rfl, hv6, hS'⟩
  replace hS := hS.callF hS'
  repeat ((conv => whnf); first | (apply q_i; focus (intro w1 hS; (conv => whnf); first | exact ⟨rfl, rfl⟩)) | (refine nw_f hS ?_; intro b w1 hS) | (refine as_i hS ?_) | (refine as_i (hS.subs (List.nil_sublist _) (by repeat (first | exact List.Sublist.refl _ | apply List.Sublist.cons_cons | apply List.Sublist.cons))) ?_) | (refine as_i (hS.subs (List.Sublist.refl _) (by repeat (first | exact List.Sublist.refl _ | apply List.Sublist.cons_cons | apply List.Sublist.cons))) ?_) | (refine bar_f hS ?_) | (refine drawf TB_ok rfl (by kernel_rfl) (by kernel_rfl) hS (List.Sublist.refl _) (List.Sublist.refl _) ?_; intro w1 hS) | (refine br_t (by assumption) ?_) | (refine br_f (by assumption) ?_))
  refine fc_m (rup_c A c l _ (hR.below hS.nil) (by omega) hnc) ?_
  rintro v w7 ⟨A7, c7, L7, rfl, hv7, hS'⟩
  replace hS := hS.callF hS'
  have hdn : l.dropLast.length = l.length - 1 := List.length_dropLast
  have mvl : (moveT l a bb).length ≤ 50 := by
    unfold moveT
    split
    · rw [List.length_append, List.length_drop]; omega
    · omega
  have hq : (!streq (strY (l.getLast?.getD [])) (strY (l.getLast?.getD []))) = false := by rw [streq_strY, decide_eq_true rfl]; rfl
  have u1 := fun w h1 h2 => within_c B d a A c l w (h1 : Rd w B (flat encT a)) (by omega) (h2 : Rd w A (flat encT l)) hnc
  have u2 := fun w h1 h2 => rwithin_c B d a A c l w (h1 : Rd w B (flat encT a)) (by omega) (h2 : Rd w A (flat encT l))
  have u3 := fun w h1 h2 h3 => rmove_c A c l B d a D e bb w (h1 : Rd w A (flat encT l)) (by omega) hnc (h2 : Rd w B (flat encT a)) (by omega) (h3 : Rd w D (flat encT bb)) (by omega)
  have hwi : (withinB a l != withinB a l) = false := by simp
  generalize moveT l a bb = ml at *
  generalize withinB a l = wb at *
  repeat ((conv => whnf); first | (apply q_i; focus (intro w1 hS; (conv => whnf); first | exact ⟨rfl, rfl⟩ | ((refine fc_m (u1 _ (hQ.below hS.nil) (hR.below hS.nil)) ?_; rintro v w3 ⟨rfl, hS'⟩; replace hS := hS.call0 hS'); (conv => whnf); exact ⟨rfl, rfl⟩) | ((refine fc_m (u2 _ (hQ.below hS.nil) (hR.below hS.nil)) ?_; rintro v w3 ⟨rfl, hS'⟩; replace hS := hS.call0 hS'); (conv => whnf); exact ⟨rfl, rfl⟩))) | (refine nw_f hS ?_; intro b w1 hS) | (refine as_i hS ?_) | (refine as_i (hS.subs (List.nil_sublist _) (by repeat (first | exact List.Sublist.refl _ | apply List.Sublist.cons_cons | apply List.Sublist.cons))) ?_) | (refine as_i (hS.subs (List.Sublist.refl _) (by repeat (first | exact List.Sublist.refl _ | apply List.Sublist.cons_cons | apply List.Sublist.cons))) ?_) | (refine bar_f hS ?_) | (refine fc_m (u1 _ (hQ.below hS.nil) (hR.below hS.nil)) ?_; rintro v w3 ⟨rfl, hS'⟩; replace hS := hS.call0 hS') | (refine fc_m (u2 _ (hQ.below hS.nil) (hR.below hS.nil)) ?_; rintro v w3 ⟨rfl, hS'⟩; replace hS := hS.call0 hS') | (refine drawf TB_ok rfl (by kernel_rfl) (by kernel_rfl) hS (List.Sublist.refl _) (List.Sublist.refl _) ?_; intro w1 hS) | (refine br_t (by assumption) ?_) | (refine br_f (by assumption) ?_))
  refine fc_m (u3 _ (hR.below hS.nil) (hQ.below hS.nil) (hU.below hS.nil)) ?_
  rintro v w9 ⟨L9, hv9, hS'⟩
  replace hS := hS.callF hS'
  obtain ⟨A9, c9, rfl, hv9⟩ := hv9.open
  have u4 := fun w h1 h2 => rsame_c A5 c5 ml A9 c9 ml w (h1 : Rd w A5 (flat encT ml)) (by omega) (h2 : Rd w A9 (flat encT ml))
  have u5 := fun w h1 h2 => rsame_c A6 c6 l.dropLast A7 c7 l.dropLast w (h1 : Rd w A6 (flat encT l.dropLast)) (by omega) (h2 : Rd w A7 (flat encT l.dropLast))
  have u6 := fun w h1 h2 => rsame_c A4 c4 l A c l w (h1 : Rd w A4 (flat encT l)) (by omega) (h2 : Rd w A (flat encT l))
  rw [decide_eq_true (show ml = ml from rfl)] at u4
  rw [decide_eq_true (show l.dropLast = l.dropLast from rfl)] at u5
  rw [decide_eq_true (show l = l from rfl)] at u6
  repeat ((conv => whnf); first | (apply q_i; focus (intro w1 hS; (conv => whnf); first | exact ⟨rfl, rfl⟩ | ((refine fc_m (u4 _ (hv5.rdM hS (fun x hx => by simp [hx])) (hv9.rdM hS (fun x hx => by simp [hx]))) ?_; rintro v w3 ⟨rfl, hS'⟩; replace hS := hS.call0 hS'); (conv => whnf); exact ⟨rfl, rfl⟩) | ((refine fc_m (u5 _ (hv6.rdM hS (fun x hx => by simp [hx])) (hv7.rdM hS (fun x hx => by simp [hx]))) ?_; rintro v w3 ⟨rfl, hS'⟩; replace hS := hS.call0 hS'); (conv => whnf); exact ⟨rfl, rfl⟩))) | (refine nw_f hS ?_; intro b w1 hS) | (refine as_i hS ?_) | (refine as_i (hS.subs (List.nil_sublist _) (by repeat (first | exact List.Sublist.refl _ | apply List.Sublist.cons_cons | apply List.Sublist.cons))) ?_) | (refine as_i (hS.subs (List.Sublist.refl _) (by repeat (first | exact List.Sublist.refl _ | apply List.Sublist.cons_cons | apply List.Sublist.cons))) ?_) | (refine bar_f hS ?_) | (refine fc_m (u4 _ (hv5.rdM hS (fun x hx => by simp [hx])) (hv9.rdM hS (fun x hx => by simp [hx]))) ?_; rintro v w3 ⟨rfl, hS'⟩; replace hS := hS.call0 hS') | (refine fc_m (u5 _ (hv6.rdM hS (fun x hx => by simp [hx])) (hv7.rdM hS (fun x hx => by simp [hx]))) ?_; rintro v w3 ⟨rfl, hS'⟩; replace hS := hS.call0 hS') | (refine drawf TB_ok rfl (by kernel_rfl) (by kernel_rfl) hS (List.Sublist.refl _) (List.Sublist.refl _) ?_; intro w1 hS) | (refine br_t (by assumption) ?_) | (refine br_f (by assumption) ?_))
  replace hS : Sf [] w _ (L6 ++ (L5 ++ (L4 ++ []))) _ := hS.subs (List.Sublist.trans (List.sublist_append_right L7 _) (List.sublist_append_right L9 _)) (List.Sublist.refl _)
  replace hS := hS.rot
  clear hv7 hv9
  refine loop_i TB_ok (fun i : Nat => [(13, .int .i64 i)]) (fun i w' => i ≤ ml.length ∧ ∃ cs Lv', cs.length = ml.length ∧ Sl 9 1 (.slice A5 ml.length c5) ml.length cs Lv' ∧ Sf [] w w' (Lv' ++ (L6 ++ (L4 ++ []))) []) (fun i => ml.length - i) 0 rfl ⟨Nat.zero_le _, flat encT ml, L5, by rw [flatT_len, Nat.mul_one], hv5, hS⟩ ?_
  rintro i us w10 ⟨hi, cs, Lv', hcs, hvs, hS⟩
  clear hv5
  by_cases hlt : i < ml.length
  · have g1 : decide ((i : Int) < (ml.length : Int)) = true := decide_eq_true (by omega)
    obtain ⟨x, off, rfl⟩ := (hvs.rdF hS).form (fun h => by rw [h] at hcs; simp at hcs; omega)
    repeat ((conv => whnf); first | (apply q_i; focus (intro w1 hS; (conv => whnf); first | exact ⟨rfl, rfl⟩ | ((refine .mk ⟨by omega, by omega⟩ ?_; refine ix_i rfl ?_); (conv => whnf); exact ⟨rfl, rfl⟩))) | (refine nw_f hS ?_; intro b w1 hS) | (refine as_i hS ?_) | (refine as_i (hS.subs (List.nil_sublist _) (by repeat (first | exact List.Sublist.refl _ | apply List.Sublist.cons_cons | apply List.Sublist.cons))) ?_) | (refine as_i (hS.subs (List.Sublist.refl _) (by repeat (first | exact List.Sublist.refl _ | apply List.Sublist.cons_cons | apply List.Sublist.cons))) ?_) | (refine bar_f hS ?_) | (refine .mk ⟨by omega, by omega⟩ ?_; refine ix_i rfl ?_) | (refine drawf TB_ok rfl (by kernel_rfl) (by kernel_rfl) hS (List.Sublist.refl _) (List.Sublist.refl _) ?_; intro w1 hS) | (refine br_t (by assumption) ?_) | (refine br_f (by assumption) ?_))
    refine st_sl hvs hS i (by omega) (show off + i * 1 = off + i from by rw [Nat.mul_one]) rfl ?_
    intro w11 Lv11 hvs hS
    repeat ((conv => whnf); first | (apply q_i; focus (intro w1 hS; (conv => whnf); first | exact ⟨rfl, rfl⟩)) | (refine nw_f hS ?_; intro b w1 hS) | (refine as_i hS ?_) | (refine as_i (hS.subs (List.nil_sublist _) (by repeat (first | exact List.Sublist.refl _ | apply List.Sublist.cons_cons | apply List.Sublist.cons))) ?_) | (refine as_i (hS.subs (List.Sublist.refl _) (by repeat (first | exact List.Sublist.refl _ | apply List.Sublist.cons_cons | apply List.Sublist.cons))) ?_) | (refine bar_f hS ?_) | (refine drawf TB_ok rfl (by kernel_rfl) (by kernel_rfl) hS (List.Sublist.refl _) (List.Sublist.refl _) ?_; intro w1 hS) | (refine br_t (by assumption) ?_) | (refine br_f (by assumption) ?_))
    refine ⟨rfl, i + 1, ?_, ⟨by omega, _, Lv11, by rw [List.length_set]; exact hcs, hvs, hS⟩, by omega⟩
    rw [wi hlt (by omega)]
    rfl
  have g1 : decide ((i : Int) < (ml.length : Int)) = false := decide_eq_false (by omega)
  repeat ((conv => whnf); first | (apply q_i; focus (intro w1 hS; (conv => whnf); first | exact ⟨rfl, rfl⟩)) | (refine nw_f hS ?_; intro b w1 hS) | (refine as_i hS ?_) | (refine as_i (hS.subs (List.nil_sublist _) (by repeat (first | exact List.Sublist.refl _ | apply List.Sublist.cons_cons | apply List.Sublist.cons))) ?_) | (refine as_i (hS.subs (List.Sublist.refl _) (by repeat (first | exact List.Sublist.refl _ | apply List.Sublist.cons_cons | apply List.Sublist.cons))) ?_) | (refine bar_f hS ?_) | (refine drawf TB_ok rfl (by kernel_rfl) (by kernel_rfl) hS (List.Sublist.refl _) (List.Sublist.refl _) ?_; intro w1 hS) | (refine br_t (by assumption) ?_) | (refine br_f (by assumption) ?_))
  replace hS : Sf [] w _ (L6 ++ (L4 ++ [])) _ := hS.subs (List.sublist_append_right _ _) (List.Sublist.refl _)
  clear hvs
  refine loop_i TB_ok (fun i : Nat => [(14, .int .i64 i)]) (fun i w' => i ≤ l.dropLast.length ∧ ∃ cs Lv', cs.length = l.dropLast.length ∧ Sl 9 1 (.slice A6 l.dropLast.length c6) l.dropLast.length cs Lv' ∧ Sf [] w w' (Lv' ++ (L4 ++ [])) []) (fun i => l.dropLast.length - i) 0 rfl ⟨Nat.zero_le _, flat encT l.dropLast, L6, by rw [flatT_len, Nat.mul_one], hv6, hS⟩ ?_
  rintro i us w10 ⟨hi, cs, Lv', hcs, hvs, hS⟩
  clear hv6
  by_cases hlt : i < l.dropLast.length
  · have g1 : decide ((i : Int) < (l.dropLast.length : Int)) = true := decide_eq_true (by omega)
    obtain ⟨x, off, rfl⟩ := (hvs.rdF hS).form (fun h => by rw [h] at hcs; simp at hcs; omega)
    repeat ((conv => whnf); first | (apply q_i; focus (intro w1 hS; (conv => whnf); first | exact ⟨rfl, rfl⟩ | ((refine .mk ⟨by omega, by omega⟩ ?_; refine ix_i rfl ?_); (conv => whnf); exact ⟨rfl, rfl⟩))) | (refine nw_f hS ?_; intro b w1 hS) | (refine as_i hS ?_) | (refine as_i (hS.subs (List.nil_sublist _) (by repeat (first | exact List.Sublist.refl _ | apply List.Sublist.cons_cons | apply List.Sublist.cons))) ?_) | (refine as_i (hS.subs (List.Sublist.refl _) (by repeat (first | exact List.Sublist.refl _ | apply List.Sublist.cons_cons | apply List.Sublist.cons))) ?_) | (refine bar_f hS ?_) | (refine .mk ⟨by omega, by omega⟩ ?_; refine ix_i rfl ?_) | (refine drawf TB_ok rfl (by kernel_rfl) (by kernel_rfl) hS (List.Sublist.refl _) (List.Sublist.refl _) ?_; intro w1 hS) | (refine br_t (by assumption) ?_) | (refine br_f (by assumption) ?_))
    refine st_sl hvs hS i (by omega) (show off + i * 1 = off + i from by rw [Nat.mul_one]) rfl ?_
    intro w11 Lv11 hvs hS
    repeat ((conv => whnf); first | (apply q_i; focus (intro w1 hS; (conv => whnf); first | exact ⟨rfl, rfl⟩)) | (refine nw_f hS ?_; intro b w1 hS) | (refine as_i hS ?_) | (refine as_i (hS.subs (List.nil_sublist _) (by repeat (first | exact List.Sublist.refl _ | apply List.Sublist.cons_cons | apply List.Sublist.cons))) ?_) | (refine as_i (hS.subs (List.Sublist.refl _) (by repeat (first | exact List.Sublist.refl _ | apply List.Sublist.cons_cons | apply List.Sublist.cons))) ?_) | (refine bar_f hS ?_) | (refine drawf TB_ok rfl (by kernel_rfl) (by kernel_rfl) hS (List.Sublist.refl _) (List.Sublist.refl _) ?_; intro w1 hS) | (refine br_t (by assumption) ?_) | (refine br_f (by assumption) ?_))
    refine ⟨rfl, i + 1, ?_, ⟨by omega, _, Lv11, by rw [List.length_set]; exact hcs, hvs, hS⟩, by omega⟩
    rw [wi hlt (by omega)]
    rfl
  have g1 : decide ((i : Int) < (l.dropLast.length : Int)) = false := decide_eq_false (by omega)
  repeat ((conv => whnf); first | (apply q_i; focus (intro w1 hS; (conv => whnf); first | exact ⟨rfl, rfl⟩ | ((refine fc_m (u6 _ (hv4.rdM hS (fun x hx => by simp [hx])) (hR.below hS.nil)) ?_; rintro v w3 ⟨rfl, hS'⟩; replace hS := hS.call0 hS'); (conv => whnf); exact ⟨rfl, rfl⟩) | ((refine fc_m (hW4 _ (he.below hS.nil) (ht.below hS.nil)) ?_; rintro v w3 ⟨rfl, hS'⟩; replace hS := hS.call0 hS'); (conv => whnf); exact ⟨rfl, rfl⟩))) | (refine nw_f hS ?_; intro b w1 hS) | (refine as_i hS ?_) | (refine as_i (hS.subs (List.nil_sublist _) (by repeat (first | exact List.Sublist.refl _ | apply List.Sublist.cons_cons | apply List.Sublist.cons))) ?_) | (refine as_i (hS.subs (List.Sublist.refl _) (by repeat (first | exact List.Sublist.refl _ | apply List.Sublist.cons_cons | apply List.Sublist.cons))) ?_) | (refine bar_f hS ?_) | (refine fc_m (u6 _ (hv4.rdM hS (fun x hx => by simp [hx])) (hR.below hS.nil)) ?_; rintro v w3 ⟨rfl, hS'⟩; replace hS := hS.call0 hS') | (refine fc_m (hW4 _ (he.below hS.nil) (ht.below hS.nil)) ?_; rintro v w3 ⟨rfl, hS'⟩; replace hS := hS.call0 hS') | (refine drawf TB_ok rfl (by kernel_rfl) (by kernel_rfl) hS (List.Sublist.refl _) (List.Sublist.refl _) ?_; intro w1 hS) | (refine br_t (by assumption) ?_) | (refine br_f (by assumption) ?_))
  exact ⟨rfl, hS.nil⟩
end Go.RV
