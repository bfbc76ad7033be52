/- The laws of chapter 4, walked: PathKnown. Conditions: none. -/
import Derived.Test.YtdlmjbnggahpjaaDoorPb9
set_option maxRecDepth 20000
set_option linter.unusedVariables false
set_option linter.unusedSimpArgs false
namespace Go.RV
open Go Go.Proofs Go.RowKit

theorem kM0 : meansB [47, 97, 46, 98] [97, 46, 98] = true := by decide +kernel
theorem kM1 : meansB [47, 49, 50, 51, 52, 53, 54, 55, 56, 47, 33, 47, 125, 47, 34] [49, 50, 51, 52, 53, 54, 55, 56, 124, 33, 124, 125, 124, 34] = true := by decide +kernel
theorem kF0 : failsB [47, 49, 50, 51, 52, 53, 54, 55, 56, 57] 3 = true := by decide +kernel
theorem kF1 : failsB [47, 97, 47, 97, 47, 97, 47, 97, 47, 97] 3 = true := by decide +kernel
theorem kF2 : failsB (Lib.repeatL [47] 37) 3 = true := by decide +kernel
theorem kF3 : failsB (Lib.repeatL [47] 36) 4 = true := by decide +kernel
theorem kF4 : failsB [47, 97, 47, 97, 47, 97, 47, 97, 47, 32] 4 = true := by decide +kernel
theorem kC0 : (nameB [97] && rightB 8 1) = false := by decide +kernel
theorem kC1 : (nameB [97] && rightB 0 0) = false := by decide +kernel
theorem kC2 : (nameB [97, 126, 48, 46, 49] && rightB 0 1) = false := by decide +kernel
theorem kC3 : (nameB [97] && rightB 0 65536) = false := by decide +kernel
theorem kX : conflictB [49, 50, 51, 52, 53, 54, 55, 56] 7 65535 [49, 50, 51, 52, 53, 54, 55, 56, 126, 55, 46, 54, 53, 53, 51, 53] = true := by decide +kernel
theorem kN0 : nameB [97, 126, 48, 46, 49] = false := by decide +kernel
theorem kN1 : nameB [97] = true := by decide +kernel
theorem kS0 : seenB [47] [] 0 0 = true := by decide +kernel
theorem kS1 : seenB [47, 100] [100] 0 0 = true := by decide +kernel
theorem kS2 : seenB [47, 49, 50, 51, 52, 53, 54, 55, 56, 47, 49, 50, 51, 52, 53, 54, 55, 56, 47, 49, 50, 51, 52, 53, 54, 55, 56, 47, 49, 50, 51, 52, 53, 54, 55, 56, 126, 55, 46, 54, 53, 53, 51, 53] [49, 50, 51, 52, 53, 54, 55, 56, 124, 49, 50, 51, 52, 53, 54, 55, 56, 124, 49, 50, 51, 52, 53, 54, 55, 56, 124, 49, 50, 51, 52, 53, 54, 55, 56] 7 65535 = true := by decide +kernel
theorem kU0 : unseenB [47, 100, 126, 48, 46, 49, 47, 97] 4 = true := by decide +kernel
theorem kU1 : unseenB [47, 97, 126] 4 = true := by decide +kernel
theorem kU2 : unseenB [47, 97, 126, 48, 46, 49, 47] 4 = true := by decide +kernel
theorem kU3 : unseenB [47, 126, 48, 46, 49] 4 = true := by decide +kernel
theorem kU4 : unseenB [47, 49, 50, 51, 52, 53, 54, 55, 56, 57, 126, 120] 3 = true := by decide +kernel
theorem kU5 : unseenB [47, 97, 47, 97, 47, 97, 47, 97, 47, 97, 126, 120] 3 = true := by decide +kernel
theorem kU6 : unseenB [47, 49, 50, 51, 52, 53, 54, 55, 56, 47, 49, 50, 51, 52, 53, 54, 55, 56, 47, 49, 50, 51, 52, 53, 54, 55, 56, 47, 49, 50, 51, 52, 53, 54, 55, 56, 126, 55, 46, 54, 53, 53, 51, 53, 48] 3 = true := by decide +kernel
theorem upK_c (A : Option Addr) (c : Nat) (l k : Nm) (t : List UInt8) (h1 : l.dropLast = k) (h2 : l.getLast?.getD [] = t) (w : World) (hR : Rd w A (flat encT l)) (hn : l.length ≤ 1000000) (hc : l.length ≤ c) (hA : A = none → l = [] ∧ c = 0) :
    Fc Tryd.prog 28 [.slice A l.length c] w fun v w' => ∃ A' c' Lv n s, n = k.length ∧ s = t ∧ v = .tuple #[.slice A' n c', .string (strY s)] ∧ Sl 9 1 (.slice A' n c') n (flat encT k) Lv ∧ St [] w w' Lv := by
  refine (up_c A c l w hR hn hc hA).mono ?_
  rintro v w' ⟨A', c', Lv, rfl, hv, hS⟩
  rw [h1] at hv
  exact ⟨A', c', Lv, _, _, rfl, rfl, by rw [h1, h2], hv, hS⟩
set_option maxHeartbeats 1000000 in
theorem pathKnown_c (w : World) (he : Errs w) (ht : Tab10 w) : Fc Tryd.prog 9 [] w fun v w' => v = .bool true ∧ St [] w w' [] := by
  refine fc_i TB_ok Tryd.func9 rfl (by kernel_rfl) ?_
  have hS := Sf.refl w
  have hW4 := fun w h1 h2 => works4_c w h1 h2
  have m0 := fun w => means_c [47, 97, 46, 98] [97, 46, 98] (by decide) w
  rw [kM0] at m0
  have m1 := fun w => means_c [47, 49, 50, 51, 52, 53, 54, 55, 56, 47, 33, 47, 125, 47, 34] [49, 50, 51, 52, 53, 54, 55, 56, 124, 33, 124, 125, 124, 34] (by decide) w
  rw [kM1] at m1
  have f0 := fun w => fails_c [47, 49, 50, 51, 52, 53, 54, 55, 56, 57] 3 (by decide) w
  rw [kF0] at f0
  have f1 := fun w => fails_c [47, 97, 47, 97, 47, 97, 47, 97, 47, 97] 3 (by decide) w
  rw [kF1] at f1
  have f2 := fun w => fails_c (Lib.repeatL [47] 37) 3 (by decide +kernel) w
  rw [kF2] at f2
  have rp2 := fun w => repeat4_c [47] 37 (by decide) (by decide) w
  have f3 := fun w => fails_c (Lib.repeatL [47] 36) 4 (by decide +kernel) w
  rw [kF3] at f3
  have rp3 := fun w => repeat4_c [47] 36 (by decide) (by decide) w
  have f4 := fun w => fails_c [47, 97, 47, 97, 47, 97, 47, 97, 47, 32] 4 (by decide) w
  rw [kF4] at f4
  repeat ((conv => whnf); first | (apply q_i; focus (intro w1 hS; (conv => whnf); first | exact ⟨rfl, rfl⟩ | ((refine fc_m (hW4 _ (he.below hS.nil) (ht.below hS.nil)) ?_; rintro v w3 ⟨rfl, hS'⟩; replace hS := hS.call0 hS'); (conv => whnf); exact ⟨rfl, rfl⟩) | ((refine fc_m (m0 _) ?_; rintro v w3 ⟨rfl, hS'⟩; replace hS := hS.call0 hS'); (conv => whnf); exact ⟨rfl, rfl⟩) | ((refine fc_m (m1 _) ?_; rintro v w3 ⟨rfl, hS'⟩; replace hS := hS.call0 hS'); (conv => whnf); exact ⟨rfl, rfl⟩) | ((refine fc_m (f0 _) ?_; rintro v w3 ⟨rfl, hS'⟩; replace hS := hS.call0 hS'); (conv => whnf); exact ⟨rfl, rfl⟩) | ((refine fc_m (f1 _) ?_; rintro v w3 ⟨rfl, hS'⟩; replace hS := hS.call0 hS'); (conv => whnf); exact ⟨rfl, rfl⟩) | ((refine fc_m (f2 _) ?_; rintro v w3 ⟨rfl, hS'⟩; replace hS := hS.call0 hS'); (conv => whnf); exact ⟨rfl, rfl⟩) | ((refine fc_m (rp2 _) ?_; rintro v w3 ⟨rfl, hS'⟩; replace hS := hS.call0 hS'); (conv => whnf); exact ⟨rfl, rfl⟩) | ((refine fc_m (f3 _) ?_; rintro v w3 ⟨rfl, hS'⟩; replace hS := hS.call0 hS'); (conv => whnf); exact ⟨rfl, rfl⟩) | ((refine fc_m (rp3 _) ?_; rintro v w3 ⟨rfl, hS'⟩; replace hS := hS.call0 hS'); (conv => whnf); exact ⟨rfl, rfl⟩) | ((refine fc_m (f4 _) ?_; rintro v w3 ⟨rfl, hS'⟩; replace hS := hS.call0 hS'); (conv => whnf); exact ⟨rfl, rfl⟩))) | (refine nw_f hS ?_; intro b w1 hS) | (refine as_i hS ?_) | (refine as_i (hS.subs (List.nil_sublist _) (by repeat (first | exact List.Sublist.refl _ | apply List.Sublist.cons_cons | apply List.Sublist.cons))) ?_) | (refine as_i (hS.subs (List.Sublist.refl _) (by repeat (first | exact List.Sublist.refl _ | apply List.Sublist.cons_cons | apply List.Sublist.cons))) ?_) | (refine bar_f hS ?_) | (refine fc_m (hW4 _ (he.below hS.nil) (ht.below hS.nil)) ?_; rintro v w3 ⟨rfl, hS'⟩; replace hS := hS.call0 hS') | (refine fc_m (m0 _) ?_; rintro v w3 ⟨rfl, hS'⟩; replace hS := hS.call0 hS') | (refine fc_m (m1 _) ?_; rintro v w3 ⟨rfl, hS'⟩; replace hS := hS.call0 hS') | (refine fc_m (f0 _) ?_; rintro v w3 ⟨rfl, hS'⟩; replace hS := hS.call0 hS') | (refine fc_m (f1 _) ?_; rintro v w3 ⟨rfl, hS'⟩; replace hS := hS.call0 hS') | (refine fc_m (f2 _) ?_; rintro v w3 ⟨rfl, hS'⟩; replace hS := hS.call0 hS') | (refine fc_m (rp2 _) ?_; rintro v w3 ⟨rfl, hS'⟩; replace hS := hS.call0 hS') | (refine fc_m (f3 _) ?_; rintro v w3 ⟨rfl, hS'⟩; replace hS := hS.call0 hS') | (refine fc_m (rp3 _) ?_; rintro v w3 ⟨rfl, hS'⟩; replace hS := hS.call0 hS') | (refine fc_m (f4 _) ?_; rintro v w3 ⟨rfl, hS'⟩; replace hS := hS.call0 hS') | (refine drawf TB_ok rfl (by kernel_rfl) (by kernel_rfl) hS (List.Sublist.refl _) (List.Sublist.refl _) ?_; intro w1 hS) | (refine br_t (by assumption) ?_) | (refine br_f (by assumption) ?_))
  refine loop_i TB_ok (fun i : Nat => [(2, .int .i64 i)]) (fun i w' => i ≤ badsL.length ∧ Sf [] w w' [] [_]) (fun i => badsL.length - i) 0 rfl ⟨Nat.zero_le _, hS⟩ ?_
  clear hS
  rintro i us w3 ⟨hi, hS⟩
  have hbl : Rd w3 _ (flat encT badsL) := hS.rd 0 rfl
  repeat ((conv => whnf); first | (apply q_i; focus (intro w1 hS; (conv => whnf); first | exact ⟨rfl, rfl⟩ | ((refine ld_f hS 0 rfl rfl ?_); (conv => whnf); exact ⟨rfl, rfl⟩) | ((refine ldA_f hS 0 rfl rfl ?_); (conv => whnf); exact ⟨rfl, rfl⟩))) | (refine nw_f hS ?_; intro b w1 hS) | (refine as_i hS ?_) | (refine as_i (hS.subs (List.nil_sublist _) (by repeat (first | exact List.Sublist.refl _ | apply List.Sublist.cons_cons | apply List.Sublist.cons))) ?_) | (refine as_i (hS.subs (List.Sublist.refl _) (by repeat (first | exact List.Sublist.refl _ | apply List.Sublist.cons_cons | apply List.Sublist.cons))) ?_) | (refine bar_f hS ?_) | (refine ld_f hS 0 rfl rfl ?_) | (refine ldA_f hS 0 rfl rfl ?_) | (refine stN_f hS 0 rfl (Nat.le_of_ble_eq_true rfl) rfl rfl ?_; (conv => whnf); intro w1 hS) | (refine stM_f hS 0 rfl (Nat.le_of_ble_eq_true rfl) rfl ?_; (conv => whnf); intro w1 hS) | (refine drawf TB_ok rfl (by kernel_rfl) (by kernel_rfl) hS (List.Sublist.refl _) (List.Sublist.refl _) ?_; intro w1 hS) | (refine br_t (by assumption) ?_) | (refine br_f (by assumption) ?_))
  refine br_i (fun hlt => ?_) (fun hlt => ?_)
  case refine_1 =>
    have h9 : i < 9 := by have := of_decide_eq_true hlt; omega
    have hlt : i < badsL.length := h9
    obtain ⟨k1, k2⟩ := bads_fail badsL[i] (List.getElem_mem hlt)
    have uc := fun w => fails_c badsL[i] 4 (by omega) w
    rw [k1] at uc
    repeat ((conv => whnf); first | (apply q_i; focus (intro w1 hS; (conv => whnf); first | exact ⟨rfl, rfl⟩ | ((refine ld_f hS 0 rfl rfl ?_); (conv => whnf); exact ⟨rfl, rfl⟩) | ((refine ldA_f hS 0 rfl rfl ?_); (conv => whnf); exact ⟨rfl, rfl⟩) | ((refine .mk ⟨by omega, by omega⟩ ?_; refine ix_i rfl ?_); (conv => whnf); exact ⟨rfl, rfl⟩) | ((refine ld_el encT_len hbl.at (i := i) (k := 0) hlt (by omega) rfl (v := .string (strY badsL[i])) rfl ?_); (conv => whnf); exact ⟨rfl, rfl⟩) | ((refine fc_m (uc _) ?_; rintro v w3 ⟨rfl, hS'⟩; replace hS := hS.call0 hS'); (conv => whnf); exact ⟨rfl, rfl⟩))) | (refine nw_f hS ?_; intro b w1 hS) | (refine as_i hS ?_) | (refine as_i (hS.subs (List.nil_sublist _) (by repeat (first | exact List.Sublist.refl _ | apply List.Sublist.cons_cons | apply List.Sublist.cons))) ?_) | (refine as_i (hS.subs (List.Sublist.refl _) (by repeat (first | exact List.Sublist.refl _ | apply List.Sublist.cons_cons | apply List.Sublist.cons))) ?_) | (refine bar_f hS ?_) | (refine ld_f hS 0 rfl rfl ?_) | (refine ldA_f hS 0 rfl rfl ?_) | (refine stN_f hS 0 rfl (Nat.le_of_ble_eq_true rfl) rfl rfl ?_; (conv => whnf); intro w1 hS) | (refine stM_f hS 0 rfl (Nat.le_of_ble_eq_true rfl) rfl ?_; (conv => whnf); intro w1 hS) | (refine .mk ⟨by omega, by omega⟩ ?_; refine ix_i rfl ?_) | (refine ld_el encT_len hbl.at (i := i) (k := 0) hlt (by omega) rfl (v := .string (strY badsL[i])) rfl ?_) | (refine fc_m (uc _) ?_; rintro v w3 ⟨rfl, hS'⟩; replace hS := hS.call0 hS') | (refine drawf TB_ok rfl (by kernel_rfl) (by kernel_rfl) hS (List.Sublist.refl _) (List.Sublist.refl _) ?_; intro w1 hS) | (refine br_t (by assumption) ?_) | (refine br_f (by assumption) ?_))
    refine ⟨rfl, i + 1, ?_, ⟨hlt, hS⟩, Nat.sub_lt_sub_left hlt (Nat.lt_succ_self i)⟩
    rw [wi h9 (by decide)]
    rfl
  clear hbl
  clear m0 m1 f0 f1 f2 f3 f4 rp2 rp3
  repeat ((conv => whnf); first | (apply q_i; focus (intro w1 hS; (conv => whnf); first | exact ⟨rfl, rfl⟩ | ((refine ld_f hS 0 rfl rfl ?_); (conv => whnf); exact ⟨rfl, rfl⟩) | ((refine ldA_f hS 0 rfl rfl ?_); (conv => whnf); exact ⟨rfl, rfl⟩))) | (refine nw_f hS ?_; intro b w1 hS) | (refine as_i hS ?_) | (refine as_i (hS.subs (List.nil_sublist _) (by repeat (first | exact List.Sublist.refl _ | apply List.Sublist.cons_cons | apply List.Sublist.cons))) ?_) | (refine as_i (hS.subs (List.Sublist.refl _) (by repeat (first | exact List.Sublist.refl _ | apply List.Sublist.cons_cons | apply List.Sublist.cons))) ?_) | (refine bar_f hS ?_) | (refine ld_f hS 0 rfl rfl ?_) | (refine ldA_f hS 0 rfl rfl ?_) | (refine stN_f hS 0 rfl (Nat.le_of_ble_eq_true rfl) rfl rfl ?_; (conv => whnf); intro w1 hS) | (refine stM_f hS 0 rfl (Nat.le_of_ble_eq_true rfl) rfl ?_; (conv => whnf); intro w1 hS) | (refine drawf TB_ok rfl (by kernel_rfl) (by kernel_rfl) hS (List.Sublist.refl _) (List.Sublist.refl _) ?_; intro w1 hS) | (refine br_t (by assumption) ?_) | (refine br_f (by assumption) ?_))
  refine loop_i TB_ok (fun i : Nat => [(4, .int .i64 i)]) (fun i w' => i ≤ nonesL.length ∧ Sf [] w w' [] [_, _]) (fun i => nonesL.length - i) 0 rfl ⟨Nat.zero_le _, hS⟩ ?_
  clear hS
  rintro i us w3 ⟨hi, hS⟩
  have hbl : Rd w3 _ (flat encT nonesL) := hS.rd 0 rfl
  repeat ((conv => whnf); first | (apply q_i; focus (intro w1 hS; (conv => whnf); first | exact ⟨rfl, rfl⟩ | ((refine ld_f hS 0 rfl rfl ?_); (conv => whnf); exact ⟨rfl, rfl⟩) | ((refine ldA_f hS 0 rfl rfl ?_); (conv => whnf); exact ⟨rfl, rfl⟩))) | (refine nw_f hS ?_; intro b w1 hS) | (refine as_i hS ?_) | (refine as_i (hS.subs (List.nil_sublist _) (by repeat (first | exact List.Sublist.refl _ | apply List.Sublist.cons_cons | apply List.Sublist.cons))) ?_) | (refine as_i (hS.subs (List.Sublist.refl _) (by repeat (first | exact List.Sublist.refl _ | apply List.Sublist.cons_cons | apply List.Sublist.cons))) ?_) | (refine bar_f hS ?_) | (refine ld_f hS 0 rfl rfl ?_) | (refine ldA_f hS 0 rfl rfl ?_) | (refine stN_f hS 0 rfl (Nat.le_of_ble_eq_true rfl) rfl rfl ?_; (conv => whnf); intro w1 hS) | (refine stM_f hS 0 rfl (Nat.le_of_ble_eq_true rfl) rfl ?_; (conv => whnf); intro w1 hS) | (refine drawf TB_ok rfl (by kernel_rfl) (by kernel_rfl) hS (List.Sublist.refl _) (List.Sublist.refl _) ?_; intro w1 hS) | (refine br_t (by assumption) ?_) | (refine br_f (by assumption) ?_))
  refine br_i (fun hlt => ?_) (fun hlt => ?_)
  case refine_1 =>
    have h9 : i < 16 := by have := of_decide_eq_true hlt; omega
    have hlt : i < nonesL.length := h9
    obtain ⟨k1, k2⟩ := nones_plain nonesL[i] (List.getElem_mem hlt)
    have uc := fun w h1 h2 => plain_c nonesL[i] (by omega) w h1 h2
    rw [k1] at uc
    repeat ((conv => whnf); first | (apply q_i; focus (intro w1 hS; (conv => whnf); first | exact ⟨rfl, rfl⟩ | ((refine ld_f hS 0 rfl rfl ?_); (conv => whnf); exact ⟨rfl, rfl⟩) | ((refine ldA_f hS 0 rfl rfl ?_); (conv => whnf); exact ⟨rfl, rfl⟩) | ((refine .mk ⟨by omega, by omega⟩ ?_; refine ix_i rfl ?_); (conv => whnf); exact ⟨rfl, rfl⟩) | ((refine ld_el encT_len hbl.at (i := i) (k := 0) hlt (by omega) rfl (v := .string (strY nonesL[i])) rfl ?_); (conv => whnf); exact ⟨rfl, rfl⟩) | ((refine fc_m (uc _ (he.below hS.nil) (ht.below hS.nil)) ?_; rintro v w3 ⟨rfl, hS'⟩; replace hS := hS.call0 hS'); (conv => whnf); exact ⟨rfl, rfl⟩))) | (refine nw_f hS ?_; intro b w1 hS) | (refine as_i hS ?_) | (refine as_i (hS.subs (List.nil_sublist _) (by repeat (first | exact List.Sublist.refl _ | apply List.Sublist.cons_cons | apply List.Sublist.cons))) ?_) | (refine as_i (hS.subs (List.Sublist.refl _) (by repeat (first | exact List.Sublist.refl _ | apply List.Sublist.cons_cons | apply List.Sublist.cons))) ?_) | (refine bar_f hS ?_) | (refine ld_f hS 0 rfl rfl ?_) | (refine ldA_f hS 0 rfl rfl ?_) | (refine stN_f hS 0 rfl (Nat.le_of_ble_eq_true rfl) rfl rfl ?_; (conv => whnf); intro w1 hS) | (refine stM_f hS 0 rfl (Nat.le_of_ble_eq_true rfl) rfl ?_; (conv => whnf); intro w1 hS) | (refine .mk ⟨by omega, by omega⟩ ?_; refine ix_i rfl ?_) | (refine ld_el encT_len hbl.at (i := i) (k := 0) hlt (by omega) rfl (v := .string (strY nonesL[i])) rfl ?_) | (refine fc_m (uc _ (he.below hS.nil) (ht.below hS.nil)) ?_; rintro v w3 ⟨rfl, hS'⟩; replace hS := hS.call0 hS') | (refine drawf TB_ok rfl (by kernel_rfl) (by kernel_rfl) hS (List.Sublist.refl _) (List.Sublist.refl _) ?_; intro w1 hS) | (refine br_t (by assumption) ?_) | (refine br_f (by assumption) ?_))
    refine ⟨rfl, i + 1, ?_, ⟨hlt, hS⟩, Nat.sub_lt_sub_left hlt (Nat.lt_succ_self i)⟩
    rw [wi h9 (by decide)]
    rfl
  clear hbl
  have c0 := fun w h => conflict_c [97] (by decide) 8 1 (by decide) (by decide) w h
  rw [kC0] at c0
  have c1 := fun w h => conflict_c [97] (by decide) 0 0 (by decide) (by decide) w h
  rw [kC1] at c1
  have c2 := fun w h => conflict_c [97, 126, 48, 46, 49] (by decide) 0 1 (by decide) (by decide) w h
  rw [kC2] at c2
  have c3 := fun w h => conflict_c [97] (by decide) 0 65536 (by decide) (by decide) w h
  rw [kC3] at c3
  have x := fun w h1 h2 => lconf_c [49, 50, 51, 52, 53, 54, 55, 56] 7 65535 [49, 50, 51, 52, 53, 54, 55, 56, 126, 55, 46, 54, 53, 53, 51, 53] (by decide) (by decide) (by decide) (by decide) w h1 h2
  rw [kX] at x
  have n0 := fun w => pname_c [97, 126, 48, 46, 49] w
  rw [kN0] at n0
  have n1 := fun w => pname_c [97] w
  rw [kN1] at n1
  repeat ((conv => whnf); first | (apply q_i; focus (intro w1 hS; (conv => whnf); first | exact ⟨rfl, rfl⟩ | ((refine ld_f hS 0 rfl rfl ?_); (conv => whnf); exact ⟨rfl, rfl⟩) | ((refine ldA_f hS 0 rfl rfl ?_); (conv => whnf); exact ⟨rfl, rfl⟩) | ((refine fc_m (c0 _ (fun _ => ⟨digs_tab (ht.below hS.nil) (by decide) (by decide), digs_tab (ht.below hS.nil) (by decide) (by decide)⟩)) ?_; rintro v w3 ⟨rfl, hS'⟩; replace hS := hS.call0 hS'); (conv => whnf); exact ⟨rfl, rfl⟩) | ((refine fc_m (c1 _ (fun _ => ⟨digs_tab (ht.below hS.nil) (by decide) (by decide), digs_tab (ht.below hS.nil) (by decide) (by decide)⟩)) ?_; rintro v w3 ⟨rfl, hS'⟩; replace hS := hS.call0 hS'); (conv => whnf); exact ⟨rfl, rfl⟩) | ((refine fc_m (c2 _ (fun _ => ⟨digs_tab (ht.below hS.nil) (by decide) (by decide), digs_tab (ht.below hS.nil) (by decide) (by decide)⟩)) ?_; rintro v w3 ⟨rfl, hS'⟩; replace hS := hS.call0 hS'); (conv => whnf); exact ⟨rfl, rfl⟩) | ((refine fc_m (c3 _ (fun _ => ⟨digs_tab (ht.below hS.nil) (by decide) (by decide), digs_tab (ht.below hS.nil) (by decide) (by decide)⟩)) ?_; rintro v w3 ⟨rfl, hS'⟩; replace hS := hS.call0 hS'); (conv => whnf); exact ⟨rfl, rfl⟩) | ((refine fc_m (x _ (he.below hS.nil) (ht.below hS.nil)) ?_; rintro v w3 ⟨rfl, hS'⟩; replace hS := hS.call0 hS'); (conv => whnf); exact ⟨rfl, rfl⟩) | ((refine fc_m (n0 _) ?_; rintro v w3 ⟨rfl, hS'⟩; replace hS := hS.call0 hS'); (conv => whnf); exact ⟨rfl, rfl⟩) | ((refine fc_m (n1 _) ?_; rintro v w3 ⟨rfl, hS'⟩; replace hS := hS.call0 hS'); (conv => whnf); exact ⟨rfl, rfl⟩))) | (refine nw_f hS ?_; intro b w1 hS) | (refine as_i hS ?_) | (refine as_i (hS.subs (List.nil_sublist _) (by repeat (first | exact List.Sublist.refl _ | apply List.Sublist.cons_cons | apply List.Sublist.cons))) ?_) | (refine as_i (hS.subs (List.Sublist.refl _) (by repeat (first | exact List.Sublist.refl _ | apply List.Sublist.cons_cons | apply List.Sublist.cons))) ?_) | (refine bar_f hS ?_) | (refine ld_f hS 0 rfl rfl ?_) | (refine ldA_f hS 0 rfl rfl ?_) | (refine stN_f hS 0 rfl (Nat.le_of_ble_eq_true rfl) rfl rfl ?_; (conv => whnf); intro w1 hS) | (refine stM_f hS 0 rfl (Nat.le_of_ble_eq_true rfl) rfl ?_; (conv => whnf); intro w1 hS) | (refine fc_m (c0 _ (fun _ => ⟨digs_tab (ht.below hS.nil) (by decide) (by decide), digs_tab (ht.below hS.nil) (by decide) (by decide)⟩)) ?_; rintro v w3 ⟨rfl, hS'⟩; replace hS := hS.call0 hS') | (refine fc_m (c1 _ (fun _ => ⟨digs_tab (ht.below hS.nil) (by decide) (by decide), digs_tab (ht.below hS.nil) (by decide) (by decide)⟩)) ?_; rintro v w3 ⟨rfl, hS'⟩; replace hS := hS.call0 hS') | (refine fc_m (c2 _ (fun _ => ⟨digs_tab (ht.below hS.nil) (by decide) (by decide), digs_tab (ht.below hS.nil) (by decide) (by decide)⟩)) ?_; rintro v w3 ⟨rfl, hS'⟩; replace hS := hS.call0 hS') | (refine fc_m (c3 _ (fun _ => ⟨digs_tab (ht.below hS.nil) (by decide) (by decide), digs_tab (ht.below hS.nil) (by decide) (by decide)⟩)) ?_; rintro v w3 ⟨rfl, hS'⟩; replace hS := hS.call0 hS') | (refine fc_m (x _ (he.below hS.nil) (ht.below hS.nil)) ?_; rintro v w3 ⟨rfl, hS'⟩; replace hS := hS.call0 hS') | (refine fc_m (n0 _) ?_; rintro v w3 ⟨rfl, hS'⟩; replace hS := hS.call0 hS') | (refine fc_m (n1 _) ?_; rintro v w3 ⟨rfl, hS'⟩; replace hS := hS.call0 hS') | (refine drawf TB_ok rfl (by kernel_rfl) (by kernel_rfl) hS (List.Sublist.refl _) (List.Sublist.refl _) ?_; intro w1 hS) | (refine br_t (by assumption) ?_) | (refine br_f (by assumption) ?_))
  clear c0 c1 c2 c3 x n0 n1
  have s0 := fun w h1 h2 => lseen_c [47] [] 0 0 (by decide) w h1 h2
  rw [kS0] at s0
  have s1 := fun w h1 h2 => lseen_c [47, 100] [100] 0 0 (by decide) w h1 h2
  rw [kS1] at s1
  have s2 := fun w h1 h2 => lseen_c [47, 49, 50, 51, 52, 53, 54, 55, 56, 47, 49, 50, 51, 52, 53, 54, 55, 56, 47, 49, 50, 51, 52, 53, 54, 55, 56, 47, 49, 50, 51, 52, 53, 54, 55, 56, 126, 55, 46, 54, 53, 53, 51, 53] [49, 50, 51, 52, 53, 54, 55, 56, 124, 49, 50, 51, 52, 53, 54, 55, 56, 124, 49, 50, 51, 52, 53, 54, 55, 56, 124, 49, 50, 51, 52, 53, 54, 55, 56] 7 65535 (by decide) w h1 h2
  rw [kS2] at s2
  have u0 := fun w h1 h2 => unseen_c [47, 100, 126, 48, 46, 49, 47, 97] 4 (by decide) w h1 h2
  rw [kU0] at u0
  have u1 := fun w h1 h2 => unseen_c [47, 97, 126] 4 (by decide) w h1 h2
  rw [kU1] at u1
  have u2 := fun w h1 h2 => unseen_c [47, 97, 126, 48, 46, 49, 47] 4 (by decide) w h1 h2
  rw [kU2] at u2
  have u3 := fun w h1 h2 => unseen_c [47, 126, 48, 46, 49] 4 (by decide) w h1 h2
  rw [kU3] at u3
  have u4 := fun w h1 h2 => unseen_c [47, 49, 50, 51, 52, 53, 54, 55, 56, 57, 126, 120] 3 (by decide) w h1 h2
  rw [kU4] at u4
  have u5 := fun w h1 h2 => unseen_c [47, 97, 47, 97, 47, 97, 47, 97, 47, 97, 126, 120] 3 (by decide) w h1 h2
  rw [kU5] at u5
  have u6 := fun w h1 h2 => unseen_c [47, 49, 50, 51, 52, 53, 54, 55, 56, 47, 49, 50, 51, 52, 53, 54, 55, 56, 47, 49, 50, 51, 52, 53, 54, 55, 56, 47, 49, 50, 51, 52, 53, 54, 55, 56, 126, 55, 46, 54, 53, 53, 51, 53, 48] 3 (by decide) w h1 h2
  rw [kU6] at u6
  repeat ((conv => whnf); first | (apply q_i; focus (intro w1 hS; (conv => whnf); first | exact ⟨rfl, rfl⟩ | ((refine ld_f hS 0 rfl rfl ?_); (conv => whnf); exact ⟨rfl, rfl⟩) | ((refine ldA_f hS 0 rfl rfl ?_); (conv => whnf); exact ⟨rfl, rfl⟩) | ((refine fc_m (s0 _ (he.below hS.nil) (ht.below hS.nil)) ?_; rintro v w3 ⟨rfl, hS'⟩; replace hS := hS.call0 hS'); (conv => whnf); exact ⟨rfl, rfl⟩) | ((refine fc_m (s1 _ (he.below hS.nil) (ht.below hS.nil)) ?_; rintro v w3 ⟨rfl, hS'⟩; replace hS := hS.call0 hS'); (conv => whnf); exact ⟨rfl, rfl⟩) | ((refine fc_m (s2 _ (he.below hS.nil) (ht.below hS.nil)) ?_; rintro v w3 ⟨rfl, hS'⟩; replace hS := hS.call0 hS'); (conv => whnf); exact ⟨rfl, rfl⟩) | ((refine fc_m (u0 _ (he.below hS.nil) (ht.below hS.nil)) ?_; rintro v w3 ⟨rfl, hS'⟩; replace hS := hS.call0 hS'); (conv => whnf); exact ⟨rfl, rfl⟩) | ((refine fc_m (u1 _ (he.below hS.nil) (ht.below hS.nil)) ?_; rintro v w3 ⟨rfl, hS'⟩; replace hS := hS.call0 hS'); (conv => whnf); exact ⟨rfl, rfl⟩) | ((refine fc_m (u2 _ (he.below hS.nil) (ht.below hS.nil)) ?_; rintro v w3 ⟨rfl, hS'⟩; replace hS := hS.call0 hS'); (conv => whnf); exact ⟨rfl, rfl⟩) | ((refine fc_m (u3 _ (he.below hS.nil) (ht.below hS.nil)) ?_; rintro v w3 ⟨rfl, hS'⟩; replace hS := hS.call0 hS'); (conv => whnf); exact ⟨rfl, rfl⟩) | ((refine fc_m (u4 _ (he.below hS.nil) (ht.below hS.nil)) ?_; rintro v w3 ⟨rfl, hS'⟩; replace hS := hS.call0 hS'); (conv => whnf); exact ⟨rfl, rfl⟩) | ((refine fc_m (u5 _ (he.below hS.nil) (ht.below hS.nil)) ?_; rintro v w3 ⟨rfl, hS'⟩; replace hS := hS.call0 hS'); (conv => whnf); exact ⟨rfl, rfl⟩) | ((refine fc_m (u6 _ (he.below hS.nil) (ht.below hS.nil)) ?_; rintro v w3 ⟨rfl, hS'⟩; replace hS := hS.call0 hS'); (conv => whnf); exact ⟨rfl, rfl⟩))) | (refine nw_f hS ?_; intro b w1 hS) | (refine as_i hS ?_) | (refine as_i (hS.subs (List.nil_sublist _) (by repeat (first | exact List.Sublist.refl _ | apply List.Sublist.cons_cons | apply List.Sublist.cons))) ?_) | (refine as_i (hS.subs (List.Sublist.refl _) (by repeat (first | exact List.Sublist.refl _ | apply List.Sublist.cons_cons | apply List.Sublist.cons))) ?_) | (refine bar_f hS ?_) | (refine ld_f hS 0 rfl rfl ?_) | (refine ldA_f hS 0 rfl rfl ?_) | (refine stN_f hS 0 rfl (Nat.le_of_ble_eq_true rfl) rfl rfl ?_; (conv => whnf); intro w1 hS) | (refine stM_f hS 0 rfl (Nat.le_of_ble_eq_true rfl) rfl ?_; (conv => whnf); intro w1 hS) | (refine fc_m (s0 _ (he.below hS.nil) (ht.below hS.nil)) ?_; rintro v w3 ⟨rfl, hS'⟩; replace hS := hS.call0 hS') | (refine fc_m (s1 _ (he.below hS.nil) (ht.below hS.nil)) ?_; rintro v w3 ⟨rfl, hS'⟩; replace hS := hS.call0 hS') | (refine fc_m (s2 _ (he.below hS.nil) (ht.below hS.nil)) ?_; rintro v w3 ⟨rfl, hS'⟩; replace hS := hS.call0 hS') | (refine fc_m (u0 _ (he.below hS.nil) (ht.below hS.nil)) ?_; rintro v w3 ⟨rfl, hS'⟩; replace hS := hS.call0 hS') | (refine fc_m (u1 _ (he.below hS.nil) (ht.below hS.nil)) ?_; rintro v w3 ⟨rfl, hS'⟩; replace hS := hS.call0 hS') | (refine fc_m (u2 _ (he.below hS.nil) (ht.below hS.nil)) ?_; rintro v w3 ⟨rfl, hS'⟩; replace hS := hS.call0 hS') | (refine fc_m (u3 _ (he.below hS.nil) (ht.below hS.nil)) ?_; rintro v w3 ⟨rfl, hS'⟩; replace hS := hS.call0 hS') | (refine fc_m (u4 _ (he.below hS.nil) (ht.below hS.nil)) ?_; rintro v w3 ⟨rfl, hS'⟩; replace hS := hS.call0 hS') | (refine fc_m (u5 _ (he.below hS.nil) (ht.below hS.nil)) ?_; rintro v w3 ⟨rfl, hS'⟩; replace hS := hS.call0 hS') | (refine fc_m (u6 _ (he.below hS.nil) (ht.below hS.nil)) ?_; rintro v w3 ⟨rfl, hS'⟩; replace hS := hS.call0 hS') | (refine drawf TB_ok rfl (by kernel_rfl) (by kernel_rfl) hS (List.Sublist.refl _) (List.Sublist.refl _) ?_; intro w1 hS) | (refine br_t (by assumption) ?_) | (refine br_f (by assumption) ?_))
  refine fc_m (upK_c _ 2 [[97], [98]] [[97]] [98] rfl rfl _ (hS.rd 0 rfl) (by decide) (by decide) (fun h => by cases h)) ?_
  rintro v w5 ⟨A5, c5, L5, n5, s5, hn5, hs5, rfl, hv5, hS'⟩
  replace hS := hS.callF hS'
  repeat ((conv => whnf); first | (apply q_i; focus (intro w1 hS; (conv => whnf); first | exact ⟨rfl, rfl⟩ | ((refine ld_f hS 0 rfl rfl ?_); (conv => whnf); exact ⟨rfl, rfl⟩) | ((refine ldA_f hS 0 rfl rfl ?_); (conv => whnf); exact ⟨rfl, rfl⟩))) | (refine nw_f hS ?_; intro b w1 hS) | (refine as_i hS ?_) | (refine as_i (hS.subs (List.nil_sublist _) (by repeat (first | exact List.Sublist.refl _ | apply List.Sublist.cons_cons | apply List.Sublist.cons))) ?_) | (refine as_i (hS.subs (List.Sublist.refl _) (by repeat (first | exact List.Sublist.refl _ | apply List.Sublist.cons_cons | apply List.Sublist.cons))) ?_) | (refine bar_f hS ?_) | (refine ld_f hS 0 rfl rfl ?_) | (refine ldA_f hS 0 rfl rfl ?_) | (refine stN_f hS 0 rfl (Nat.le_of_ble_eq_true rfl) rfl rfl ?_; (conv => whnf); intro w1 hS) | (refine stM_f hS 0 rfl (Nat.le_of_ble_eq_true rfl) rfl ?_; (conv => whnf); intro w1 hS) | (refine drawf TB_ok rfl (by kernel_rfl) (by kernel_rfl) hS (List.Sublist.refl _) (List.Sublist.refl _) ?_; intro w1 hS) | (refine br_t (by assumption) ?_) | (refine br_f (by assumption) ?_))
  refine fc_m (upK_c none 0 [] [] [] rfl rfl _ (.inl rfl) (by decide) (by decide) (fun _ => ⟨rfl, rfl⟩)) ?_
  rintro v w6 ⟨A6, c6, L6, n6, s6, hn6, hs6, rfl, hv6, hS'⟩
  replace hS := hS.callF hS'
  repeat ((conv => whnf); first | (apply q_i; focus (intro w1 hS; (conv => whnf); first | exact ⟨rfl, rfl⟩ | ((refine ld_f hS 0 rfl rfl ?_); (conv => whnf); exact ⟨rfl, rfl⟩) | ((refine ldA_f hS 0 rfl rfl ?_); (conv => whnf); exact ⟨rfl, rfl⟩))) | (refine nw_f hS ?_; intro b w1 hS) | (refine as_i hS ?_) | (refine as_i (hS.subs (List.nil_sublist _) (by repeat (first | exact List.Sublist.refl _ | apply List.Sublist.cons_cons | apply List.Sublist.cons))) ?_) | (refine as_i (hS.subs (List.Sublist.refl _) (by repeat (first | exact List.Sublist.refl _ | apply List.Sublist.cons_cons | apply List.Sublist.cons))) ?_) | (refine bar_f hS ?_) | (refine ld_f hS 0 rfl rfl ?_) | (refine ldA_f hS 0 rfl rfl ?_) | (refine stN_f hS 0 rfl (Nat.le_of_ble_eq_true rfl) rfl rfl ?_; (conv => whnf); intro w1 hS) | (refine stM_f hS 0 rfl (Nat.le_of_ble_eq_true rfl) rfl ?_; (conv => whnf); intro w1 hS) | (refine drawf TB_ok rfl (by kernel_rfl) (by kernel_rfl) hS (List.Sublist.refl _) (List.Sublist.refl _) ?_; intro w1 hS) | (refine br_t (by assumption) ?_) | (refine br_f (by assumption) ?_))
  have g1 : streq (strY s5) ⟨#[98]⟩ = true := by rw [hs5]; decide +kernel
  have g2 : streq (strY s6) ⟨#[]⟩ = true := by rw [hs6]; decide +kernel
  have g3 : ((n6 : Int) == 0) = true := by rw [hn6]; rfl
  have v1 : ∀ B w, Rd w A5 (flat encT [[97]]) → Rd w B (flat encT [[97]]) → Fc Tryd.prog 26 [.slice A5 n5 c5, .slice B 1 1] w fun v w' => v = .bool true ∧ St [] w w' [] := by
    intro B w h1 h2
    have := lsame_c A5 c5 [[97]] B 1 [[97]] w h1 (by decide) h2
    rw [decide_eq_true (show ([[97]] : Nm) = [[97]] from rfl)] at this
    rw [hn5]
    exact this
  have hmv : moveT [[97], [98], [99]] [[97], [98]] [[120]] = [[120], [99]] := by decide +kernel
  refine fc_m (v1 _ _ (hv5.rdM hS (fun x hx => by simp [hx])) (hS.rd 0 rfl)) ?_
  rintro v w7 ⟨rfl, hS'⟩
  replace hS := hS.call0 hS'
  repeat ((conv => whnf); first | (apply q_i; focus (intro w1 hS; (conv => whnf); first | exact ⟨rfl, rfl⟩ | ((refine ld_f hS 0 rfl rfl ?_); (conv => whnf); exact ⟨rfl, rfl⟩) | ((refine ldA_f hS 0 rfl rfl ?_); (conv => whnf); exact ⟨rfl, rfl⟩))) | (refine nw_f hS ?_; intro b w1 hS) | (refine as_i hS ?_) | (refine as_i (hS.subs (List.nil_sublist _) (by repeat (first | exact List.Sublist.refl _ | apply List.Sublist.cons_cons | apply List.Sublist.cons))) ?_) | (refine as_i (hS.subs (List.Sublist.refl _) (by repeat (first | exact List.Sublist.refl _ | apply List.Sublist.cons_cons | apply List.Sublist.cons))) ?_) | (refine bar_f hS ?_) | (refine ld_f hS 0 rfl rfl ?_) | (refine ldA_f hS 0 rfl rfl ?_) | (refine stN_f hS 0 rfl (Nat.le_of_ble_eq_true rfl) rfl rfl ?_; (conv => whnf); intro w1 hS) | (refine stM_f hS 0 rfl (Nat.le_of_ble_eq_true rfl) rfl ?_; (conv => whnf); intro w1 hS) | (refine drawf TB_ok rfl (by kernel_rfl) (by kernel_rfl) hS (List.Sublist.refl _) (List.Sublist.refl _) ?_; intro w1 hS) | (refine br_t (by assumption) ?_) | (refine br_f (by assumption) ?_))
  refine fc_m (move_c _ 3 [[97], [98], [99]] _ 2 [[97], [98]] _ 1 [[120]] _ (hS.rd 2 rfl) (by decide) (by decide) (fun h => by cases h) (hS.rd 1 rfl) (by decide) (hS.rd 0 rfl) (by decide)) ?_
  rintro v w8 ⟨L8, hv8, hS'⟩
  replace hS := hS.callF hS'
  rw [hmv] at hv8
  obtain ⟨n8, hn8⟩ : ∃ n, n = ([[120], [99]] : Nm).length := ⟨_, rfl⟩
  rw [← hn8] at hv8
  obtain ⟨A8, c8, rfl, hv8⟩ := hv8.open
  have v2 : ∀ B w, Rd w A8 (flat encT [[120], [99]]) → Rd w B (flat encT [[120], [99]]) → Fc Tryd.prog 26 [.slice A8 n8 c8, .slice B 2 2] w fun v w' => v = .bool true ∧ St [] w w' [] := by
    intro B w h1 h2
    have := lsame_c A8 c8 [[120], [99]] B 2 [[120], [99]] w h1 (by decide) h2
    rw [decide_eq_true (show ([[120], [99]] : Nm) = [[120], [99]] from rfl)] at this
    rw [hn8]
    exact this
  repeat ((conv => whnf); first | (apply q_i; focus (intro w1 hS; (conv => whnf); first | exact ⟨rfl, rfl⟩ | ((refine ld_f hS 0 rfl rfl ?_); (conv => whnf); exact ⟨rfl, rfl⟩) | ((refine ldA_f hS 0 rfl rfl ?_); (conv => whnf); exact ⟨rfl, rfl⟩))) | (refine nw_f hS ?_; intro b w1 hS) | (refine as_i hS ?_) | (refine as_i (hS.subs (List.nil_sublist _) (by repeat (first | exact List.Sublist.refl _ | apply List.Sublist.cons_cons | apply List.Sublist.cons))) ?_) | (refine as_i (hS.subs (List.Sublist.refl _) (by repeat (first | exact List.Sublist.refl _ | apply List.Sublist.cons_cons | apply List.Sublist.cons))) ?_) | (refine bar_f hS ?_) | (refine ld_f hS 0 rfl rfl ?_) | (refine ldA_f hS 0 rfl rfl ?_) | (refine stN_f hS 0 rfl (Nat.le_of_ble_eq_true rfl) rfl rfl ?_; (conv => whnf); intro w1 hS) | (refine stM_f hS 0 rfl (Nat.le_of_ble_eq_true rfl) rfl ?_; (conv => whnf); intro w1 hS) | (refine drawf TB_ok rfl (by kernel_rfl) (by kernel_rfl) hS (List.Sublist.refl _) (List.Sublist.refl _) ?_; intro w1 hS) | (refine br_t (by assumption) ?_) | (refine br_f (by assumption) ?_))
  refine fc_m (v2 _ _ (hv8.rdM hS (fun x hx => by simp [hx])) (hS.rd 0 rfl)) ?_
  rintro v w9 ⟨rfl, hS'⟩
  replace hS := hS.call0 hS'
  repeat ((conv => whnf); first | (apply q_i; focus (intro w1 hS; (conv => whnf); first | exact ⟨rfl, rfl⟩ | ((refine ld_f hS 0 rfl rfl ?_); (conv => whnf); exact ⟨rfl, rfl⟩) | ((refine ldA_f hS 0 rfl rfl ?_); (conv => whnf); exact ⟨rfl, rfl⟩) | ((refine fc_m (hW4 _ (he.below hS.nil) (ht.below hS.nil)) ?_; rintro v w3 ⟨rfl, hS'⟩; replace hS := hS.call0 hS'); (conv => whnf); exact ⟨rfl, rfl⟩))) | (refine nw_f hS ?_; intro b w1 hS) | (refine as_i hS ?_) | (refine as_i (hS.subs (List.nil_sublist _) (by repeat (first | exact List.Sublist.refl _ | apply List.Sublist.cons_cons | apply List.Sublist.cons))) ?_) | (refine as_i (hS.subs (List.Sublist.refl _) (by repeat (first | exact List.Sublist.refl _ | apply List.Sublist.cons_cons | apply List.Sublist.cons))) ?_) | (refine bar_f hS ?_) | (refine ld_f hS 0 rfl rfl ?_) | (refine ldA_f hS 0 rfl rfl ?_) | (refine stN_f hS 0 rfl (Nat.le_of_ble_eq_true rfl) rfl rfl ?_; (conv => whnf); intro w1 hS) | (refine stM_f hS 0 rfl (Nat.le_of_ble_eq_true rfl) rfl ?_; (conv => whnf); intro w1 hS) | (refine fc_m (hW4 _ (he.below hS.nil) (ht.below hS.nil)) ?_; rintro v w3 ⟨rfl, hS'⟩; replace hS := hS.call0 hS') | (refine drawf TB_ok rfl (by kernel_rfl) (by kernel_rfl) hS (List.Sublist.refl _) (List.Sublist.refl _) ?_; intro w1 hS) | (refine br_t (by assumption) ?_) | (refine br_f (by assumption) ?_))
  exact ⟨rfl, hS.nil⟩
end Go.RV
