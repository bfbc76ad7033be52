/- Contracts of the document's functions of chapter 28: a message's text; Put. Conditions: none. -/
import Derived.Test.YtnhlpmnehdackaaGreatMd3
set_option maxRecDepth 20000
set_option linter.unusedVariables false
set_option linter.unusedSimpArgs false
namespace Go.RV
open Go Go.Proofs Go.RowKit

theorem rn_c (x : Int) (h0 : 0 ≤ x) (h1 : x ≤ 4294967295) (W : Nat) (hW : W ≤ 4) (w : World) : Fc Tryz.prog 60 [.int .i64 x, .int .i64 W] w fun v w' => v = .string (strY (be x W)) ∧ St [] w w' [] := by
  refine fc_i TB_ok Tryz.func60 rfl (by kernel_rfl) ?_
  have hS := Sf.refl w
  have hf := fun w => rfixed_c x h0 h1 W hW w
  have hw : IntKind.u32.wrap x = x := wrap_u32 h0 (by omega)
  rw [← hw] at hf
  repeat ((conv => whnf); first | (apply q_i; focus (intro w1 hS; (conv => whnf); first | exact ⟨rfl, rfl⟩ | ((refine fc_m (hf _) ?_; rintro v w3 ⟨rfl, hS'⟩; replace hS := hS.call0 hS'); (conv => whnf); exact ⟨rfl, rfl⟩))) | (refine nw_f hS ?_; intro b w1 hS) | (refine as_i hS ?_) | (refine as_i (hS.subs (List.nil_sublist _) (by repeat (first | exact List.Sublist.refl _ | apply List.Sublist.cons_cons | apply List.Sublist.cons))) ?_) | (refine as_i (hS.subs (List.Sublist.refl _) (by repeat (first | exact List.Sublist.refl _ | apply List.Sublist.cons_cons | apply List.Sublist.cons))) ?_) | (refine bar_f hS ?_) | (refine fc_m (hf _) ?_; rintro v w3 ⟨rfl, hS'⟩; replace hS := hS.call0 hS') | (refine drawf TB_ok rfl (by kernel_rfl) (by kernel_rfl) hS (List.Sublist.refl _) (List.Sublist.refl _) ?_; intro w1 hS) | (refine br_t (by assumption) ?_) | (refine br_f (by assumption) ?_))
  refine ⟨?_, hS.nil⟩
  rw [hw]
theorem shl64 {i : Nat} (h : i < 8) : bShl .i64 1 (i : Int) = 2 ^ i := by
  rcases lt8 h with rfl | rfl | rfl | rfl | rfl | rfl | rfl | rfl <;> decide
set_option maxHeartbeats 4000000 in
theorem rbody1_c (p : List UInt8) (f : Nat → Int) (xs : List Sc) (g : Nat → Int) (hg : ∀ j, j < 8 → 0 ≤ g j ∧ g j ≤ 65535) (hp : p.length ≤ 36) (A : Option Addr) (c : Nat) (w : World) :
    Fc Tryz.prog 25 [msgC true p f A xs.length c g] w fun v w' => v = .string (strY (bodyT ⟨true, p, f, xs, g⟩)) ∧ St [] w w' [] := by
  have hpz := strY_size p
  have hn1 := fun w => rn_c ((strY p).size : Int) (by omega) (by omega) 1 (by decide) w
  refine fc_i TB_ok Tryz.func25 rfl (by kernel_rfl) ?_
  have hS := Sf.refl w
  have q1 : (strY [2]).size + (strY (be ((strY p).size : Int) 1)).size ≤ 9223372036854775807 := by rw [strY_size, strY_size, be_len]; decide
  have q2 : (strY [2] ++ strY (be ((strY p).size : Int) 1)).size + (strY p).size ≤ 9223372036854775807 := by rw [strY_append, strY_size, List.length_append, be_len, hpz]; simp; omega
  repeat ((conv => whnf); first | (apply q_i; focus (intro w1 hS; (conv => whnf); first | exact ⟨rfl, rfl⟩ | ((refine ld_f hS 0 rfl rfl ?_); (conv => whnf); exact ⟨rfl, rfl⟩) | ((refine ld_f hS 1 rfl rfl ?_); (conv => whnf); exact ⟨rfl, rfl⟩) | ((refine ldA_f hS 0 rfl rfl ?_); (conv => whnf); exact ⟨rfl, rfl⟩) | ((refine ldA_f hS 1 rfl rfl ?_); (conv => whnf); exact ⟨rfl, rfl⟩) | ((refine ldN_f hS 0 rfl (Nat.le_of_ble_eq_true rfl) ?_); (conv => whnf); exact ⟨rfl, rfl⟩) | ((refine ldN_f hS 1 rfl (Nat.le_of_ble_eq_true rfl) ?_); (conv => whnf); exact ⟨rfl, rfl⟩) | ((refine fc_m (hn1 _) ?_; rintro v w3 ⟨rfl, hS'⟩; replace hS := hS.call0 hS'); (conv => whnf); exact ⟨rfl, rfl⟩) | ((refine .mk q1 ?_); (conv => whnf); exact ⟨rfl, rfl⟩) | ((refine .mk q2 ?_); (conv => whnf); exact ⟨rfl, rfl⟩))) | (refine nw_f hS ?_; intro b w1 hS) | (refine as_i hS ?_) | (refine as_i (hS.subs (List.nil_sublist _) (by repeat (first | exact List.Sublist.refl _ | apply List.Sublist.cons_cons | apply List.Sublist.cons))) ?_) | (refine as_i (hS.subs (List.Sublist.refl _) (by repeat (first | exact List.Sublist.refl _ | apply List.Sublist.cons_cons | apply List.Sublist.cons))) ?_) | (refine bar_f hS ?_) | (refine ld_f hS 0 rfl rfl ?_) | (refine ld_f hS 1 rfl rfl ?_) | (refine ldA_f hS 0 rfl rfl ?_) | (refine ldA_f hS 1 rfl rfl ?_) | (refine stN_f hS 0 rfl (Nat.le_of_ble_eq_true rfl) rfl rfl ?_; (conv => whnf); intro w1 hS) | (refine stN_f hS 1 rfl (Nat.le_of_ble_eq_true rfl) rfl rfl ?_; (conv => whnf); intro w1 hS) | (refine stM_f hS 0 rfl (Nat.le_of_ble_eq_true rfl) rfl ?_; (conv => whnf); intro w1 hS) | (refine stM_f hS 1 rfl (Nat.le_of_ble_eq_true rfl) rfl ?_; (conv => whnf); intro w1 hS) | (refine ldN_f hS 0 rfl (Nat.le_of_ble_eq_true rfl) ?_) | (refine ldN_f hS 1 rfl (Nat.le_of_ble_eq_true rfl) ?_) | (refine fc_m (hn1 _) ?_; rintro v w3 ⟨rfl, hS'⟩; replace hS := hS.call0 hS') | (refine .mk q1 ?_) | (refine .mk q2 ?_) | (refine drawf TB_ok rfl (by kernel_rfl) (by kernel_rfl) hS (List.Sublist.refl _) (List.Sublist.refl _) ?_; intro w1 hS) | (refine br_t (by assumption) ?_) | (refine br_f (by assumption) ?_))
  replace hS : Sf [] w _ [] [(_, .cells (vecF g).toArray 24 (0, 0)), (_, .cells (msgL true p f A xs.length c g).toArray 39 (0, 0))] := hS
  refine loop_i TB_ok (fun i : Nat => [(7, .int .i64 i), (5, .int .i64 (bitsN g i)), (6, .string (strY (num2 g i)))]) (fun i w' => i ≤ 8 ∧ Sf [] w w' [] [(_, .cells (vecF g).toArray 24 (0, 0)), (_, .cells (msgL true p f A xs.length c g).toArray 39 (0, 0))]) (fun i => 8 - i) 0 rfl ⟨Nat.zero_le _, hS⟩ ?_
  rintro i us w2 ⟨hi, hS⟩
  (conv => whnf)
  refine br_i (fun hb => ?_) (fun hb => ?_)
  · have hlt : i < 8 := by have := of_decide_eq_true hb; omega
    have hgi := hg i hlt
    have hbl := bitsN_lt g i
    have hnl := num2_len g i
    have hpw := pow8 (show i ≤ 8 by omega)
    have hw : IntKind.i64.wrap (g i) = g i := wrap_i64 (by omega) (by omega)
    have hn2 := fun w => rn_c (g i) hgi.1 (by omega) 2 (by decide) w
    rw [← hw] at hn2
    repeat ((conv => whnf); first | (apply q_i; focus (intro w1 hS; (conv => whnf); first | exact ⟨rfl, rfl⟩ | ((refine .mk ⟨by omega, by omega⟩ ?_); (conv => whnf); exact ⟨rfl, rfl⟩) | ((refine ldv_f hS 0 rfl hlt (by show 0 + i * 1 = i; omega) ?_); (conv => whnf); exact ⟨rfl, rfl⟩) | ((refine stv_f hS 0 rfl hlt (by show 0 + i * 1 = i; omega) ?_; (conv => whnf); intro w1 hS); (conv => whnf); exact ⟨rfl, rfl⟩))) | (refine nw_f hS ?_; intro b w1 hS) | (refine as_i hS ?_) | (refine as_i (hS.subs (List.nil_sublist _) (by repeat (first | exact List.Sublist.refl _ | apply List.Sublist.cons_cons | apply List.Sublist.cons))) ?_) | (refine as_i (hS.subs (List.Sublist.refl _) (by repeat (first | exact List.Sublist.refl _ | apply List.Sublist.cons_cons | apply List.Sublist.cons))) ?_) | (refine bar_f hS ?_) | (refine .mk ⟨by omega, by omega⟩ ?_) | (refine ldv_f hS 0 rfl hlt (by show 0 + i * 1 = i; omega) ?_) | (refine stv_f hS 0 rfl hlt (by show 0 + i * 1 = i; omega) ?_; (conv => whnf); intro w1 hS) | (refine drawf TB_ok rfl (by kernel_rfl) (by kernel_rfl) hS (List.Sublist.refl _) (List.Sublist.refl _) ?_; intro w1 hS) | (refine br_t (by assumption) ?_) | (refine br_f (by assumption) ?_))
    (conv => whnf)
    refine br_i (fun h1 => ?_) (fun h1 => ?_)
    · have h1' : 0 < g i := of_decide_eq_true h1
      repeat ((conv => whnf); first | (apply q_i; focus (intro w1 hS; (conv => whnf); first | exact ⟨rfl, rfl⟩ | ((refine .mk ⟨by omega, by omega⟩ ?_); (conv => whnf); exact ⟨rfl, rfl⟩) | ((refine ldv_f hS 0 rfl hlt (by show 0 + i * 1 = i; omega) ?_); (conv => whnf); exact ⟨rfl, rfl⟩) | ((refine stv_f hS 0 rfl hlt (by show 0 + i * 1 = i; omega) ?_; (conv => whnf); intro w1 hS); (conv => whnf); exact ⟨rfl, rfl⟩) | ((refine .mk (by show (0 : Int) ≤ ((i : Nat) : Int); omega) ?_); (conv => whnf); exact ⟨rfl, rfl⟩) | ((refine fc_m (hn2 _) ?_; rintro v w3 ⟨rfl, hS'⟩; replace hS := hS.call0 hS'); (conv => whnf); exact ⟨rfl, rfl⟩) | ((refine .mk (by rw [strY_size, strY_size, be_len]; omega) ?_); (conv => whnf); exact ⟨rfl, rfl⟩))) | (refine nw_f hS ?_; intro b w1 hS) | (refine as_i hS ?_) | (refine as_i (hS.subs (List.nil_sublist _) (by repeat (first | exact List.Sublist.refl _ | apply List.Sublist.cons_cons | apply List.Sublist.cons))) ?_) | (refine as_i (hS.subs (List.Sublist.refl _) (by repeat (first | exact List.Sublist.refl _ | apply List.Sublist.cons_cons | apply List.Sublist.cons))) ?_) | (refine bar_f hS ?_) | (refine .mk ⟨by omega, by omega⟩ ?_) | (refine ldv_f hS 0 rfl hlt (by show 0 + i * 1 = i; omega) ?_) | (refine stv_f hS 0 rfl hlt (by show 0 + i * 1 = i; omega) ?_; (conv => whnf); intro w1 hS) | (refine .mk (by show (0 : Int) ≤ ((i : Nat) : Int); omega) ?_) | (refine fc_m (hn2 _) ?_; rintro v w3 ⟨rfl, hS'⟩; replace hS := hS.call0 hS') | (refine .mk (by rw [strY_size, strY_size, be_len]; omega) ?_) | (refine drawf TB_ok rfl (by kernel_rfl) (by kernel_rfl) hS (List.Sublist.refl _) (List.Sublist.refl _) ?_; intro w1 hS) | (refine br_t (by assumption) ?_) | (refine br_f (by assumption) ?_))
      refine ⟨rfl, i + 1, ?_, ⟨by omega, hS⟩, by omega⟩
      have e1 : bitsN g (i + 1) = IntKind.i64.wrap (bitsN g i + bShl .i64 1 (i : Int)) := by rw [bitsN, if_pos h1', shl64 hlt, wrap_i64 (by omega) (by omega)]
      have e2 : strY (num2 g (i + 1)) = strY (num2 g i) ++ strY (be (IntKind.i64.wrap (g i)) 2) := by rw [num2, if_pos h1', strY_append, hw]
      rw [wi8 hlt, e1, e2]
      rfl
    · have h1' : ¬ 0 < g i := of_decide_eq_false h1
      repeat ((conv => whnf); first | (apply q_i; focus (intro w1 hS; (conv => whnf); first | exact ⟨rfl, rfl⟩)) | (refine nw_f hS ?_; intro b w1 hS) | (refine as_i hS ?_) | (refine as_i (hS.subs (List.nil_sublist _) (by repeat (first | exact List.Sublist.refl _ | apply List.Sublist.cons_cons | apply List.Sublist.cons))) ?_) | (refine as_i (hS.subs (List.Sublist.refl _) (by repeat (first | exact List.Sublist.refl _ | apply List.Sublist.cons_cons | apply List.Sublist.cons))) ?_) | (refine bar_f hS ?_) | (refine drawf TB_ok rfl (by kernel_rfl) (by kernel_rfl) hS (List.Sublist.refl _) (List.Sublist.refl _) ?_; intro w1 hS) | (refine br_t (by assumption) ?_) | (refine br_f (by assumption) ?_))
      refine ⟨rfl, i + 1, ?_, ⟨by omega, hS⟩, by omega⟩
      rw [wi8 hlt, show bitsN g (i + 1) = bitsN g i from by rw [bitsN, if_neg h1'], show num2 g (i + 1) = num2 g i from by rw [num2, if_neg h1']]
      rfl
  · have hge : i = 8 := by have := of_decide_eq_false hb; omega
    subst hge
    have hbl := bitsN_lt g 8
    have hnl := num2_len g 8
    have hn3 := fun w => rn_c (bitsN g 8) hbl.1 (by omega) 1 (by decide) w
    have q3 : (strY [2] ++ strY (be ((strY p).size : Int) 1) ++ strY p).size + (strY (be (bitsN g 8) 1)).size ≤ 9223372036854775807 := by
      simp only [strY_append, strY_size, List.length_append, be_len, List.length_cons, List.length_nil]; omega
    have q4 : (strY [2] ++ strY (be ((strY p).size : Int) 1) ++ strY p ++ strY (be (bitsN g 8) 1)).size + (strY (num2 g 8)).size ≤ 9223372036854775807 := by
      simp only [strY_append, strY_size, List.length_append, be_len, List.length_cons, List.length_nil]; omega
    have hr : strY [2] ++ strY (be ((strY p).size : Int) 1) ++ strY p ++ strY (be (bitsN g 8) 1) ++ strY (num2 g 8) = strY (bodyT ⟨true, p, f, xs, g⟩) := by
      rw [strY_append, strY_append, strY_append, strY_append, hpz]
      unfold bodyT ctxT
      simp only [if_true, List.append_assoc]
      rfl
    generalize bitsN g 8 = bits at *
    generalize num2 g 8 = nums at *
    repeat ((conv => whnf); first | (apply q_i; focus (intro w1 hS; (conv => whnf); first | exact ⟨rfl, rfl⟩ | ((refine ld_f hS 0 rfl rfl ?_); (conv => whnf); exact ⟨rfl, rfl⟩) | ((refine ld_f hS 1 rfl rfl ?_); (conv => whnf); exact ⟨rfl, rfl⟩) | ((refine ldA_f hS 0 rfl rfl ?_); (conv => whnf); exact ⟨rfl, rfl⟩) | ((refine ldA_f hS 1 rfl rfl ?_); (conv => whnf); exact ⟨rfl, rfl⟩) | ((refine fc_m (hn3 _) ?_; rintro v w3 ⟨rfl, hS'⟩; replace hS := hS.call0 hS'); (conv => whnf); exact ⟨rfl, rfl⟩) | ((refine .mk q3 ?_); (conv => whnf); exact ⟨rfl, rfl⟩) | ((refine .mk q4 ?_); (conv => whnf); exact ⟨rfl, rfl⟩))) | (refine nw_f hS ?_; intro b w1 hS) | (refine as_i hS ?_) | (refine as_i (hS.subs (List.nil_sublist _) (by repeat (first | exact List.Sublist.refl _ | apply List.Sublist.cons_cons | apply List.Sublist.cons))) ?_) | (refine as_i (hS.subs (List.Sublist.refl _) (by repeat (first | exact List.Sublist.refl _ | apply List.Sublist.cons_cons | apply List.Sublist.cons))) ?_) | (refine bar_f hS ?_) | (refine ld_f hS 0 rfl rfl ?_) | (refine ld_f hS 1 rfl rfl ?_) | (refine ldA_f hS 0 rfl rfl ?_) | (refine ldA_f hS 1 rfl rfl ?_) | (refine stN_f hS 0 rfl (Nat.le_of_ble_eq_true rfl) rfl rfl ?_; (conv => whnf); intro w1 hS) | (refine stN_f hS 1 rfl (Nat.le_of_ble_eq_true rfl) rfl rfl ?_; (conv => whnf); intro w1 hS) | (refine stM_f hS 0 rfl (Nat.le_of_ble_eq_true rfl) rfl ?_; (conv => whnf); intro w1 hS) | (refine stM_f hS 1 rfl (Nat.le_of_ble_eq_true rfl) rfl ?_; (conv => whnf); intro w1 hS) | (refine fc_m (hn3 _) ?_; rintro v w3 ⟨rfl, hS'⟩; replace hS := hS.call0 hS') | (refine .mk q3 ?_) | (refine .mk q4 ?_) | (refine drawf TB_ok rfl (by kernel_rfl) (by kernel_rfl) hS (List.Sublist.refl _) (List.Sublist.refl _) ?_; intro w1 hS) | (refine br_t (by assumption) ?_) | (refine br_f (by assumption) ?_))
    exact ⟨congrArg Value.string hr, hS.nil⟩
set_option maxHeartbeats 4000000 in
theorem rbody2_c (p : List UInt8) (f : Nat → Int) (xs : List Sc) (g : Nat → Int) (hf : ∀ j, j < 8 → 0 ≤ f j ∧ f j ≤ 65535) (hp : p.length ≤ 36) (hl : xs.length ≤ 8) (hx : ∀ x ∈ xs, 0 ≤ x.r ∧ x.r ≤ 255 ∧ 0 ≤ x.n ∧ x.n ≤ 65535 ∧ okCB x.d x.v = true) (A : Option Addr) (c : Nat) (w : World) (hR : Rd w A (flat encC xs)) :
    Fc Tryz.prog 25 [msgC false p f A xs.length c g] w fun v w' => v = .string (strY (bodyT ⟨false, p, f, xs, g⟩)) ∧ St [] w w' [] := by
  have hpz := strY_size p
  have hn1 := fun w => rn_c ((strY p).size : Int) (by omega) (by omega) 1 (by decide) w
  refine fc_i TB_ok Tryz.func25 rfl (by kernel_rfl) ?_
  have hS := Sf.refl w
  have q1 : (strY [1]).size + (strY (be ((strY p).size : Int) 1)).size ≤ 9223372036854775807 := by rw [strY_size, strY_size, be_len]; decide
  have q2 : (strY [1] ++ strY (be ((strY p).size : Int) 1)).size + (strY p).size ≤ 9223372036854775807 := by rw [strY_append, strY_size, List.length_append, be_len, hpz]; simp; omega
  repeat ((conv => whnf); first | (apply q_i; focus (intro w1 hS; (conv => whnf); first | exact ⟨rfl, rfl⟩ | ((refine ld_f hS 0 rfl rfl ?_); (conv => whnf); exact ⟨rfl, rfl⟩) | ((refine ld_f hS 1 rfl rfl ?_); (conv => whnf); exact ⟨rfl, rfl⟩) | ((refine ldA_f hS 0 rfl rfl ?_); (conv => whnf); exact ⟨rfl, rfl⟩) | ((refine ldA_f hS 1 rfl rfl ?_); (conv => whnf); exact ⟨rfl, rfl⟩) | ((refine ldN_f hS 0 rfl (Nat.le_of_ble_eq_true rfl) ?_); (conv => whnf); exact ⟨rfl, rfl⟩) | ((refine ldN_f hS 1 rfl (Nat.le_of_ble_eq_true rfl) ?_); (conv => whnf); exact ⟨rfl, rfl⟩) | ((refine fc_m (hn1 _) ?_; rintro v w3 ⟨rfl, hS'⟩; replace hS := hS.call0 hS'); (conv => whnf); exact ⟨rfl, rfl⟩) | ((refine .mk q1 ?_); (conv => whnf); exact ⟨rfl, rfl⟩) | ((refine .mk q2 ?_); (conv => whnf); exact ⟨rfl, rfl⟩))) | (refine nw_f hS ?_; intro b w1 hS) | (refine as_i hS ?_) | (refine as_i (hS.subs (List.nil_sublist _) (by repeat (first | exact List.Sublist.refl _ | apply List.Sublist.cons_cons | apply List.Sublist.cons))) ?_) | (refine as_i (hS.subs (List.Sublist.refl _) (by repeat (first | exact List.Sublist.refl _ | apply List.Sublist.cons_cons | apply List.Sublist.cons))) ?_) | (refine bar_f hS ?_) | (refine ld_f hS 0 rfl rfl ?_) | (refine ld_f hS 1 rfl rfl ?_) | (refine ldA_f hS 0 rfl rfl ?_) | (refine ldA_f hS 1 rfl rfl ?_) | (refine stN_f hS 0 rfl (Nat.le_of_ble_eq_true rfl) rfl rfl ?_; (conv => whnf); intro w1 hS) | (refine stN_f hS 1 rfl (Nat.le_of_ble_eq_true rfl) rfl rfl ?_; (conv => whnf); intro w1 hS) | (refine stM_f hS 0 rfl (Nat.le_of_ble_eq_true rfl) rfl ?_; (conv => whnf); intro w1 hS) | (refine stM_f hS 1 rfl (Nat.le_of_ble_eq_true rfl) rfl ?_; (conv => whnf); intro w1 hS) | (refine ldN_f hS 0 rfl (Nat.le_of_ble_eq_true rfl) ?_) | (refine ldN_f hS 1 rfl (Nat.le_of_ble_eq_true rfl) ?_) | (refine fc_m (hn1 _) ?_; rintro v w3 ⟨rfl, hS'⟩; replace hS := hS.call0 hS') | (refine .mk q1 ?_) | (refine .mk q2 ?_) | (refine drawf TB_ok rfl (by kernel_rfl) (by kernel_rfl) hS (List.Sublist.refl _) (List.Sublist.refl _) ?_; intro w1 hS) | (refine br_t (by assumption) ?_) | (refine br_f (by assumption) ?_))
  replace hS : Sf [] w _ [] [(_, .cells (vecF f).toArray 24 (0, 0)), (_, .cells (msgL false p f A xs.length c g).toArray 39 (0, 0))] := hS
  refine loop_i TB_ok (fun i : Nat => [(7, .int .i64 i), (5, .int .i64 (bitsN f i)), (6, .string (strY (num2 f i)))]) (fun i w' => i ≤ 8 ∧ Sf [] w w' [] [(_, .cells (vecF f).toArray 24 (0, 0)), (_, .cells (msgL false p f A xs.length c g).toArray 39 (0, 0))]) (fun i => 8 - i) 0 rfl ⟨Nat.zero_le _, hS⟩ ?_
  rintro i us w2 ⟨hi, hS⟩
  (conv => whnf)
  refine br_i (fun hb => ?_) (fun hb => ?_)
  · have hlt : i < 8 := by have := of_decide_eq_true hb; omega
    have hgi := hf i hlt
    have hbl := bitsN_lt f i
    have hnl := num2_len f i
    have hpw := pow8 (show i ≤ 8 by omega)
    have hw : IntKind.i64.wrap (f i) = f i := wrap_i64 (by omega) (by omega)
    have hn2 := fun w => rn_c (f i) hgi.1 (by omega) 2 (by decide) w
    rw [← hw] at hn2
    repeat ((conv => whnf); first | (apply q_i; focus (intro w1 hS; (conv => whnf); first | exact ⟨rfl, rfl⟩ | ((refine .mk ⟨by omega, by omega⟩ ?_); (conv => whnf); exact ⟨rfl, rfl⟩) | ((refine ldv_f hS 0 rfl hlt (by show 0 + i * 1 = i; omega) ?_); (conv => whnf); exact ⟨rfl, rfl⟩) | ((refine stv_f hS 0 rfl hlt (by show 0 + i * 1 = i; omega) ?_; (conv => whnf); intro w1 hS); (conv => whnf); exact ⟨rfl, rfl⟩))) | (refine nw_f hS ?_; intro b w1 hS) | (refine as_i hS ?_) | (refine as_i (hS.subs (List.nil_sublist _) (by repeat (first | exact List.Sublist.refl _ | apply List.Sublist.cons_cons | apply List.Sublist.cons))) ?_) | (refine as_i (hS.subs (List.Sublist.refl _) (by repeat (first | exact List.Sublist.refl _ | apply List.Sublist.cons_cons | apply List.Sublist.cons))) ?_) | (refine bar_f hS ?_) | (refine .mk ⟨by omega, by omega⟩ ?_) | (refine ldv_f hS 0 rfl hlt (by show 0 + i * 1 = i; omega) ?_) | (refine stv_f hS 0 rfl hlt (by show 0 + i * 1 = i; omega) ?_; (conv => whnf); intro w1 hS) | (refine drawf TB_ok rfl (by kernel_rfl) (by kernel_rfl) hS (List.Sublist.refl _) (List.Sublist.refl _) ?_; intro w1 hS) | (refine br_t (by assumption) ?_) | (refine br_f (by assumption) ?_))
    (conv => whnf)
    refine br_i (fun h1 => ?_) (fun h1 => ?_)
    · have h1' : 0 < f i := of_decide_eq_true h1
      repeat ((conv => whnf); first | (apply q_i; focus (intro w1 hS; (conv => whnf); first | exact ⟨rfl, rfl⟩ | ((refine .mk ⟨by omega, by omega⟩ ?_); (conv => whnf); exact ⟨rfl, rfl⟩) | ((refine ldv_f hS 0 rfl hlt (by show 0 + i * 1 = i; omega) ?_); (conv => whnf); exact ⟨rfl, rfl⟩) | ((refine stv_f hS 0 rfl hlt (by show 0 + i * 1 = i; omega) ?_; (conv => whnf); intro w1 hS); (conv => whnf); exact ⟨rfl, rfl⟩) | ((refine .mk (by show (0 : Int) ≤ ((i : Nat) : Int); omega) ?_); (conv => whnf); exact ⟨rfl, rfl⟩) | ((refine fc_m (hn2 _) ?_; rintro v w3 ⟨rfl, hS'⟩; replace hS := hS.call0 hS'); (conv => whnf); exact ⟨rfl, rfl⟩) | ((refine .mk (by rw [strY_size, strY_size, be_len]; omega) ?_); (conv => whnf); exact ⟨rfl, rfl⟩))) | (refine nw_f hS ?_; intro b w1 hS) | (refine as_i hS ?_) | (refine as_i (hS.subs (List.nil_sublist _) (by repeat (first | exact List.Sublist.refl _ | apply List.Sublist.cons_cons | apply List.Sublist.cons))) ?_) | (refine as_i (hS.subs (List.Sublist.refl _) (by repeat (first | exact List.Sublist.refl _ | apply List.Sublist.cons_cons | apply List.Sublist.cons))) ?_) | (refine bar_f hS ?_) | (refine .mk ⟨by omega, by omega⟩ ?_) | (refine ldv_f hS 0 rfl hlt (by show 0 + i * 1 = i; omega) ?_) | (refine stv_f hS 0 rfl hlt (by show 0 + i * 1 = i; omega) ?_; (conv => whnf); intro w1 hS) | (refine .mk (by show (0 : Int) ≤ ((i : Nat) : Int); omega) ?_) | (refine fc_m (hn2 _) ?_; rintro v w3 ⟨rfl, hS'⟩; replace hS := hS.call0 hS') | (refine .mk (by rw [strY_size, strY_size, be_len]; omega) ?_) | (refine drawf TB_ok rfl (by kernel_rfl) (by kernel_rfl) hS (List.Sublist.refl _) (List.Sublist.refl _) ?_; intro w1 hS) | (refine br_t (by assumption) ?_) | (refine br_f (by assumption) ?_))
      refine ⟨rfl, i + 1, ?_, ⟨by omega, hS⟩, by omega⟩
      have e1 : bitsN f (i + 1) = IntKind.i64.wrap (bitsN f i + bShl .i64 1 (i : Int)) := by rw [bitsN, if_pos h1', shl64 hlt, wrap_i64 (by omega) (by omega)]
      have e2 : strY (num2 f (i + 1)) = strY (num2 f i) ++ strY (be (IntKind.i64.wrap (f i)) 2) := by rw [num2, if_pos h1', strY_append, hw]
      rw [wi8 hlt, e1, e2]
      rfl
    · have h1' : ¬ 0 < f i := of_decide_eq_false h1
      repeat ((conv => whnf); first | (apply q_i; focus (intro w1 hS; (conv => whnf); first | exact ⟨rfl, rfl⟩)) | (refine nw_f hS ?_; intro b w1 hS) | (refine as_i hS ?_) | (refine as_i (hS.subs (List.nil_sublist _) (by repeat (first | exact List.Sublist.refl _ | apply List.Sublist.cons_cons | apply List.Sublist.cons))) ?_) | (refine as_i (hS.subs (List.Sublist.refl _) (by repeat (first | exact List.Sublist.refl _ | apply List.Sublist.cons_cons | apply List.Sublist.cons))) ?_) | (refine bar_f hS ?_) | (refine drawf TB_ok rfl (by kernel_rfl) (by kernel_rfl) hS (List.Sublist.refl _) (List.Sublist.refl _) ?_; intro w1 hS) | (refine br_t (by assumption) ?_) | (refine br_f (by assumption) ?_))
      refine ⟨rfl, i + 1, ?_, ⟨by omega, hS⟩, by omega⟩
      rw [wi8 hlt, show bitsN f (i + 1) = bitsN f i from by rw [bitsN, if_neg h1'], show num2 f (i + 1) = num2 f i from by rw [num2, if_neg h1']]
      rfl
  · have hge : i = 8 := by have := of_decide_eq_false hb; omega
    subst hge
    have hbl := bitsN_lt f 8
    have hnl := num2_len f 8
    have hn3 := fun w => rn_c (bitsN f 8) hbl.1 (by omega) 1 (by decide) w
    have q3 : (strY [1] ++ strY (be ((strY p).size : Int) 1) ++ strY p).size + (strY (be (bitsN f 8) 1)).size ≤ 9223372036854775807 := by
      simp only [strY_append, strY_size, List.length_append, be_len, List.length_cons, List.length_nil]; omega
    have q4 : (strY [1] ++ strY (be ((strY p).size : Int) 1) ++ strY p ++ strY (be (bitsN f 8) 1)).size + (strY (num2 f 8)).size ≤ 9223372036854775807 := by
      simp only [strY_append, strY_size, List.length_append, be_len, List.length_cons, List.length_nil]; omega
    have hn4 := fun w => rn_c (xs.length : Int) (by omega) (by omega) 1 (by decide) w
    have q5 : (strY [1] ++ strY (be ((strY p).size : Int) 1) ++ strY p ++ strY (be (bitsN f 8) 1) ++ strY (num2 f 8)).size + (strY (be (xs.length : Int) 1)).size ≤ 9223372036854775807 := by
      simp only [strY_append, strY_size, List.length_append, be_len, List.length_cons, List.length_nil]; omega
    obtain ⟨pre, hpre⟩ : ∃ pre, pre = [1] ++ be (p.length : Int) 1 ++ p ++ be (bitsN f 8) 1 ++ num2 f 8 ++ be (xs.length : Int) 1 := ⟨_, rfl⟩
    have hpl : pre.length ≤ 100 := by
      rw [hpre]
      simp only [List.length_append, be_len, List.length_cons, List.length_nil]; omega
    have hr : strY [1] ++ strY (be ((strY p).size : Int) 1) ++ strY p ++ strY (be (bitsN f 8) 1) ++ strY (num2 f 8) ++ strY (be (xs.length : Int) 1) = strY (pre ++ sibsT (xs.take 0)) := by
      rw [strY_append, strY_append, strY_append, strY_append, strY_append, hpz, hpre]
      simp [sibsT]
    have hfin : bodyT ⟨false, p, f, xs, g⟩ = pre ++ sibsT xs := by
      rw [hpre]
      unfold bodyT ctxT
      simp only [Bool.false_eq_true, if_false, List.append_assoc]
      rfl
    rw [hfin]
    clear hfin hpre
    generalize bitsN f 8 = bits at *
    generalize num2 f 8 = nums at *
    repeat ((conv => whnf); first | (apply q_i; focus (intro w1 hS; (conv => whnf); first | exact ⟨rfl, rfl⟩ | ((refine ld_f hS 0 rfl rfl ?_); (conv => whnf); exact ⟨rfl, rfl⟩) | ((refine ld_f hS 1 rfl rfl ?_); (conv => whnf); exact ⟨rfl, rfl⟩) | ((refine ldA_f hS 0 rfl rfl ?_); (conv => whnf); exact ⟨rfl, rfl⟩) | ((refine ldA_f hS 1 rfl rfl ?_); (conv => whnf); exact ⟨rfl, rfl⟩) | ((refine fc_m (hn3 _) ?_; rintro v w3 ⟨rfl, hS'⟩; replace hS := hS.call0 hS'); (conv => whnf); exact ⟨rfl, rfl⟩) | ((refine fc_m (hn4 _) ?_; rintro v w3 ⟨rfl, hS'⟩; replace hS := hS.call0 hS'); (conv => whnf); exact ⟨rfl, rfl⟩) | ((refine .mk q3 ?_); (conv => whnf); exact ⟨rfl, rfl⟩) | ((refine .mk q4 ?_); (conv => whnf); exact ⟨rfl, rfl⟩) | ((refine .mk q5 ?_); (conv => whnf); exact ⟨rfl, rfl⟩))) | (refine nw_f hS ?_; intro b w1 hS) | (refine as_i hS ?_) | (refine as_i (hS.subs (List.nil_sublist _) (by repeat (first | exact List.Sublist.refl _ | apply List.Sublist.cons_cons | apply List.Sublist.cons))) ?_) | (refine as_i (hS.subs (List.Sublist.refl _) (by repeat (first | exact List.Sublist.refl _ | apply List.Sublist.cons_cons | apply List.Sublist.cons))) ?_) | (refine bar_f hS ?_) | (refine ld_f hS 0 rfl rfl ?_) | (refine ld_f hS 1 rfl rfl ?_) | (refine ldA_f hS 0 rfl rfl ?_) | (refine ldA_f hS 1 rfl rfl ?_) | (refine stN_f hS 0 rfl (Nat.le_of_ble_eq_true rfl) rfl rfl ?_; (conv => whnf); intro w1 hS) | (refine stN_f hS 1 rfl (Nat.le_of_ble_eq_true rfl) rfl rfl ?_; (conv => whnf); intro w1 hS) | (refine stM_f hS 0 rfl (Nat.le_of_ble_eq_true rfl) rfl ?_; (conv => whnf); intro w1 hS) | (refine stM_f hS 1 rfl (Nat.le_of_ble_eq_true rfl) rfl ?_; (conv => whnf); intro w1 hS) | (refine fc_m (hn3 _) ?_; rintro v w3 ⟨rfl, hS'⟩; replace hS := hS.call0 hS') | (refine fc_m (hn4 _) ?_; rintro v w3 ⟨rfl, hS'⟩; replace hS := hS.call0 hS') | (refine .mk q3 ?_) | (refine .mk q4 ?_) | (refine .mk q5 ?_) | (refine drawf TB_ok rfl (by kernel_rfl) (by kernel_rfl) hS (List.Sublist.refl _) (List.Sublist.refl _) ?_; intro w1 hS) | (refine br_t (by assumption) ?_) | (refine br_f (by assumption) ?_))
    refine loop_i TB_ok (fun i : Nat => [(8, .int .i64 i), (3, .string (strY (pre ++ sibsT (xs.take i))))]) (fun i w' => i ≤ xs.length ∧ Sf [] w w' [] [(_, .cells (vecF f).toArray 24 (0, 0)), (_, .cells (msgL false p f A xs.length c g).toArray 39 (0, 0))]) (fun i => xs.length - i) 0 (by rw [← hr]; rfl) ⟨Nat.zero_le _, hS⟩ ?_
    rintro i us w3 ⟨hi, hS⟩
    repeat ((conv => whnf); first | (apply q_i; focus (intro w1 hS; (conv => whnf); first | exact ⟨rfl, rfl⟩ | ((refine ld_f hS 0 rfl rfl ?_); (conv => whnf); exact ⟨rfl, rfl⟩) | ((refine ld_f hS 1 rfl rfl ?_); (conv => whnf); exact ⟨rfl, rfl⟩) | ((refine ldA_f hS 0 rfl rfl ?_); (conv => whnf); exact ⟨rfl, rfl⟩) | ((refine ldA_f hS 1 rfl rfl ?_); (conv => whnf); exact ⟨rfl, rfl⟩))) | (refine nw_f hS ?_; intro b w1 hS) | (refine as_i hS ?_) | (refine as_i (hS.subs (List.nil_sublist _) (by repeat (first | exact List.Sublist.refl _ | apply List.Sublist.cons_cons | apply List.Sublist.cons))) ?_) | (refine as_i (hS.subs (List.Sublist.refl _) (by repeat (first | exact List.Sublist.refl _ | apply List.Sublist.cons_cons | apply List.Sublist.cons))) ?_) | (refine bar_f hS ?_) | (refine ld_f hS 0 rfl rfl ?_) | (refine ld_f hS 1 rfl rfl ?_) | (refine ldA_f hS 0 rfl rfl ?_) | (refine ldA_f hS 1 rfl rfl ?_) | (refine stN_f hS 0 rfl (Nat.le_of_ble_eq_true rfl) rfl rfl ?_; (conv => whnf); intro w1 hS) | (refine stN_f hS 1 rfl (Nat.le_of_ble_eq_true rfl) rfl rfl ?_; (conv => whnf); intro w1 hS) | (refine stM_f hS 0 rfl (Nat.le_of_ble_eq_true rfl) rfl ?_; (conv => whnf); intro w1 hS) | (refine stM_f hS 1 rfl (Nat.le_of_ble_eq_true rfl) rfl ?_; (conv => whnf); intro w1 hS) | (refine drawf TB_ok rfl (by kernel_rfl) (by kernel_rfl) hS (List.Sublist.refl _) (List.Sublist.refl _) ?_; intro w1 hS) | (refine br_t (by assumption) ?_) | (refine br_f (by assumption) ?_))
    (conv => whnf)
    refine br_i (fun hb => ?_) (fun hb => ?_)
    · have hlt : i < xs.length := by have := of_decide_eq_true hb; omega
      obtain ⟨x0, off, rfl⟩ := hR.form (flat_ne encC_len (by omega) hlt)
      have hxi := hx xs[i] (List.getElem_mem hlt)
      have hbl := sibsT_len (xs.take i) (fun x hx' => (hx x (List.mem_of_mem_take hx')).2.2.2.2)
      rw [List.length_take] at hbl
      have hcon := fun w => rputCon_c xs[i].d xs[i].v (by have := hxi.2.2.2.2; simp [okCB] at this; omega) w
      rw [hxi.2.2.2.2] at hcon
      simp only [if_true] at hcon
      have hcl2 := sibT_len hxi.2.2.2.2
      have hw1 : IntKind.i64.wrap xs[i].r = xs[i].r := wrap_i64 (by omega) (by omega)
      have hw2 : IntKind.i64.wrap xs[i].n = xs[i].n := wrap_i64 (by omega) (by omega)
      have hr1 := fun w => rn_c xs[i].r hxi.1 (by omega) 1 (by decide) w
      have hr2 := fun w => rn_c xs[i].n hxi.2.2.1 (by omega) 2 (by decide) w
      rw [← hw1] at hr1
      rw [← hw2] at hr2
      have hcv : (conT xs[i].d xs[i].v).length ≤ 262 := by unfold sibT at hcl2; simp only [List.length_append, be_len] at hcl2; omega
      have u1 : (strY (pre ++ sibsT (xs.take i))).size + (strY (be (IntKind.i64.wrap xs[i].r) 1)).size ≤ 9223372036854775807 := by
        simp only [strY_size, List.length_append, be_len]; omega
      have u2 : (strY (pre ++ sibsT (xs.take i)) ++ strY (be (IntKind.i64.wrap xs[i].r) 1)).size + (strY (be (IntKind.i64.wrap xs[i].n) 2)).size ≤ 9223372036854775807 := by
        simp only [strY_append, strY_size, List.length_append, be_len]; omega
      have u3 : (strY (pre ++ sibsT (xs.take i)) ++ strY (be (IntKind.i64.wrap xs[i].r) 1) ++ strY (be (IntKind.i64.wrap xs[i].n) 2)).size + (strY (conT xs[i].d xs[i].v)).size ≤ 9223372036854775807 := by
        simp only [strY_append, strY_size, List.length_append, be_len]; omega
      have hsn : strY (pre ++ sibsT (xs.take (i + 1))) = strY (pre ++ sibsT (xs.take i)) ++ strY (be (IntKind.i64.wrap xs[i].r) 1) ++ strY (be (IntKind.i64.wrap xs[i].n) 2) ++ strY (conT xs[i].d xs[i].v) := by
        rw [strY_append, strY_append, strY_append, sibsT_snoc xs hlt, hw1, hw2]
        unfold sibT
        simp
      repeat ((conv => whnf); first | (apply q_i; focus (intro w1 hS; (conv => whnf); first | exact ⟨rfl, rfl⟩ | ((refine ld_f hS 0 rfl rfl ?_); (conv => whnf); exact ⟨rfl, rfl⟩) | ((refine ld_f hS 1 rfl rfl ?_); (conv => whnf); exact ⟨rfl, rfl⟩) | ((refine ldA_f hS 0 rfl rfl ?_); (conv => whnf); exact ⟨rfl, rfl⟩) | ((refine ldA_f hS 1 rfl rfl ?_); (conv => whnf); exact ⟨rfl, rfl⟩) | ((refine .mk ⟨by omega, by omega⟩ ?_; refine ix_i rfl ?_); (conv => whnf); exact ⟨rfl, rfl⟩) | ((refine ldN_elp encC_len (hR.below hS.nil).at (i := i) (j0 := 2) hlt rfl (Nat.le_of_ble_eq_true rfl) [.bool xs[i].d, .string (strY xs[i].v)] rfl ?_); (conv => whnf); exact ⟨rfl, rfl⟩) | ((refine fc_m (hcon _) ?_; rintro v w3 ⟨rfl, hS'⟩; replace hS := hS.call0 hS'); (conv => whnf); exact ⟨rfl, rfl⟩))) | (refine nw_f hS ?_; intro b w1 hS) | (refine as_i hS ?_) | (refine as_i (hS.subs (List.nil_sublist _) (by repeat (first | exact List.Sublist.refl _ | apply List.Sublist.cons_cons | apply List.Sublist.cons))) ?_) | (refine as_i (hS.subs (List.Sublist.refl _) (by repeat (first | exact List.Sublist.refl _ | apply List.Sublist.cons_cons | apply List.Sublist.cons))) ?_) | (refine bar_f hS ?_) | (refine ld_f hS 0 rfl rfl ?_) | (refine ld_f hS 1 rfl rfl ?_) | (refine ldA_f hS 0 rfl rfl ?_) | (refine ldA_f hS 1 rfl rfl ?_) | (refine stN_f hS 0 rfl (Nat.le_of_ble_eq_true rfl) rfl rfl ?_; (conv => whnf); intro w1 hS) | (refine stN_f hS 1 rfl (Nat.le_of_ble_eq_true rfl) rfl rfl ?_; (conv => whnf); intro w1 hS) | (refine stM_f hS 0 rfl (Nat.le_of_ble_eq_true rfl) rfl ?_; (conv => whnf); intro w1 hS) | (refine stM_f hS 1 rfl (Nat.le_of_ble_eq_true rfl) rfl ?_; (conv => whnf); intro w1 hS) | (refine .mk ⟨by omega, by omega⟩ ?_; refine ix_i rfl ?_) | (refine ldN_elp encC_len (hR.below hS.nil).at (i := i) (j0 := 2) hlt rfl (Nat.le_of_ble_eq_true rfl) [.bool xs[i].d, .string (strY xs[i].v)] rfl ?_) | (refine fc_m (hcon _) ?_; rintro v w3 ⟨rfl, hS'⟩; replace hS := hS.call0 hS') | (refine br_t (by assumption) ?_) | (refine br_f (by assumption) ?_))
      refine drawf TB_ok rfl (by kernel_rfl) (by kernel_rfl) hS (List.Sublist.refl _) (List.Sublist.refl _) ?_; intro w1 hS
      repeat' ((conv => whnf); first | (refine And.intro ?_ ?_) | (apply q_i; focus (intro w1 hS; (conv => whnf); first | exact ⟨rfl, rfl⟩ | ((refine ld_f hS 0 rfl rfl ?_); (conv => whnf); exact ⟨rfl, rfl⟩) | ((refine ld_f hS 1 rfl rfl ?_); (conv => whnf); exact ⟨rfl, rfl⟩) | ((refine ldA_f hS 0 rfl rfl ?_); (conv => whnf); exact ⟨rfl, rfl⟩) | ((refine ldA_f hS 1 rfl rfl ?_); (conv => whnf); exact ⟨rfl, rfl⟩) | ((refine .mk ⟨by omega, by omega⟩ ?_; refine ix_i rfl ?_); (conv => whnf); exact ⟨rfl, rfl⟩) | ((refine ld_el encC_len (hR.below hS.nil).at (i := i) (k := 0) hlt (by omega) rfl (v := .int .u8 xs[i].r) rfl ?_); (conv => whnf); exact ⟨rfl, rfl⟩) | ((refine ld_el encC_len (hR.below hS.nil).at (i := i) (k := 1) hlt (by omega) rfl (v := .int .u32 xs[i].n) rfl ?_); (conv => whnf); exact ⟨rfl, rfl⟩) | ((refine fc_m (hr1 _) ?_; rintro v w3 ⟨rfl, hS'⟩; replace hS := hS.call0 hS'); (conv => whnf); exact ⟨rfl, rfl⟩) | ((refine fc_m (hr2 _) ?_; rintro v w3 ⟨rfl, hS'⟩; replace hS := hS.call0 hS'); (conv => whnf); exact ⟨rfl, rfl⟩) | ((refine .mk u1 ?_); (conv => whnf); exact ⟨rfl, rfl⟩) | ((refine .mk u2 ?_); (conv => whnf); exact ⟨rfl, rfl⟩) | ((refine .mk u3 ?_); (conv => whnf); exact ⟨rfl, rfl⟩))) | (refine nw_f hS ?_; intro b w1 hS) | (refine as_i hS ?_) | (refine as_i (hS.subs (List.nil_sublist _) (by repeat (first | exact List.Sublist.refl _ | apply List.Sublist.cons_cons | apply List.Sublist.cons))) ?_) | (refine as_i (hS.subs (List.Sublist.refl _) (by repeat (first | exact List.Sublist.refl _ | apply List.Sublist.cons_cons | apply List.Sublist.cons))) ?_) | (refine bar_f hS ?_) | (refine ld_f hS 0 rfl rfl ?_) | (refine ld_f hS 1 rfl rfl ?_) | (refine ldA_f hS 0 rfl rfl ?_) | (refine ldA_f hS 1 rfl rfl ?_) | (refine stN_f hS 0 rfl (Nat.le_of_ble_eq_true rfl) rfl rfl ?_; (conv => whnf); intro w1 hS) | (refine stN_f hS 1 rfl (Nat.le_of_ble_eq_true rfl) rfl rfl ?_; (conv => whnf); intro w1 hS) | (refine stM_f hS 0 rfl (Nat.le_of_ble_eq_true rfl) rfl ?_; (conv => whnf); intro w1 hS) | (refine stM_f hS 1 rfl (Nat.le_of_ble_eq_true rfl) rfl ?_; (conv => whnf); intro w1 hS) | (refine .mk ⟨by omega, by omega⟩ ?_; refine ix_i rfl ?_) | (refine ld_el encC_len (hR.below hS.nil).at (i := i) (k := 0) hlt (by omega) rfl (v := .int .u8 xs[i].r) rfl ?_) | (refine ld_el encC_len (hR.below hS.nil).at (i := i) (k := 1) hlt (by omega) rfl (v := .int .u32 xs[i].n) rfl ?_) | (refine fc_m (hr1 _) ?_; rintro v w3 ⟨rfl, hS'⟩; replace hS := hS.call0 hS') | (refine fc_m (hr2 _) ?_; rintro v w3 ⟨rfl, hS'⟩; replace hS := hS.call0 hS') | (refine .mk u1 ?_) | (refine .mk u2 ?_) | (refine .mk u3 ?_) | (refine drawf TB_ok rfl (by kernel_rfl) (by kernel_rfl) hS (List.Sublist.refl _) (List.Sublist.refl _) ?_; intro w1 hS) | (refine br_t (by assumption) ?_) | (refine br_f (by assumption) ?_))
      all_goals first
        | exact rfl
        | (refine ⟨i + 1, ?_, ⟨by omega, hS⟩, by omega⟩; rw [wi hlt (by omega), hsn]; rfl)
    · have hge : i = xs.length := by have := of_decide_eq_false hb; omega
      subst hge
      rw [List.take_length]
      repeat ((conv => whnf); first | (apply q_i; focus (intro w1 hS; (conv => whnf); first | exact ⟨rfl, rfl⟩ | ((refine ld_f hS 0 rfl rfl ?_); (conv => whnf); exact ⟨rfl, rfl⟩) | ((refine ld_f hS 1 rfl rfl ?_); (conv => whnf); exact ⟨rfl, rfl⟩) | ((refine ldA_f hS 0 rfl rfl ?_); (conv => whnf); exact ⟨rfl, rfl⟩) | ((refine ldA_f hS 1 rfl rfl ?_); (conv => whnf); exact ⟨rfl, rfl⟩))) | (refine nw_f hS ?_; intro b w1 hS) | (refine as_i hS ?_) | (refine as_i (hS.subs (List.nil_sublist _) (by repeat (first | exact List.Sublist.refl _ | apply List.Sublist.cons_cons | apply List.Sublist.cons))) ?_) | (refine as_i (hS.subs (List.Sublist.refl _) (by repeat (first | exact List.Sublist.refl _ | apply List.Sublist.cons_cons | apply List.Sublist.cons))) ?_) | (refine bar_f hS ?_) | (refine ld_f hS 0 rfl rfl ?_) | (refine ld_f hS 1 rfl rfl ?_) | (refine ldA_f hS 0 rfl rfl ?_) | (refine ldA_f hS 1 rfl rfl ?_) | (refine stN_f hS 0 rfl (Nat.le_of_ble_eq_true rfl) rfl rfl ?_; (conv => whnf); intro w1 hS) | (refine stN_f hS 1 rfl (Nat.le_of_ble_eq_true rfl) rfl rfl ?_; (conv => whnf); intro w1 hS) | (refine stM_f hS 0 rfl (Nat.le_of_ble_eq_true rfl) rfl ?_; (conv => whnf); intro w1 hS) | (refine stM_f hS 1 rfl (Nat.le_of_ble_eq_true rfl) rfl ?_; (conv => whnf); intro w1 hS) | (refine drawf TB_ok rfl (by kernel_rfl) (by kernel_rfl) hS (List.Sublist.refl _) (List.Sublist.refl _) ?_; intro w1 hS) | (refine br_t (by assumption) ?_) | (refine br_f (by assumption) ?_))
      exact ⟨rfl, hS.nil⟩
theorem rbodyM_c (m : Mx) (ho : okM m) (hm : mayM m = true) (A : Option Addr) (c : Nat) (w : World) (hR : Rd w A (flat encC m.xs)) :
    Fc Tryz.prog 25 [msgV m A c] w fun v w' => v = .string (strY (bodyT m)) ∧ St [] w w' [] := by
  obtain ⟨h1, h2, h3⟩ := mayM_parts hm
  have hp := namedB_len h1
  obtain ⟨hf, hg, hx⟩ := ho
  cases ha : m.a with
  | true =>
    obtain ⟨a1, a2, a3, a4⟩ := h2 ha
    have e : m = ⟨true, m.p, m.f, m.xs, m.g⟩ := by cases m; simp only at ha; subst ha; rfl
    rw [e]
    exact rbody1_c m.p m.f m.xs m.g (fun j hj => ⟨(hg j hj).1, mayVB_le a1 j hj⟩) hp A c w
  | false =>
    obtain ⟨a1, a2, a3, a4, a5⟩ := h3 ha
    have e : m = ⟨false, m.p, m.f, m.xs, m.g⟩ := by cases m; simp only at ha; subst ha; rfl
    rw [e]
    exact rbody2_c m.p m.f m.xs m.g (fun j hj => ⟨(hf j hj).1, mayVB_le a1 j hj⟩) hp a2 (fun x h => ⟨(hx x h).1, (hx x h).2.1, (hx x h).2.2.1, (hasB_dot (a3 x h).1).2.2, (a3 x h).2⟩) A c w hR
theorem rputM_c (m : Mx) (ho : okM m) (hp : m.p.length ≤ 1000) (hl : m.xs.length ≤ 4611686018427387904) (A : Option Addr) (c : Nat) (w : World) (hR : Rd w A (flat encC m.xs)) :
    Fc Tryz.prog 9 [msgV m A c] w fun v w' => v = .tuple #[.string (strY (putM m).1), .int .i64 (putM m).2] ∧ St [] w w' [] := by
  refine fc_i TB_ok Tryz.func9 rfl (by kernel_rfl) ?_
  have hS := Sf.refl w
  have hc := fun w => rmayM_c m ho hp hl A c w
  cases hk : mayM m with
  | true =>
    have hpm : putM m = (summedT (bodyT m), 0) := by unfold putM; rw [hk]; rfl
    rw [hk] at hc
    rw [hpm]
    have hb := bodyT_len hk
    have hsl := sumI_lt (bodyT m)
    have hfx := fun w => rfixed_c (sumI (bodyT m)) hsl.1 hsl.2 4 (by decide) w
    have q : (strY (bodyT m)).size + (strY (be (sumI (bodyT m)) 4)).size ≤ 9223372036854775807 := by rw [strY_size, strY_size, be_len]; omega
    repeat ((conv => whnf); first | (apply q_i; focus (intro w1 hS; (conv => whnf); first | exact ⟨rfl, rfl⟩ | ((refine ld_f hS 0 rfl rfl ?_); (conv => whnf); exact ⟨rfl, rfl⟩) | ((refine ldA_f hS 0 rfl rfl ?_); (conv => whnf); exact ⟨rfl, rfl⟩) | ((refine fc_m (hc _ (hR.below hS.nil)) ?_; rintro v w3 ⟨rfl, hS'⟩; replace hS := hS.call0 hS'); (conv => whnf); exact ⟨rfl, rfl⟩) | ((refine fc_m (rbodyM_c m ho hk A c _ (hR.below hS.nil)) ?_; rintro v w3 ⟨rfl, hS'⟩; replace hS := hS.call0 hS'); (conv => whnf); exact ⟨rfl, rfl⟩) | ((refine fc_m (rsum_c (bodyT m) (by omega) _) ?_; rintro v w3 ⟨rfl, hS'⟩; replace hS := hS.call0 hS'); (conv => whnf); exact ⟨rfl, rfl⟩) | ((refine fc_m (hfx _) ?_; rintro v w3 ⟨rfl, hS'⟩; replace hS := hS.call0 hS'); (conv => whnf); exact ⟨rfl, rfl⟩) | ((refine .mk q ?_); (conv => whnf); exact ⟨rfl, rfl⟩))) | (refine nw_f hS ?_; intro b w1 hS) | (refine as_i hS ?_) | (refine as_i (hS.subs (List.nil_sublist _) (by repeat (first | exact List.Sublist.refl _ | apply List.Sublist.cons_cons | apply List.Sublist.cons))) ?_) | (refine as_i (hS.subs (List.Sublist.refl _) (by repeat (first | exact List.Sublist.refl _ | apply List.Sublist.cons_cons | apply List.Sublist.cons))) ?_) | (refine bar_f hS ?_) | (refine ld_f hS 0 rfl rfl ?_) | (refine ldA_f hS 0 rfl rfl ?_) | (refine stN_f hS 0 rfl (Nat.le_of_ble_eq_true rfl) rfl rfl ?_; (conv => whnf); intro w1 hS) | (refine stM_f hS 0 rfl (Nat.le_of_ble_eq_true rfl) rfl ?_; (conv => whnf); intro w1 hS) | (refine fc_m (hc _ (hR.below hS.nil)) ?_; rintro v w3 ⟨rfl, hS'⟩; replace hS := hS.call0 hS') | (refine fc_m (rbodyM_c m ho hk A c _ (hR.below hS.nil)) ?_; rintro v w3 ⟨rfl, hS'⟩; replace hS := hS.call0 hS') | (refine fc_m (rsum_c (bodyT m) (by omega) _) ?_; rintro v w3 ⟨rfl, hS'⟩; replace hS := hS.call0 hS') | (refine fc_m (hfx _) ?_; rintro v w3 ⟨rfl, hS'⟩; replace hS := hS.call0 hS') | (refine .mk q ?_) | (refine drawf TB_ok rfl (by kernel_rfl) (by kernel_rfl) hS (List.Sublist.refl _) (List.Sublist.refl _) ?_; intro w1 hS) | (refine br_t (by assumption) ?_) | (refine br_f (by assumption) ?_))
    refine ⟨?_, hS.nil⟩
    unfold summedT
    simp only
    rw [← strY_append]
  | false =>
    have hpm : putM m = ([], 4) := by unfold putM; rw [hk]; rfl
    rw [hk] at hc
    rw [hpm]
    repeat ((conv => whnf); first | (apply q_i; focus (intro w1 hS; (conv => whnf); first | exact ⟨rfl, rfl⟩ | ((refine ld_f hS 0 rfl rfl ?_); (conv => whnf); exact ⟨rfl, rfl⟩) | ((refine ldA_f hS 0 rfl rfl ?_); (conv => whnf); exact ⟨rfl, rfl⟩) | ((refine fc_m (hc _ (hR.below hS.nil)) ?_; rintro v w3 ⟨rfl, hS'⟩; replace hS := hS.call0 hS'); (conv => whnf); exact ⟨rfl, rfl⟩))) | (refine nw_f hS ?_; intro b w1 hS) | (refine as_i hS ?_) | (refine as_i (hS.subs (List.nil_sublist _) (by repeat (first | exact List.Sublist.refl _ | apply List.Sublist.cons_cons | apply List.Sublist.cons))) ?_) | (refine as_i (hS.subs (List.Sublist.refl _) (by repeat (first | exact List.Sublist.refl _ | apply List.Sublist.cons_cons | apply List.Sublist.cons))) ?_) | (refine bar_f hS ?_) | (refine ld_f hS 0 rfl rfl ?_) | (refine ldA_f hS 0 rfl rfl ?_) | (refine stN_f hS 0 rfl (Nat.le_of_ble_eq_true rfl) rfl rfl ?_; (conv => whnf); intro w1 hS) | (refine stM_f hS 0 rfl (Nat.le_of_ble_eq_true rfl) rfl ?_; (conv => whnf); intro w1 hS) | (refine fc_m (hc _ (hR.below hS.nil)) ?_; rintro v w3 ⟨rfl, hS'⟩; replace hS := hS.call0 hS') | (refine drawf TB_ok rfl (by kernel_rfl) (by kernel_rfl) hS (List.Sublist.refl _) (List.Sublist.refl _) ?_; intro w1 hS) | (refine br_t (by assumption) ?_) | (refine br_f (by assumption) ?_))
    exact ⟨rfl, hS.nil⟩
end Go.RV
