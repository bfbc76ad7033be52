/- The document's Cut. Conditions: none. -/
import Derived.Test.YtnhlpmnehdackaaGreatPa7
set_option maxRecDepth 20000
set_option linter.unusedVariables false
set_option linter.unusedSimpArgs false
namespace Go.RV.C04
open Go Go.Proofs Go.RowKit

/-- a text at a byte -/
def partsC (c : UInt8) : List UInt8 → Nm
  | [] => [[]]
  | b :: r => if b = c then [] :: partsC c r else match partsC c r with
    | [] => [[b]]
    | x :: xs => (b :: x) :: xs
theorem partsC_ne (c : UInt8) (l : List UInt8) : partsC c l ≠ [] := by
  cases l with
  | nil => simp [partsC]
  | cons b r =>
    unfold partsC
    split
    · simp
    · split <;> simp
theorem partsC_slash : ∀ l, partsC 47 l = partsP l
  | [] => rfl
  | b :: r => by
    rw [partsC, partsP, partsC_slash r]
    by_cases h : b = 47
    · rw [if_pos h, if_pos h]
    · rw [if_neg h, if_neg h]; cases partsP r <;> rfl
theorem partsC_none {c : UInt8} : ∀ {l : List UInt8}, c ∉ l → partsC c l = [l]
  | [], _ => rfl
  | b :: r, h => by
    rw [List.mem_cons, not_or] at h
    rw [partsC, if_neg (fun e => h.1 e.symm), partsC_none h.2]
theorem partsC_at {c : UInt8} : ∀ {l r : List UInt8}, c ∉ l → partsC c (l ++ c :: r) = l :: partsC c r
  | [], r, _ => by simp [partsC]
  | b :: l, r, h => by
    rw [List.mem_cons, not_or] at h
    rw [List.cons_append, partsC, if_neg (fun e => h.1 e.symm), partsC_at h.2]
/-- where Cut stands: i, from, what it has cut -/
def CutI (c : UInt8) (l : List UInt8) (i fr : Nat) (o : Nm) : Prop :=
  o.length ≤ i ∧ ((i ≤ l.length ∧ fr ≤ i ∧ o ++ partsC c (l.drop fr) = partsC c l ∧ c ∉ (l.take i).drop fr) ∨ (i = l.length + 1 ∧ o = partsC c l))
theorem cutI_end {c : UInt8} {l : List UInt8} {fr : Nat} {o : Nm} (h : CutI c l l.length fr o) : fr ≤ l.length ∧ CutI c l (l.length + 1) (l.length + 1) (o ++ [(l.take l.length).drop fr]) := by
  obtain ⟨h0, ⟨h1, h2, h3, h4⟩ | ⟨h1, _⟩⟩ := h
  · rw [List.take_length] at h4 ⊢
    rw [partsC_none h4] at h3
    exact ⟨h2, by simp; omega, .inr ⟨rfl, h3⟩⟩
  · omega
theorem cutI_at {c : UInt8} {l : List UInt8} {i fr : Nat} {o : Nm} (h : CutI c l i fr o) (hi : i < l.length) (hc : l[i] = c) : fr ≤ i ∧ CutI c l (i + 1) (i + 1) (o ++ [(l.take i).drop fr]) := by
  obtain ⟨h0, ⟨h1, h2, h3, h4⟩ | ⟨h1, _⟩⟩ := h
  · have e : l.drop fr = (l.take i).drop fr ++ c :: l.drop (i + 1) := by
      have e1 : l = l.take i ++ c :: l.drop (i + 1) := by
        rw [← hc, List.getElem_cons_drop, List.take_append_drop]
      have e2 : (l.take i).length = i := by rw [List.length_take]; omega
      conv => lhs; rw [e1]
      rw [List.drop_append_of_le_length (by omega)]
    rw [e, partsC_at h4] at h3
    exact ⟨h2, by simp; omega, .inl ⟨by omega, Nat.le_refl _, by rw [← h3]; simp, by simp⟩⟩
  · omega
theorem cutI_on {c : UInt8} {l : List UInt8} {i fr : Nat} {o : Nm} (h : CutI c l i fr o) (hi : i < l.length) (hc : l[i] ≠ c) : CutI c l (i + 1) fr o := by
  obtain ⟨h0, ⟨h1, h2, h3, h4⟩ | ⟨h1, _⟩⟩ := h
  · refine ⟨by omega, .inl ⟨by omega, by omega, h3, ?_⟩⟩
    have e2 : (l.take i).length = i := by rw [List.length_take]; omega
    rw [List.take_succ_eq_append_getElem hi, List.drop_append_of_le_length (by omega), List.mem_append, not_or]
    exact ⟨h4, by simpa using fun e => hc e.symm⟩
  · omega
set_option maxHeartbeats 1000000 in
theorem cutN_c (l : List UInt8) (c : UInt8) (hl : l.length ≤ 1000) (w : World) : Fc Tryz.prog 96 [.string (strY l), .int .u8 (c.toNat : Int)] w fun v w' => ∃ A k Lv, v = .slice A (partsC c l).length k ∧
    Sl 9 1 (.slice A (partsC c l).length k) (partsC c l).length (flat encT (partsC c l)) Lv ∧ St [] w w' Lv := by
  refine fc_i TB_ok Tryz.func96 rfl (by kernel_rfl) ?_
  have hS := Sf.refl w
  have hz := strY_size l
  repeat ((conv => whnf); first | (apply q_i; focus (intro w1 hS; (conv => whnf); first | exact ⟨rfl, rfl⟩)) | (refine nw_f hS ?_; intro b w1 hS) | (refine as_i hS ?_) | (refine as_i (hS.subs (List.nil_sublist _) (by repeat (first | exact List.Sublist.refl _ | apply List.Sublist.cons_cons | apply List.Sublist.cons))) ?_) | (refine as_i (hS.subs (List.Sublist.refl _) (by repeat (first | exact List.Sublist.refl _ | apply List.Sublist.cons_cons | apply List.Sublist.cons))) ?_) | (refine bar_f hS ?_) | (refine drawf TB_ok rfl (by kernel_rfl) (by kernel_rfl) hS (List.Sublist.refl _) (List.Sublist.refl _) ?_; intro w1 hS) | (refine br_t (by assumption) ?_) | (refine br_f (by assumption) ?_))
  replace hS : Sf [] w _ ([] ++ []) _ := hS
  refine loop_i TB_ok (fun t : Nat × Nat × Value × Nm => [(7, .int .i64 t.1), (6, .int .i64 t.2.1), (5, t.2.2.1)]) (fun t w' => CutI c l t.1 t.2.1 t.2.2.2 ∧ ∃ Lo, Sl 9 1 t.2.2.1 t.2.2.2.length (flat encT t.2.2.2) Lo ∧ Sf [] w w' (Lo ++ []) []) (fun t => l.length + 1 - t.1) (0, 0, .slice none 0 0, []) rfl ⟨⟨Nat.le_refl _, .inl ⟨Nat.zero_le _, Nat.le_refl _, rfl, by simp⟩⟩, [], .nil, hS⟩ ?_
  rintro ⟨i, fr, sl, o⟩ us w2 ⟨hI, Lo, hv, hS⟩
  simp only at hI hv hS ⊢
  obtain ⟨A2, c2, rfl, hv⟩ := hv.open
  have hol := hI.1
  by_cases hle : i ≤ l.length
  · have g1 : decide ((i : Int) ≤ ((strY l).size : Int)) = true := decide_eq_true (by omega)
    have hfr : fr ≤ i := by obtain ⟨_, ⟨_, h2, _⟩ | ⟨h1, _⟩⟩ := hI <;> omega
    have hx : (strY l).extract ((fr : Int)).toNat ((i : Int)).toNat = strY ((l.take i).drop fr) := by rw [strY_extract, Int.toNat_natCast, Int.toNat_natCast]
    by_cases hlt : i < l.length
    · have g2 : ((i : Int) == ((strY l).size : Int)) = false := by rw [beq_eq_false_iff_ne]; omega
      have hsx := byteAt_strY hlt
      replace hsx : byteAt (strY l) ((i : Int)).toNat = (l[i].toNat : Int) := hsx
      by_cases hc : l[i] = c
      · have g3 : (byteAt (strY l) ((i : Int)).toNat == (c.toNat : Int)) = true := by rw [hsx, hc]; simp
        have hI2 := (cutI_at hI hlt hc).2
        repeat ((conv => whnf); first | (apply q_i; focus (intro w1 hS; (conv => whnf); first | exact ⟨rfl, rfl⟩ | ((refine ld_f hS 0 rfl rfl ?_); (conv => whnf); exact ⟨rfl, rfl⟩) | ((refine ldA_f hS 0 rfl rfl ?_); (conv => whnf); exact ⟨rfl, rfl⟩) | ((refine .mk ⟨by omega, by omega⟩ ?_); (conv => whnf); exact ⟨rfl, rfl⟩) | ((refine .mk ⟨by omega, by omega⟩ ?_); (conv => whnf); exact ⟨rfl, rfl⟩))) | (refine nw_f hS ?_; intro b w1 hS) | (refine as_i hS ?_) | (refine as_i (hS.subs (List.nil_sublist _) (by repeat (first | exact List.Sublist.refl _ | apply List.Sublist.cons_cons | apply List.Sublist.cons))) ?_) | (refine as_i (hS.subs (List.Sublist.refl _) (by repeat (first | exact List.Sublist.refl _ | apply List.Sublist.cons_cons | apply List.Sublist.cons))) ?_) | (refine bar_f hS ?_) | (refine ld_f hS 0 rfl rfl ?_) | (refine ldA_f hS 0 rfl rfl ?_) | (refine stN_f hS 0 rfl (Nat.le_of_ble_eq_true rfl) rfl rfl ?_; (conv => whnf); intro w1 hS) | (refine stM_f hS 0 rfl (Nat.le_of_ble_eq_true rfl) rfl ?_; (conv => whnf); intro w1 hS) | (refine .mk ⟨by omega, by omega⟩ ?_) | (refine .mk ⟨by omega, by omega⟩ ?_) | (refine drawf TB_ok rfl (by kernel_rfl) (by kernel_rfl) hS (List.Sublist.refl _) (List.Sublist.refl _) ?_; intro w1 hS) | (refine br_t (by assumption) ?_) | (refine br_f (by assumption) ?_))
        rw [hx] at hS
        (conv => whnf)
        refine app_f TB_ok elStr hS hv (show Rd _ _ (flat encT [(l.take i).drop fr]) from hS.rd 0 rfl) (flatT_len _) (flatT_one _) (by simp only [List.length_singleton]; omega) (by simp only [List.length_singleton]; omega) ?_
        intro v' Lo' w6 hv' hS
        obtain ⟨A3, c3, rfl, hv'⟩ := hv'.open
        repeat ((conv => whnf); first | (apply q_i; focus (intro w1 hS; (conv => whnf); first | exact ⟨rfl, rfl⟩ | ((refine ld_f hS 0 rfl rfl ?_); (conv => whnf); exact ⟨rfl, rfl⟩) | ((refine ldA_f hS 0 rfl rfl ?_); (conv => whnf); exact ⟨rfl, rfl⟩))) | (refine nw_f hS ?_; intro b w1 hS) | (refine as_i hS ?_) | (refine as_i (hS.subs (List.nil_sublist _) (by repeat (first | exact List.Sublist.refl _ | apply List.Sublist.cons_cons | apply List.Sublist.cons))) ?_) | (refine as_i (hS.subs (List.Sublist.refl _) (by repeat (first | exact List.Sublist.refl _ | apply List.Sublist.cons_cons | apply List.Sublist.cons))) ?_) | (refine bar_f hS ?_) | (refine ld_f hS 0 rfl rfl ?_) | (refine ldA_f hS 0 rfl rfl ?_) | (refine stN_f hS 0 rfl (Nat.le_of_ble_eq_true rfl) rfl rfl ?_; (conv => whnf); intro w1 hS) | (refine stM_f hS 0 rfl (Nat.le_of_ble_eq_true rfl) rfl ?_; (conv => whnf); intro w1 hS) | (refine drawf TB_ok rfl (by kernel_rfl) (by kernel_rfl) hS (List.Sublist.refl _) (List.Sublist.refl _) ?_; intro w1 hS) | (refine br_t (by assumption) ?_) | (refine br_f (by assumption) ?_))
        refine ⟨rfl, (i + 1, i + 1, .slice A3 (o.length + 1) c3, o ++ [(l.take i).drop fr]), ?_, ⟨hI2, Lo', ?_, hS.subs (List.Sublist.refl _) (List.nil_sublist _)⟩, by show l.length + 1 - (i + 1) < _; omega⟩
        · rw [wi (n := l.length + 1) (by omega) (by omega)]
          rfl
        · simp only
          rw [List.length_append, flat_append]
          exact hv'
      · have g3 : (byteAt (strY l) ((i : Int)).toNat == (c.toNat : Int)) = false := by
          rw [hsx, beq_eq_false_iff_ne]
          intro e
          exact hc (UInt8.toNat_inj.1 (by omega))
        have hI2 := cutI_on hI hlt hc
        repeat ((conv => whnf); first | (apply q_i; focus (intro w1 hS; (conv => whnf); first | exact ⟨rfl, rfl⟩ | ((refine ld_f hS 0 rfl rfl ?_); (conv => whnf); exact ⟨rfl, rfl⟩) | ((refine ldA_f hS 0 rfl rfl ?_); (conv => whnf); exact ⟨rfl, rfl⟩) | ((refine .mk ⟨by omega, by omega⟩ ?_); (conv => whnf); exact ⟨rfl, rfl⟩))) | (refine nw_f hS ?_; intro b w1 hS) | (refine as_i hS ?_) | (refine as_i (hS.subs (List.nil_sublist _) (by repeat (first | exact List.Sublist.refl _ | apply List.Sublist.cons_cons | apply List.Sublist.cons))) ?_) | (refine as_i (hS.subs (List.Sublist.refl _) (by repeat (first | exact List.Sublist.refl _ | apply List.Sublist.cons_cons | apply List.Sublist.cons))) ?_) | (refine bar_f hS ?_) | (refine ld_f hS 0 rfl rfl ?_) | (refine ldA_f hS 0 rfl rfl ?_) | (refine stN_f hS 0 rfl (Nat.le_of_ble_eq_true rfl) rfl rfl ?_; (conv => whnf); intro w1 hS) | (refine stM_f hS 0 rfl (Nat.le_of_ble_eq_true rfl) rfl ?_; (conv => whnf); intro w1 hS) | (refine .mk ⟨by omega, by omega⟩ ?_) | (refine drawf TB_ok rfl (by kernel_rfl) (by kernel_rfl) hS (List.Sublist.refl _) (List.Sublist.refl _) ?_; intro w1 hS) | (refine br_t (by assumption) ?_) | (refine br_f (by assumption) ?_))
        refine ⟨rfl, (i + 1, fr, .slice A2 o.length c2, o), ?_, ⟨hI2, Lo, hv, hS⟩, by show l.length + 1 - (i + 1) < _; omega⟩
        rw [wi (n := l.length) hlt (by omega)]
        rfl
    · have hil : i = l.length := by omega
      have g2 : ((i : Int) == ((strY l).size : Int)) = true := by rw [beq_iff_eq]; omega
      have hI2 : CutI c l (i + 1) (i + 1) (o ++ [(l.take i).drop fr]) := by rw [hil] at hI ⊢; exact (cutI_end hI).2
      repeat ((conv => whnf); first | (apply q_i; focus (intro w1 hS; (conv => whnf); first | exact ⟨rfl, rfl⟩ | ((refine ld_f hS 0 rfl rfl ?_); (conv => whnf); exact ⟨rfl, rfl⟩) | ((refine ldA_f hS 0 rfl rfl ?_); (conv => whnf); exact ⟨rfl, rfl⟩) | ((refine .mk ⟨by omega, by omega⟩ ?_); (conv => whnf); exact ⟨rfl, rfl⟩) | ((refine .mk ⟨by omega, by omega⟩ ?_); (conv => whnf); exact ⟨rfl, rfl⟩))) | (refine nw_f hS ?_; intro b w1 hS) | (refine as_i hS ?_) | (refine as_i (hS.subs (List.nil_sublist _) (by repeat (first | exact List.Sublist.refl _ | apply List.Sublist.cons_cons | apply List.Sublist.cons))) ?_) | (refine as_i (hS.subs (List.Sublist.refl _) (by repeat (first | exact List.Sublist.refl _ | apply List.Sublist.cons_cons | apply List.Sublist.cons))) ?_) | (refine bar_f hS ?_) | (refine ld_f hS 0 rfl rfl ?_) | (refine ldA_f hS 0 rfl rfl ?_) | (refine stN_f hS 0 rfl (Nat.le_of_ble_eq_true rfl) rfl rfl ?_; (conv => whnf); intro w1 hS) | (refine stM_f hS 0 rfl (Nat.le_of_ble_eq_true rfl) rfl ?_; (conv => whnf); intro w1 hS) | (refine .mk ⟨by omega, by omega⟩ ?_) | (refine .mk ⟨by omega, by omega⟩ ?_) | (refine drawf TB_ok rfl (by kernel_rfl) (by kernel_rfl) hS (List.Sublist.refl _) (List.Sublist.refl _) ?_; intro w1 hS) | (refine br_t (by assumption) ?_) | (refine br_f (by assumption) ?_))
      rw [hx] at hS
      (conv => whnf)
      refine app_f TB_ok elStr hS hv (show Rd _ _ (flat encT [(l.take i).drop fr]) from hS.rd 0 rfl) (flatT_len _) (flatT_one _) (by simp only [List.length_singleton]; omega) (by simp only [List.length_singleton]; omega) ?_
      intro v' Lo' w6 hv' hS
      obtain ⟨A3, c3, rfl, hv'⟩ := hv'.open
      repeat ((conv => whnf); first | (apply q_i; focus (intro w1 hS; (conv => whnf); first | exact ⟨rfl, rfl⟩ | ((refine ld_f hS 0 rfl rfl ?_); (conv => whnf); exact ⟨rfl, rfl⟩) | ((refine ldA_f hS 0 rfl rfl ?_); (conv => whnf); exact ⟨rfl, rfl⟩))) | (refine nw_f hS ?_; intro b w1 hS) | (refine as_i hS ?_) | (refine as_i (hS.subs (List.nil_sublist _) (by repeat (first | exact List.Sublist.refl _ | apply List.Sublist.cons_cons | apply List.Sublist.cons))) ?_) | (refine as_i (hS.subs (List.Sublist.refl _) (by repeat (first | exact List.Sublist.refl _ | apply List.Sublist.cons_cons | apply List.Sublist.cons))) ?_) | (refine bar_f hS ?_) | (refine ld_f hS 0 rfl rfl ?_) | (refine ldA_f hS 0 rfl rfl ?_) | (refine stN_f hS 0 rfl (Nat.le_of_ble_eq_true rfl) rfl rfl ?_; (conv => whnf); intro w1 hS) | (refine stM_f hS 0 rfl (Nat.le_of_ble_eq_true rfl) rfl ?_; (conv => whnf); intro w1 hS) | (refine drawf TB_ok rfl (by kernel_rfl) (by kernel_rfl) hS (List.Sublist.refl _) (List.Sublist.refl _) ?_; intro w1 hS) | (refine br_t (by assumption) ?_) | (refine br_f (by assumption) ?_))
      refine ⟨rfl, (i + 1, i + 1, .slice A3 (o.length + 1) c3, o ++ [(l.take i).drop fr]), ?_, ⟨hI2, Lo', ?_, hS.subs (List.Sublist.refl _) (List.nil_sublist _)⟩, by show l.length + 1 - (i + 1) < _; omega⟩
      · rw [wi (n := l.length + 1) (by omega) (by omega)]
        rfl
      · simp only
        rw [List.length_append, flat_append]
        exact hv'
  · have g1 : decide ((i : Int) ≤ ((strY l).size : Int)) = false := decide_eq_false (by omega)
    obtain ⟨_, ⟨h1, _⟩ | ⟨_, rfl⟩⟩ := hI
    · omega
    repeat ((conv => whnf); first | (apply q_i; focus (intro w1 hS; (conv => whnf); first | exact ⟨rfl, rfl⟩ | ((refine ld_f hS 0 rfl rfl ?_); (conv => whnf); exact ⟨rfl, rfl⟩) | ((refine ldA_f hS 0 rfl rfl ?_); (conv => whnf); exact ⟨rfl, rfl⟩))) | (refine nw_f hS ?_; intro b w1 hS) | (refine as_i hS ?_) | (refine as_i (hS.subs (List.nil_sublist _) (by repeat (first | exact List.Sublist.refl _ | apply List.Sublist.cons_cons | apply List.Sublist.cons))) ?_) | (refine as_i (hS.subs (List.Sublist.refl _) (by repeat (first | exact List.Sublist.refl _ | apply List.Sublist.cons_cons | apply List.Sublist.cons))) ?_) | (refine bar_f hS ?_) | (refine ld_f hS 0 rfl rfl ?_) | (refine ldA_f hS 0 rfl rfl ?_) | (refine stN_f hS 0 rfl (Nat.le_of_ble_eq_true rfl) rfl rfl ?_; (conv => whnf); intro w1 hS) | (refine stM_f hS 0 rfl (Nat.le_of_ble_eq_true rfl) rfl ?_; (conv => whnf); intro w1 hS) | (refine drawf TB_ok rfl (by kernel_rfl) (by kernel_rfl) hS (List.Sublist.refl _) (List.Sublist.refl _) ?_; intro w1 hS) | (refine br_t (by assumption) ?_) | (refine br_f (by assumption) ?_))
    exact ⟨_, _, Lo, rfl, hv, by simpa using hS.fr (List.Sublist.refl _)⟩
end Go.RV.C04
