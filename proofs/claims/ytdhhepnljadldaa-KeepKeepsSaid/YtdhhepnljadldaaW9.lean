/- The laws of chapter 9, walked: KeepKeeps. Conditions: none. -/
import Derived.Test.YtdhhepnljadldaaW8
set_option maxRecDepth 20000
set_option linter.unusedVariables false
set_option linter.unusedSimpArgs false
namespace Go.RV
open Go Go.Proofs

theorem keepKeeps_c (p : Pol) (A : Option Addr) (c : Nat) (xs : List Stp) (hx : Ticked xs) (now : Int) (w : World) (hR : Rd w A (flat encS xs)) :
    Fc Try.prog 4 [polV p, .slice A xs.length c, .int .u32 now] w fun v w' => v = .bool true ∧ St [] w w' [] := by
  refine fc_i TB_ok Try.func4 rfl (by kernel_rfl) ?_
  have hS := Sf.refl w
  repeat ((conv => whnf); first | (refine nw_f hS ?_; intro b w1 hS) | (refine ld_f hS 0 rfl rfl ?_) | (refine ldA_f hS 0 rfl rfl ?_) | (refine stN_f hS 0 rfl (Nat.le_of_ble_eq_true rfl) rfl rfl ?_; (conv => whnf); intro w1 hS) | (refine stM_f hS 0 rfl (Nat.le_of_ble_eq_true rfl) rfl ?_; (conv => whnf); intro w1 hS))
  refine br_i (fun hb => ?_) (fun hb => ?_)
  · repeat ((conv => whnf); first | (refine nw_f hS ?_; intro b w1 hS) | (refine ld_f hS 0 rfl rfl ?_) | (refine ldA_f hS 0 rfl rfl ?_) | (refine stN_f hS 0 rfl (Nat.le_of_ble_eq_true rfl) rfl rfl ?_; (conv => whnf); intro w1 hS) | (refine stM_f hS 0 rfl (Nat.le_of_ble_eq_true rfl) rfl ?_; (conv => whnf); intro w1 hS))
    refine fc_m (awake_c _) ?_
    rintro v w1 ⟨rfl, hS'⟩
    replace hS := hS.call0 hS'
    repeat ((conv => whnf); first | (refine nw_f hS ?_; intro b w1 hS) | (refine ld_f hS 0 rfl rfl ?_) | (refine ldA_f hS 0 rfl rfl ?_) | (refine stN_f hS 0 rfl (Nat.le_of_ble_eq_true rfl) rfl rfl ?_; (conv => whnf); intro w1 hS) | (refine stM_f hS 0 rfl (Nat.le_of_ble_eq_true rfl) rfl ?_; (conv => whnf); intro w1 hS))
    exact ⟨rfl, hS.nil⟩
  have hn : xs.length ≤ 200 := by simp at hb; omega
  repeat ((conv => whnf); first | (refine nw_f hS ?_; intro b w1 hS) | (refine ld_f hS 0 rfl rfl ?_) | (refine ldA_f hS 0 rfl rfl ?_) | (refine stN_f hS 0 rfl (Nat.le_of_ble_eq_true rfl) rfl rfl ?_; (conv => whnf); intro w1 hS) | (refine stM_f hS 0 rfl (Nat.le_of_ble_eq_true rfl) rfl ?_; (conv => whnf); intro w1 hS))
  refine fc_m (keep_c p A c xs now _ (hR.below hS.nil) (by omega)) ?_
  rintro v w1 ⟨L1, h1, hS'⟩
  replace hS := hS.callF hS'
  obtain ⟨A1, c1, rfl, h1⟩ := h1.open
  repeat ((conv => whnf); first | (refine nw_f hS ?_; intro b w1 hS) | (refine ld_f hS 0 rfl rfl ?_) | (refine ldA_f hS 0 rfl rfl ?_) | (refine stN_f hS 0 rfl (Nat.le_of_ble_eq_true rfl) rfl rfl ?_; (conv => whnf); intro w1 hS) | (refine stM_f hS 0 rfl (Nat.le_of_ble_eq_true rfl) rfl ?_; (conv => whnf); intro w1 hS))
  refine drawf TB_ok rfl (by kernel_rfl) (by kernel_rfl) hS (List.Sublist.refl _) (List.Sublist.refl _) ?_
  intro w1 hS
  repeat ((conv => whnf); apply q_i; focus (intro w1 hS; (conv => whnf); first | exact ⟨rfl, rfl⟩ | (refine ld_f hS 0 rfl rfl ?_; (conv => whnf); exact ⟨rfl, rfl⟩) | (refine ldA_f hS 0 rfl rfl ?_; (conv => whnf); exact ⟨rfl, rfl⟩)))
  (conv => whnf)
  refine fc_m (theirs_c A c xs _ (hR.below hS.nil) (by omega)) ?_
  rintro v w1 ⟨L2, h2, hS'⟩
  replace hS := hS.callF hS'
  obtain ⟨A2, c2, rfl, h2⟩ := h2.open
  (conv => whnf)
  refine as_i (hS.subs (by simp) (List.Sublist.refl _)) ?_
  repeat ((conv => whnf); apply q_i; focus (intro w1 hS; (conv => whnf); first | exact ⟨rfl, rfl⟩ | (refine ld_f hS 0 rfl rfl ?_; (conv => whnf); exact ⟨rfl, rfl⟩) | (refine ldA_f hS 0 rfl rfl ?_; (conv => whnf); exact ⟨rfl, rfl⟩)))
  (conv => whnf)
  refine fc_m (rkeep_c p A2 c2 xs now _ (h2.rdF hS) (by omega)) ?_
  rintro v w1 ⟨L3, h3, hS'⟩
  replace hS := hS.callF hS'
  obtain ⟨A3, c3, rfl, h3⟩ := h3.open
  (conv => whnf)
  refine as_i (hS.subs (by simp) (List.Sublist.refl _)) ?_
  repeat ((conv => whnf); apply q_i; focus (intro w1 hS; (conv => whnf); first | exact ⟨rfl, rfl⟩ | (refine ld_f hS 0 rfl rfl ?_; (conv => whnf); exact ⟨rfl, rfl⟩) | (refine ldA_f hS 0 rfl rfl ?_; (conv => whnf); exact ⟨rfl, rfl⟩)))
  repeat ((conv => whnf); first | (refine nw_f hS ?_; intro b w1 hS) | (refine ld_f hS 0 rfl rfl ?_) | (refine ldA_f hS 0 rfl rfl ?_) | (refine stN_f hS 0 rfl (Nat.le_of_ble_eq_true rfl) rfl rfl ?_; (conv => whnf); intro w1 hS) | (refine stM_f hS 0 rfl (Nat.le_of_ble_eq_true rfl) rfl ?_; (conv => whnf); intro w1 hS))
  refine fc_m (kept_c p A c xs now _ (hR.below hS.nil) (by omega)) ?_
  rintro v w1 ⟨L4, h4, hS'⟩
  replace hS := hS.callF hS'
  obtain ⟨A4, c4, rfl, h4⟩ := h4.open
  repeat ((conv => whnf); first | (refine nw_f hS ?_; intro b w1 hS) | (refine ld_f hS 0 rfl rfl ?_) | (refine ldA_f hS 0 rfl rfl ?_) | (refine stN_f hS 0 rfl (Nat.le_of_ble_eq_true rfl) rfl rfl ?_; (conv => whnf); intro w1 hS) | (refine stM_f hS 0 rfl (Nat.le_of_ble_eq_true rfl) rfl ?_; (conv => whnf); intro w1 hS))
  refine br_i (fun hb => absurd hb (by simp)) (fun _ => ?_)
  repeat ((conv => whnf); first | (refine nw_f hS ?_; intro b w1 hS) | (refine ld_f hS 0 rfl rfl ?_) | (refine ldA_f hS 0 rfl rfl ?_) | (refine stN_f hS 0 rfl (Nat.le_of_ble_eq_true rfl) rfl rfl ?_; (conv => whnf); intro w1 hS) | (refine stM_f hS 0 rfl (Nat.le_of_ble_eq_true rfl) rfl ?_; (conv => whnf); intro w1 hS))
  refine loop_i TB_ok (fun i : Nat => [(11, .int .i64 i), (10, .int .i64 (((xs.take i).filter (keepOne p xs now)).length : Nat))]) (fun i w' => i ≤ xs.length ∧ Sf [] w w' (L4 ++ (L3 ++ (L2 ++ (L1 ++ [])))) _) (fun i => xs.length - i) 0 rfl ⟨Nat.zero_le _, hS⟩ ?_
  have m1 : ∀ x ∈ L1, x ∈ L4 ++ (L3 ++ (L2 ++ (L1 ++ []))) := fun x hx => by simp [hx]
  have m3 : ∀ x ∈ L3, x ∈ L4 ++ (L3 ++ (L2 ++ (L1 ++ []))) := fun x hx => by simp [hx]
  have m4 : ∀ x ∈ L4, x ∈ L4 ++ (L3 ++ (L2 ++ (L1 ++ []))) := fun x hx => by simp [hx]
  have hkl : (kept p xs now).length ≤ xs.length := List.length_filter_le _ _
  rintro i us w2 ⟨hi, hS⟩
  (conv => whnf)
  refine br_i (fun hb => ?_) (fun hb => ?_)
  · have hlt : i < xs.length := by simpa using hb
    obtain ⟨b1, o1, rfl⟩ := (h1.rdM hS m1).form (flat_ne encB_len (by omega) (i := i) (by simpa using hlt))
    obtain ⟨b3, o3, rfl⟩ := (h3.rdM hS m3).form (flat_ne encB_len (by omega) (i := i) (by simpa using hlt))
    obtain ⟨b0, o0, rfl, hc⟩ := hR.cells (flat_ne encS_len (by omega) hlt)
    repeat ((conv => whnf); first | (refine nw_f hS ?_; intro b w1 hS) | (refine ld_f hS 0 rfl rfl ?_) | (refine ldA_f hS 0 rfl rfl ?_) | (refine stN_f hS 0 rfl (Nat.le_of_ble_eq_true rfl) rfl rfl ?_; (conv => whnf); intro w1 hS) | (refine stM_f hS 0 rfl (Nat.le_of_ble_eq_true rfl) rfl ?_; (conv => whnf); intro w1 hS))
    refine drawf TB_ok rfl (by kernel_rfl) (by kernel_rfl) hS (List.Sublist.refl _) (List.Sublist.refl _) ?_
    intro w1 hS
    repeat ((conv => whnf); apply q_i; focus (intro w1 hS; (conv => whnf); first | exact ⟨rfl, rfl⟩ | (refine ld_f hS 0 rfl rfl ?_; (conv => whnf); exact ⟨rfl, rfl⟩) | (refine ldA_f hS 0 rfl rfl ?_; (conv => whnf); exact ⟨rfl, rfl⟩) | (refine .mk ⟨by omega, by omega⟩ ?_; refine ix_i rfl ?_; (conv => whnf); exact ⟨rfl, rfl⟩) | (refine ld_el encB_len (h1.rdM hS m1).at (i := i) (k := 0) (by simpa using hlt) (by omega) rfl (v := .bool (keepOne p xs now xs[i])) (by simp [encB]) ?_; (conv => whnf); exact ⟨rfl, rfl⟩) | (refine ld_el encB_len (h3.rdM hS m3).at (i := i) (k := 0) (by simpa using hlt) (by omega) rfl (v := .bool (oneR p xs xs[i] now)) (by simp [encB]) ?_; (conv => whnf); exact ⟨rfl, rfl⟩)))
    (conv => whnf)
    refine br_i (fun hb => absurd hb (by simp [oneR_keepOne p xs now hx xs[i] (List.getElem_mem hlt)])) (fun _ => ?_)
    repeat ((conv => whnf); first | (refine nw_f hS ?_; intro b w1 hS) | (refine ld_f hS 0 rfl rfl ?_) | (refine ldA_f hS 0 rfl rfl ?_) | (refine stN_f hS 0 rfl (Nat.le_of_ble_eq_true rfl) rfl rfl ?_; (conv => whnf); intro w1 hS) | (refine stM_f hS 0 rfl (Nat.le_of_ble_eq_true rfl) rfl ?_; (conv => whnf); intro w1 hS) | (refine .mk ⟨by omega, by omega⟩ ?_; refine ix_i rfl ?_) | (refine ld_el encB_len (h1.rdM hS m1).at (i := i) (k := 0) (by simpa using hlt) (by omega) rfl (v := .bool (keepOne p xs now xs[i])) (by simp [encB]) ?_))
    refine br_i (fun hq => ?_) (fun hq => ?_)
    · repeat ((conv => whnf); first | (refine nw_f hS ?_; intro b w1 hS) | (refine ld_f hS 0 rfl rfl ?_) | (refine ldA_f hS 0 rfl rfl ?_) | (refine stN_f hS 0 rfl (Nat.le_of_ble_eq_true rfl) rfl rfl ?_; (conv => whnf); intro w1 hS) | (refine stM_f hS 0 rfl (Nat.le_of_ble_eq_true rfl) rfl ?_; (conv => whnf); intro w1 hS))
      have hq' : keepOne p xs now xs[i] = false := by simpa using hq
      refine ⟨rfl, i + 1, ?_, ⟨by omega, hS⟩, by omega⟩
      rw [wi hlt (by omega), filter_take_succ _ _ _ hlt, hq']
      simp
      rfl
    · have hq' : keepOne p xs now xs[i] = true := by simpa using hq
      have hk := filter_at (keepOne p xs now) xs i hlt hq'
      have hk1 : ((xs.take i).filter (keepOne p xs now)).length < (kept p xs now).length := hk.1
      have hk2 : (kept p xs now)[((xs.take i).filter (keepOne p xs now)).length] = xs[i] := by
        have := hk.2
        rw [List.getElem?_eq_getElem hk.1] at this
        exact Option.some.inj this
      obtain ⟨b4, o4, rfl⟩ := (h4.rdM hS m4).form (flat_ne encS_len (by omega) hk1)
      repeat ((conv => whnf); first | (refine nw_f hS ?_; intro b w1 hS) | (refine ld_f hS 0 rfl rfl ?_) | (refine ldA_f hS 0 rfl rfl ?_) | (refine stN_f hS 0 rfl (Nat.le_of_ble_eq_true rfl) rfl rfl ?_; (conv => whnf); intro w1 hS) | (refine stM_f hS 0 rfl (Nat.le_of_ble_eq_true rfl) rfl ?_; (conv => whnf); intro w1 hS))
      refine drawf TB_ok rfl (by kernel_rfl) (by kernel_rfl) hS (List.Sublist.refl _) (List.Sublist.refl _) ?_
      intro w1 hS
      repeat ((conv => whnf); apply q_i; focus (intro w1 hS; (conv => whnf); first | exact ⟨rfl, rfl⟩ | (refine ld_f hS 0 rfl rfl ?_; (conv => whnf); exact ⟨rfl, rfl⟩) | (refine ldA_f hS 0 rfl rfl ?_; (conv => whnf); exact ⟨rfl, rfl⟩)))
      (conv => whnf)
      refine br_i (fun hb => absurd hb (by simp; omega)) (fun _ => ?_)
      repeat ((conv => whnf); apply q_i; focus (intro w1 hS; (conv => whnf); first | exact ⟨rfl, rfl⟩ | (refine ld_f hS 0 rfl rfl ?_; (conv => whnf); exact ⟨rfl, rfl⟩) | (refine ldA_f hS 0 rfl rfl ?_; (conv => whnf); exact ⟨rfl, rfl⟩) | (refine .mk ⟨by omega, by omega⟩ ?_; refine ix_i rfl ?_; (conv => whnf); exact ⟨rfl, rfl⟩) | (refine ldN_el encS_len (h4.rdM hS m4).at hk1 rfl rfl ?_; (conv => whnf); exact ⟨rfl, rfl⟩) | (refine ldN_el encS_len (hc _ hS.nil) hlt rfl rfl ?_; (conv => whnf); exact ⟨rfl, rfl⟩) | (refine neStp_i (kept p xs now)[((xs.take i).filter (keepOne p xs now)).length] xs[i] ?_; (conv => whnf); exact ⟨rfl, rfl⟩)))
      (conv => whnf)
      refine br_i (fun hb => absurd hb (by simp [hk2])) (fun _ => ?_)
      repeat ((conv => whnf); first | (refine nw_f hS ?_; intro b w1 hS) | (refine ld_f hS 0 rfl rfl ?_) | (refine ldA_f hS 0 rfl rfl ?_) | (refine stN_f hS 0 rfl (Nat.le_of_ble_eq_true rfl) rfl rfl ?_; (conv => whnf); intro w1 hS) | (refine stM_f hS 0 rfl (Nat.le_of_ble_eq_true rfl) rfl ?_; (conv => whnf); intro w1 hS))
      refine ⟨rfl, i + 1, ?_, ⟨by omega, hS⟩, by omega⟩
      rw [wi hlt (by omega), wi (i := ((xs.take i).filter (keepOne p xs now)).length) hk1 (by omega), filter_take_succ _ _ _ hlt, hq', if_pos rfl, List.length_append]
      rfl
  · have hge : i = xs.length := by simp at hb; omega
    subst hge
    repeat ((conv => whnf); first | (refine nw_f hS ?_; intro b w1 hS) | (refine ld_f hS 0 rfl rfl ?_) | (refine ldA_f hS 0 rfl rfl ?_) | (refine stN_f hS 0 rfl (Nat.le_of_ble_eq_true rfl) rfl rfl ?_; (conv => whnf); intro w1 hS) | (refine stM_f hS 0 rfl (Nat.le_of_ble_eq_true rfl) rfl ?_; (conv => whnf); intro w1 hS))
    refine br_i (fun _ => ?_) (fun hb => absurd hb (by simp [kept]))
    repeat ((conv => whnf); first | (refine nw_f hS ?_; intro b w1 hS) | (refine ld_f hS 0 rfl rfl ?_) | (refine ldA_f hS 0 rfl rfl ?_) | (refine stN_f hS 0 rfl (Nat.le_of_ble_eq_true rfl) rfl rfl ?_; (conv => whnf); intro w1 hS) | (refine stM_f hS 0 rfl (Nat.le_of_ble_eq_true rfl) rfl ?_; (conv => whnf); intro w1 hS))
    refine fc_m (awake_c _) ?_
    rintro v w1 ⟨rfl, hS'⟩
    replace hS := hS.call0 hS'
    repeat ((conv => whnf); first | (refine nw_f hS ?_; intro b w1 hS) | (refine ld_f hS 0 rfl rfl ?_) | (refine ldA_f hS 0 rfl rfl ?_) | (refine stN_f hS 0 rfl (Nat.le_of_ble_eq_true rfl) rfl rfl ?_; (conv => whnf); intro w1 hS) | (refine stM_f hS 0 rfl (Nat.le_of_ble_eq_true rfl) rfl ?_; (conv => whnf); intro w1 hS))
    exact ⟨rfl, hS.nil⟩
end Go.RV
