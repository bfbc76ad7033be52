/- Contracts of functions of chapter 9: Keep and Kept. Conditions: none. -/
import Derived.Test.YtdhhepnljadldaaW3
set_option maxRecDepth 20000
set_option linter.unusedVariables false
set_option linter.unusedSimpArgs false
namespace Go.RV
open Go Go.Proofs

def encB (b : Bool) : List Value := [.bool b]
theorem encB_len (b : Bool) : (encB b).length = 1 := rfl
theorem elB : ElemOk Try.prog TB 39 4 1 1 := ⟨rfl, ⟨_, _, inf4, rfl, rfl, rfl, rfl⟩, by decide⟩
def keepOne (p : Pol) (xs : List Stp) (now : Int) (s : Stp) : Bool := keepP p xs s (ageP s now)

theorem map_take_succ {α β : Type} (f : α → β) (xs : List α) (i : Nat) (h : i < xs.length) : (xs.take (i+1)).map f = (xs.take i).map f ++ [f xs[i]] := by
  rw [List.take_succ_eq_append_getElem h, List.map_append]
  rfl

theorem keep_c (p : Pol) (A : Option Addr) (c : Nat) (xs : List Stp) (now : Int) (w : World) (hR : Rd w A (flat encS xs)) (hn : xs.length ≤ 70368744177664) :
    Fc Try.prog 16 [polV p, .slice A xs.length c, .int .u32 now] w fun v w' => ∃ L, Sl 4 1 v xs.length (flat encB (xs.map (keepOne p xs now))) L ∧ St [] w w' L := by
  refine fc_i TB_ok Try.func16 rfl (by kernel_rfl) ?_
  have hS := Sf.refl w
  repeat ((conv => whnf); first | (refine nw_f hS ?_; intro b w1 hS) | (refine ld_f hS 0 rfl rfl ?_) | (refine ldA_f hS 0 rfl rfl ?_) | (refine stN_f hS 0 rfl (Nat.le_of_ble_eq_true rfl) rfl rfl ?_; (conv => whnf); intro w1 hS) | (refine stM_f hS 0 rfl (Nat.le_of_ble_eq_true rfl) rfl ?_; (conv => whnf); intro w1 hS))
  refine fc_m (of_c p A c xs _ (by omega)) ?_
  rintro v w1 ⟨g, cap, Lo, rfl, hS', hRule⟩
  replace hS := hS.callF hS'
  repeat ((conv => whnf); first | (refine nw_f hS ?_; intro b w1 hS) | (refine ld_f hS 0 rfl rfl ?_) | (refine ld_f hS 1 rfl rfl ?_) | (refine ldA_f hS 0 rfl rfl ?_) | (refine ldA_f hS 1 rfl rfl ?_) | (refine stN_f hS 0 rfl (Nat.le_of_ble_eq_true rfl) rfl rfl ?_; (conv => whnf); intro w1 hS) | (refine stN_f hS 1 rfl (Nat.le_of_ble_eq_true rfl) rfl rfl ?_; (conv => whnf); intro w1 hS) | (refine stM_f hS 0 rfl (Nat.le_of_ble_eq_true rfl) rfl ?_; (conv => whnf); intro w1 hS) | (refine stM_f hS 1 rfl (Nat.le_of_ble_eq_true rfl) rfl ?_; (conv => whnf); intro w1 hS))
  refine loop_i TB_ok (fun s : Nat × Value => [(16, .int .i64 s.1), (7, s.2)]) (fun s w' => s.1 ≤ xs.length ∧ ∃ Lv, Sl 4 1 s.2 s.1 (flat encB ((xs.take s.1).map (keepOne p xs now))) Lv ∧ Sf [] w w' (Lv ++ Lo) _) (fun s => xs.length - s.1) (0, .slice none 0 0) rfl
    ⟨Nat.zero_le _, [], .nil, by simpa using hS⟩ ?_
  rintro ⟨i, v⟩ us w2 ⟨hi, Lv, hv, hS⟩
  (conv => whnf)
  refine br_i (fun hb => ?_) (fun hb => ?_)
  · have hlt : i < xs.length := by simpa using hb
    repeat ((conv => whnf); first | (refine nw_f hS ?_; intro b w1 hS) | (refine ld_f hS 0 rfl rfl ?_) | (refine ldA_f hS 0 rfl rfl ?_) | (refine stN_f hS 0 rfl (Nat.le_of_ble_eq_true rfl) rfl rfl ?_; (conv => whnf); intro w1 hS) | (refine stM_f hS 0 rfl (Nat.le_of_ble_eq_true rfl) rfl ?_; (conv => whnf); intro w1 hS))
    refine .mk ⟨by omega, by omega⟩ ?_
    refine ix_rd (hR.below hS.nil) (flat_ne encS_len (by omega) hlt) ?_
    intro b off hA hc
    (conv => whnf)
    refine ldN_el encS_len hc hlt rfl rfl ?_
    repeat ((conv => whnf); first | (refine nw_f hS ?_; intro b w1 hS) | (refine ld_f hS 0 rfl rfl ?_) | (refine ld_f hS 1 rfl rfl ?_) | (refine ld_f hS 2 rfl rfl ?_) | (refine ldA_f hS 0 rfl rfl ?_) | (refine ldA_f hS 1 rfl rfl ?_) | (refine ldA_f hS 2 rfl rfl ?_) | (refine stN_f hS 0 rfl (Nat.le_of_ble_eq_true rfl) rfl rfl ?_; (conv => whnf); intro w1 hS) | (refine stN_f hS 1 rfl (Nat.le_of_ble_eq_true rfl) rfl rfl ?_; (conv => whnf); intro w1 hS) | (refine stN_f hS 2 rfl (Nat.le_of_ble_eq_true rfl) rfl rfl ?_; (conv => whnf); intro w1 hS) | (refine stM_f hS 0 rfl (Nat.le_of_ble_eq_true rfl) rfl ?_; (conv => whnf); intro w1 hS) | (refine stM_f hS 1 rfl (Nat.le_of_ble_eq_true rfl) rfl ?_; (conv => whnf); intro w1 hS) | (refine stM_f hS 2 rfl (Nat.le_of_ble_eq_true rfl) rfl ?_; (conv => whnf); intro w1 hS))
    refine drawf TB_ok rfl (by kernel_rfl) (by kernel_rfl) hS (List.sublist_append_right Lv Lo) (List.Sublist.refl _) ?_
    intro w2 hS
    repeat ((conv => whnf); apply q_i; focus (intro w1 hS; (conv => whnf); first | exact ⟨rfl, rfl⟩ | (refine ld_f hS 0 rfl rfl ?_; (conv => whnf); exact ⟨rfl, rfl⟩) | (refine ld_f hS 1 rfl rfl ?_; (conv => whnf); exact ⟨rfl, rfl⟩) | (refine ld_f hS 2 rfl rfl ?_; (conv => whnf); exact ⟨rfl, rfl⟩) | (refine ldA_f hS 0 rfl rfl ?_; (conv => whnf); exact ⟨rfl, rfl⟩) | (refine ldA_f hS 1 rfl rfl ?_; (conv => whnf); exact ⟨rfl, rfl⟩) | (refine ldA_f hS 2 rfl rfl ?_; (conv => whnf); exact ⟨rfl, rfl⟩)))
    (conv => whnf)
    refine fc_m (age_c xs[i] now _) ?_
    rintro _ w3 ⟨rfl, hS'⟩
    replace hS := hS.call0 hS'
    (conv => whnf)
    refine as_i (hS.subs (List.sublist_append_right Lv Lo) (List.Sublist.refl _)) ?_
    (conv => whnf)
    refine fc_m (Cv.to_fc (hRule xs[i] (ageP xs[i] now) _ (hS.holdsF (List.sublist_append_right Lv Lo)) (hR.below hS.nil))) ?_
    rintro _ w4 ⟨rfl, hS'⟩
    replace hS := hS.call0 hS'
    (conv => whnf)
    refine as_i (hS.subs (List.sublist_append_right Lv Lo) (List.Sublist.refl _)) ?_
    (conv => whnf)
    refine nw_f hS ?_
    intro bs w5 hS
    (conv => whnf)
    refine as_i (hS.subs (List.sublist_append_right Lv Lo) (by repeat (first | exact List.Sublist.refl _ | apply List.Sublist.cons_cons | apply List.Sublist.cons))) ?_
    (conv => whnf)
    refine app_f TB_ok elB hS hv (hS.rd 0 rfl) rfl (by simp [one]) (by omega) (by omega) ?_
    intro v' Lv' w6 hv' hS
    (conv => whnf)
    refine as_i (hS.subs (List.sublist_append_right Lv' Lo) (by repeat (first | exact List.Sublist.refl _ | apply List.Sublist.cons_cons | apply List.Sublist.cons))) ?_
    repeat ((conv => whnf); apply q_i; focus (intro w1 hS; (conv => whnf); first | exact ⟨rfl, rfl⟩ | (refine ld_f hS 0 rfl rfl ?_; (conv => whnf); exact ⟨rfl, rfl⟩) | (refine ld_f hS 1 rfl rfl ?_; (conv => whnf); exact ⟨rfl, rfl⟩) | (refine ld_f hS 2 rfl rfl ?_; (conv => whnf); exact ⟨rfl, rfl⟩) | (refine ldA_f hS 0 rfl rfl ?_; (conv => whnf); exact ⟨rfl, rfl⟩) | (refine ldA_f hS 1 rfl rfl ?_; (conv => whnf); exact ⟨rfl, rfl⟩) | (refine ldA_f hS 2 rfl rfl ?_; (conv => whnf); exact ⟨rfl, rfl⟩)))
    repeat ((conv => whnf); first | (refine nw_f hS ?_; intro b w1 hS) | (refine ld_f hS 0 rfl rfl ?_) | (refine ldA_f hS 0 rfl rfl ?_) | (refine stN_f hS 0 rfl (Nat.le_of_ble_eq_true rfl) rfl rfl ?_; (conv => whnf); intro w1 hS) | (refine stM_f hS 0 rfl (Nat.le_of_ble_eq_true rfl) rfl ?_; (conv => whnf); intro w1 hS))
    refine ⟨rfl, (i + 1, v'), ?_, ⟨by simp; omega, Lv', ?_, hS.subs (List.Sublist.refl _) (by repeat (first | exact List.Sublist.refl _ | apply List.Sublist.cons_cons | apply List.Sublist.cons))⟩, by simp; omega⟩
    · rw [wi hlt (by omega)]
      rfl
    · simp only
      rw [map_take_succ _ _ _ hlt, flat_append]
      exact hv'
  · have hge : i = xs.length := by simp at hb; simp at hi; omega
    subst hge
    repeat ((conv => whnf); first | (refine nw_f hS ?_; intro b w1 hS) | (refine ld_f hS 0 rfl rfl ?_) | (refine ldA_f hS 0 rfl rfl ?_) | (refine stN_f hS 0 rfl (Nat.le_of_ble_eq_true rfl) rfl rfl ?_; (conv => whnf); intro w1 hS) | (refine stM_f hS 0 rfl (Nat.le_of_ble_eq_true rfl) rfl ?_; (conv => whnf); intro w1 hS))
    refine ⟨Lv, ?_, hS.fr (List.sublist_append_left Lv Lo)⟩
    simpa using hv

def kept (p : Pol) (xs : List Stp) (now : Int) : List Stp := xs.filter (keepOne p xs now)
theorem elS : ElemOk Try.prog TB 38 24 2 8 := ⟨rfl, ⟨_, _, inf24, rfl, rfl, rfl, rfl⟩, by decide⟩
theorem filter_take_succ {α : Type} (f : α → Bool) (xs : List α) (i : Nat) (h : i < xs.length) : (xs.take (i+1)).filter f = (xs.take i).filter f ++ (if f xs[i] then [xs[i]] else []) := by
  rw [List.take_succ_eq_append_getElem h, List.filter_append]
  cases hf : f xs[i] <;> simp [hf]

theorem kept_c (p : Pol) (A : Option Addr) (c : Nat) (xs : List Stp) (now : Int) (w : World) (hR : Rd w A (flat encS xs)) (hn : xs.length ≤ 17592186044416) :
    Fc Try.prog 19 [polV p, .slice A xs.length c, .int .u32 now] w fun v w' => ∃ L, Sl 24 2 v (kept p xs now).length (flat encS (kept p xs now)) L ∧ St [] w w' L := by
  refine fc_i TB_ok Try.func19 rfl (by kernel_rfl) ?_
  have hS := Sf.refl w
  repeat ((conv => whnf); first | (refine nw_f hS ?_; intro b w1 hS) | (refine ld_f hS 0 rfl rfl ?_) | (refine ldA_f hS 0 rfl rfl ?_) | (refine stN_f hS 0 rfl (Nat.le_of_ble_eq_true rfl) rfl rfl ?_; (conv => whnf); intro w1 hS) | (refine stM_f hS 0 rfl (Nat.le_of_ble_eq_true rfl) rfl ?_; (conv => whnf); intro w1 hS))
  refine fc_m (keep_c p A c xs now _ (hR.below hS.nil) (by omega)) ?_
  rintro vk w1 ⟨Lk, hk, hS'⟩
  replace hS := hS.callF hS'
  obtain ⟨Ak, ck, rfl, hk⟩ := hk.open
  have hlk : (xs.map (keepOne p xs now)).length = xs.length := by simp
  repeat ((conv => whnf); first | (refine nw_f hS ?_; intro b w1 hS) | (refine ld_f hS 0 rfl rfl ?_) | (refine ldA_f hS 0 rfl rfl ?_) | (refine stN_f hS 0 rfl (Nat.le_of_ble_eq_true rfl) rfl rfl ?_; (conv => whnf); intro w1 hS) | (refine stM_f hS 0 rfl (Nat.le_of_ble_eq_true rfl) rfl ?_; (conv => whnf); intro w1 hS))
  refine loop_i TB_ok (fun s : Nat × Value => [(15, .int .i64 s.1), (7, s.2)]) (fun s w' => s.1 ≤ xs.length ∧ ∃ Lv, Sl 24 2 s.2 ((xs.take s.1).filter (keepOne p xs now)).length (flat encS ((xs.take s.1).filter (keepOne p xs now))) Lv ∧ Sf [] w w' (Lv ++ Lk) _) (fun s => xs.length - s.1) (0, .slice none 0 0) rfl
    ⟨Nat.zero_le _, [], .nil, by simpa using hS⟩ ?_
  rintro ⟨i, v⟩ us w2 ⟨hi, Lv, hv, hS⟩
  have hle : ((xs.take i).filter (keepOne p xs now)).length ≤ i := Nat.le_trans (List.length_filter_le _ _) (by simp; omega)
  (conv => whnf)
  refine br_i (fun hb => ?_) (fun hb => ?_)
  · have hlt : i < xs.length := by simpa using hb
    have hRk : Rd w2 Ak (flat encB (xs.map (keepOne p xs now))) := hk.rd hS.st (fun x hx => by simp [hx])
    repeat ((conv => whnf); first | (refine nw_f hS ?_; intro b w1 hS) | (refine ld_f hS 0 rfl rfl ?_) | (refine ldA_f hS 0 rfl rfl ?_) | (refine stN_f hS 0 rfl (Nat.le_of_ble_eq_true rfl) rfl rfl ?_; (conv => whnf); intro w1 hS) | (refine stM_f hS 0 rfl (Nat.le_of_ble_eq_true rfl) rfl ?_; (conv => whnf); intro w1 hS))
    refine .mk ⟨by omega, by omega⟩ ?_
    refine ix_rd hRk (flat_ne encB_len (by omega) (by rw [hlk]; exact hlt)) ?_
    intro b off hA hc
    (conv => whnf)
    refine ld_el encB_len hc (i := i) (k := 0) (by rw [hlk]; exact hlt) (by omega) rfl (v := .bool (keepOne p xs now xs[i])) (by simp [encB]) ?_
    (conv => whnf)
    refine br_i (fun hq => ?_) (fun hq => ?_)
    · repeat ((conv => whnf); first | (refine nw_f hS ?_; intro b w1 hS) | (refine ld_f hS 0 rfl rfl ?_) | (refine ldA_f hS 0 rfl rfl ?_) | (refine stN_f hS 0 rfl (Nat.le_of_ble_eq_true rfl) rfl rfl ?_; (conv => whnf); intro w1 hS) | (refine stM_f hS 0 rfl (Nat.le_of_ble_eq_true rfl) rfl ?_; (conv => whnf); intro w1 hS))
      refine .mk ⟨by omega, by omega⟩ ?_
      refine ix_rd (hR.below hS.nil) (flat_ne encS_len (by omega) hlt) ?_
      intro b off hA hc
      (conv => whnf)
      refine ldN_el encS_len hc hlt rfl rfl ?_
      repeat ((conv => whnf); first | (refine nw_f hS ?_; intro b w1 hS) | (refine ld_f hS 0 rfl rfl ?_) | (refine ldA_f hS 0 rfl rfl ?_) | (refine stN_f hS 0 rfl (Nat.le_of_ble_eq_true rfl) rfl rfl ?_; (conv => whnf); intro w1 hS) | (refine stM_f hS 0 rfl (Nat.le_of_ble_eq_true rfl) rfl ?_; (conv => whnf); intro w1 hS))
      refine app_f TB_ok elS hS hv (hS.rd 0 rfl) rfl (by simp [encS, one]) (by dsimp only; omega) (by dsimp only; omega) ?_
      intro v' Lv' w6 hv' hS
      repeat ((conv => whnf); first | (refine nw_f hS ?_; intro b w1 hS) | (refine ld_f hS 0 rfl rfl ?_) | (refine ldA_f hS 0 rfl rfl ?_) | (refine stN_f hS 0 rfl (Nat.le_of_ble_eq_true rfl) rfl rfl ?_; (conv => whnf); intro w1 hS) | (refine stM_f hS 0 rfl (Nat.le_of_ble_eq_true rfl) rfl ?_; (conv => whnf); intro w1 hS))
      refine ⟨rfl, (i + 1, v'), ?_, ⟨by simp; omega, Lv', ?_, hS.subs (List.Sublist.refl _) (by repeat (first | exact List.Sublist.refl _ | apply List.Sublist.cons_cons | apply List.Sublist.cons))⟩, by simp; omega⟩
      · rw [wi hlt (by omega)]
        rfl
      · simp only
        rw [filter_take_succ _ _ _ hlt, hq, if_pos rfl, flat_append, List.length_append]
        exact hv'
    · repeat ((conv => whnf); first | (refine nw_f hS ?_; intro b w1 hS) | (refine ld_f hS 0 rfl rfl ?_) | (refine ldA_f hS 0 rfl rfl ?_) | (refine stN_f hS 0 rfl (Nat.le_of_ble_eq_true rfl) rfl rfl ?_; (conv => whnf); intro w1 hS) | (refine stM_f hS 0 rfl (Nat.le_of_ble_eq_true rfl) rfl ?_; (conv => whnf); intro w1 hS))
      refine ⟨rfl, (i + 1, v), ?_, ⟨by simp; omega, Lv, ?_, hS⟩, by simp; omega⟩
      · rw [wi hlt (by omega)]
        rfl
      · simp only
        rw [filter_take_succ _ _ _ hlt, hq]
        simpa using hv
  · have hge : i = xs.length := by simp at hb; simp at hi; omega
    subst hge
    repeat ((conv => whnf); first | (refine nw_f hS ?_; intro b w1 hS) | (refine ld_f hS 0 rfl rfl ?_) | (refine ldA_f hS 0 rfl rfl ?_) | (refine stN_f hS 0 rfl (Nat.le_of_ble_eq_true rfl) rfl rfl ?_; (conv => whnf); intro w1 hS) | (refine stM_f hS 0 rfl (Nat.le_of_ble_eq_true rfl) rfl ?_; (conv => whnf); intro w1 hS))
    refine ⟨Lv, ?_, hS.fr (List.sublist_append_left Lv Lk)⟩
    simpa [kept] using hv
end Go.RV
