/- Contracts of functions of chapter 8: what the document says is seen at a name. Conditions: none. -/
import Derived.Test.YtafadpfljnhhfaaDoorG14
set_option maxRecDepth 20000
set_option linter.unusedVariables false
set_option linter.unusedSimpArgs false
namespace Go.RV
open Go Go.Proofs

def stepDr (name : List UInt8) (out : List Sn) (g : Gx) : List Sn := if dirB g.v then out ++ [⟨name, true, false, g⟩] else out
def stepQ (name : List UInt8) (out : List Sn) (g : Gx) : List Sn := if dirB g.v then out else out ++ [⟨if out.isEmpty then name else confOf name g, false, !out.isEmpty, g⟩]
theorem foldD (name : List UInt8) : ∀ (gs : List Gx) (out : List Sn), gs.foldl (stepDr name) out = out ++ dirsOf name gs
  | [], out => by simp [dirsOf]
  | g :: gs, out => by
    rw [List.foldl_cons, foldD name gs]
    unfold stepDr dirsOf
    cases h : dirB g.v <;> simp [h]
theorem foldQ_ne (name : List UInt8) : ∀ (gs : List Gx) (out : List Sn), out ≠ [] → gs.foldl (stepQ name) out = out ++ filesOf name gs
  | [], out, _ => by simp [filesOf]
  | g :: gs, out, h => by
    have he : out.isEmpty = false := by cases out with | nil => exact absurd rfl h | cons a b => rfl
    rw [List.foldl_cons]
    cases hd : dirB g.v with
    | true =>
      have h1 : stepQ name out g = out := by simp [stepQ, hd]
      rw [h1, foldQ_ne name gs out h]
      simp [filesOf, hd]
    | false =>
      have h1 : stepQ name out g = out ++ [⟨confOf name g, false, true, g⟩] := by simp [stepQ, hd, he]
      rw [h1, foldQ_ne name gs _ (by simp)]
      simp [filesOf, hd]
theorem foldQ_nil (name : List UInt8) : ∀ (gs : List Gx), gs.foldl (stepQ name) [] = first name (filesOf name gs)
  | [] => rfl
  | g :: gs => by
    rw [List.foldl_cons]
    cases hd : dirB g.v with
    | true =>
      have h1 : stepQ name [] g = [] := by simp [stepQ, hd]
      have h2 : filesOf name (g :: gs) = filesOf name gs := by simp [filesOf, hd]
      rw [h1, h2, foldQ_nil name gs]
    | false =>
      have h1 : stepQ name [] g = [⟨name, false, false, g⟩] := by simp [stepQ, hd]
      have h2 : filesOf name (g :: gs) = ⟨confOf name g, false, true, g⟩ :: filesOf name gs := by simp [filesOf, hd]
      rw [h1, h2, foldQ_ne name gs _ (by simp)]
      rfl
theorem seen_fold (name : List UInt8) (gs : List Gx) : gs.foldl (stepQ name) (dirsOf name gs) = seenOf name gs := by
  unfold seenOf
  cases h : (dirsOf name gs).isEmpty with
  | true =>
    rw [List.isEmpty_iff.1 h, foldQ_nil]
    rfl
  | false =>
    rw [foldQ_ne _ _ _ (by intro e; rw [e] at h; cases h)]
    rfl
theorem fold_take {α β : Type} (f : β → α → β) (b : β) (l : List α) {i : Nat} (h : i < l.length) : (l.take (i + 1)).foldl f b = f ((l.take i).foldl f b) l[i] := by
  rw [List.take_succ_eq_append_getElem h, List.foldl_append]
  rfl
theorem stepDr_len (name : List UInt8) (gs : List Gx) : ∀ i, ((gs.take i).foldl (stepDr name) []).length ≤ i := fun i => by
  rw [foldD, List.nil_append]
  unfold dirsOf
  have := List.length_filter_le (fun g => dirB g.v) (gs.take i)
  rw [List.length_map]
  rw [List.length_take] at this
  omega
theorem stepQ_len (name : List UInt8) : ∀ (gs : List Gx) (out : List Sn), (gs.foldl (stepQ name) out).length ≤ out.length + gs.length
  | [], out => by simp
  | g :: gs, out => by
    rw [List.foldl_cons]
    have := stepQ_len name gs (stepQ name out g)
    have h2 : (stepQ name out g).length ≤ out.length + 1 := by
      unfold stepQ
      split <;> simp
    simp only [List.length_cons]
    omega
theorem headD_get {α : Type} {d : α} : ∀ {l : List α} (h : 0 < l.length), l.headD d = l[0]
  | [], h => by cases h
  | a :: l, _ => rfl
theorem elRSn : ElemOk Tryd.prog TB 49 54 5 64 := ⟨rfl, ⟨_, _, inf54, rfl, rfl, rfl, rfl⟩, by decide⟩
theorem elSnOne (x : Sn) : ∀ y ∈ encSn x, one y = true := by
  intro y hy
  simp [encSn] at hy
  rcases hy with rfl | rfl | rfl | rfl | rfl <;> rfl
set_option maxHeartbeats 2000000 in
theorem rat_c (f : Nat → Int) (A : Option Addr) (c : Nat) (xs : List Sx) (name : List UInt8) (small : Bool) (w : World) (hR : Rd w A (flat encX xs)) (hn : xs.length ≤ 1000) (hx : ∀ x ∈ xs, x.v.length ≤ 1000) (hnm : name.length ≤ 1073741824)
    (hrn : ∀ x ∈ xs, (0 ≤ x.r ∧ x.r ≤ 255) ∧ 0 ≤ x.n ∧ x.n ≤ 4294967295) :
    Fc Tryd.prog 13 [regV f A xs.length c, .string (strY name), .bool small] w fun v w' => ∃ (l : List Sn) (A2 : Option Addr) (c2 : Nat), l.map sp = seenP name (grps (fun a b => sameT a b small) xs) ∧ v = .slice A2 l.length c2 ∧
      Rd w' A2 (flat encSn l) ∧ (∀ x ∈ l, Rd w' x.g.A (flat encD x.g.ds)) ∧ St [] w w' [] := by
  refine fc_i TB_ok Tryd.func13 rfl (by kernel_rfl) ?_
  have hS := Sf.refl w
  repeat ((conv => whnf); first | (refine nw_f hS ?_; intro b w1 hS) | (refine as_i hS ?_) | (refine as_i (hS.subs (List.nil_sublist _) (by repeat (first | exact List.Sublist.refl _ | apply List.Sublist.cons_cons | apply List.Sublist.cons))) ?_) | (refine bar_f hS ?_) | (refine ld_f hS 0 rfl rfl ?_) | (refine ldA_f hS 0 rfl rfl ?_) | (refine stN_f hS 0 rfl (Nat.le_of_ble_eq_true rfl) rfl rfl ?_; (conv => whnf); intro w1 hS) | (refine stM_f hS 0 rfl (Nat.le_of_ble_eq_true rfl) rfl ?_; (conv => whnf); intro w1 hS) | (refine drawf TB_ok rfl (by kernel_rfl) (by kernel_rfl) hS (List.Sublist.refl _) (List.Sublist.refl _) ?_; intro w1 hS) | (refine br_t (by assumption) ?_) | (refine br_f (by assumption) ?_) | (apply q_i; focus (intro w1 hS; (conv => whnf); first | exact ⟨rfl, rfl⟩ | ((refine ld_f hS 0 rfl rfl ?_); (conv => whnf); exact ⟨rfl, rfl⟩) | ((refine ldA_f hS 0 rfl rfl ?_); (conv => whnf); exact ⟨rfl, rfl⟩))))
  refine fc_m (rgroups_c f A c xs small _ (hR.below hS.nil) hn hx) ?_
  rintro v w1 ⟨gs, Lm, hgs, hG, hS'⟩
  replace hS := hS.callF hS'
  obtain ⟨A1, c1, rfl, hG, hc1⟩ := hG.open
  have hbd := grpsF_bound (fun a b => sameT a b small) xs xs.length 0 (by omega)
  have hne0 := grpsF_ne (fun a b => sameT a b small) xs xs.length 0 (by omega)
  have hdot := grpsF_dot (fun a b => sameT a b small) xs xs.length 0 (by omega)
  rw [← grps, ← hgs] at hbd hne0 hdot
  rw [List.length_map] at hbd
  have hgl : gs.length ≤ 1000 := by omega
  replace hS : Sf [] w _ ([] ++ (Lm ++ [])) _ := hS
  repeat ((conv => whnf); first | (refine nw_f hS ?_; intro b w1 hS) | (refine as_i hS ?_) | (refine as_i (hS.subs (List.nil_sublist _) (by repeat (first | exact List.Sublist.refl _ | apply List.Sublist.cons_cons | apply List.Sublist.cons))) ?_) | (refine bar_f hS ?_) | (refine ld_f hS 0 rfl rfl ?_) | (refine ldA_f hS 0 rfl rfl ?_) | (refine stN_f hS 0 rfl (Nat.le_of_ble_eq_true rfl) rfl rfl ?_; (conv => whnf); intro w1 hS) | (refine stM_f hS 0 rfl (Nat.le_of_ble_eq_true rfl) rfl ?_; (conv => whnf); intro w1 hS) | (refine drawf TB_ok rfl (by kernel_rfl) (by kernel_rfl) hS (List.Sublist.refl _) (List.Sublist.refl _) ?_; intro w1 hS) | (refine br_t (by assumption) ?_) | (refine br_f (by assumption) ?_) | (apply q_i; focus (intro w1 hS; (conv => whnf); first | exact ⟨rfl, rfl⟩ | ((refine ld_f hS 0 rfl rfl ?_); (conv => whnf); exact ⟨rfl, rfl⟩) | ((refine ldA_f hS 0 rfl rfl ?_); (conv => whnf); exact ⟨rfl, rfl⟩))))
  refine loop_i TB_ok (fun t : Nat × Value => [(9, .int .i64 t.1), (8, t.2)]) (fun t w' => t.1 ≤ gs.length ∧ ∃ Lo, Sl 54 5 t.2 ((gs.take t.1).foldl (stepDr name) []).length (flat encSn ((gs.take t.1).foldl (stepDr name) [])) Lo ∧ Sf [] w w' (Lo ++ (Lm ++ [])) [_]) (fun t => gs.length - t.1) (0, .slice none 0 0) rfl ⟨Nat.zero_le _, [], .nil, hS⟩ ?_
  · rintro ⟨i, sl⟩ us w2 ⟨hi, Lo, hv, hS⟩
    simp only at hi hv ⊢
    have hfl := fold_take (stepDr name) [] gs (i := i)
    have hol := stepDr_len name gs i
    generalize ho : (gs.take i).foldl (stepDr name) [] = out at *
    obtain ⟨A2, c2, rfl, hv⟩ := hv.open
    (conv => whnf)
    refine br_i (fun hb => ?_) (fun hb => ?_)
    · have hlt : i < gs.length := by have := of_decide_eq_true hb; omega
      replace hfl := hfl hlt
      obtain ⟨x1, o1, rfl⟩ := (hG.rd hS.rot).form (flat_ne encG_len (by omega) hlt)
      have hsq := streq_strY gs[i].v [47]
      rw [show decide (gs[i].v = [47]) = dirB gs[i].v from rfl] at hsq
      cases hd : dirB gs[i].v with
      | false =>
        rw [hd] at hsq
        have hst : stepDr name out gs[i] = out := by unfold stepDr; rw [hd]; rfl
        rw [hst] at hfl
        repeat ((conv => whnf); first | (refine nw_f hS ?_; intro b w1 hS) | (refine as_i hS ?_) | (refine as_i (hS.subs (List.nil_sublist _) (by repeat (first | exact List.Sublist.refl _ | apply List.Sublist.cons_cons | apply List.Sublist.cons))) ?_) | (refine bar_f hS ?_) | (refine ld_f hS 0 rfl rfl ?_) | (refine ldA_f hS 0 rfl rfl ?_) | (refine stN_f hS 0 rfl (Nat.le_of_ble_eq_true rfl) rfl rfl ?_; (conv => whnf); intro w1 hS) | (refine stM_f hS 0 rfl (Nat.le_of_ble_eq_true rfl) rfl ?_; (conv => whnf); intro w1 hS) | (refine .mk ⟨by omega, by omega⟩ ?_; refine ix_i rfl ?_) | (refine ld_el encG_len (hG.rd hS.rot).at (i := i) (k := 0) hlt (by decide) rfl (v := .string (strY gs[i].v)) rfl ?_) | (refine drawf TB_ok rfl (by kernel_rfl) (by kernel_rfl) hS (List.Sublist.refl _) (List.Sublist.refl _) ?_; intro w1 hS) | (refine br_t (by assumption) ?_) | (refine br_f (by assumption) ?_) | (apply q_i; focus (intro w1 hS; (conv => whnf); first | exact ⟨rfl, rfl⟩ | ((refine ld_f hS 0 rfl rfl ?_); (conv => whnf); exact ⟨rfl, rfl⟩) | ((refine ldA_f hS 0 rfl rfl ?_); (conv => whnf); exact ⟨rfl, rfl⟩) | ((refine .mk ⟨by omega, by omega⟩ ?_; refine ix_i rfl ?_); (conv => whnf); exact ⟨rfl, rfl⟩) | ((refine ld_el encG_len (hG.rd hS.rot).at (i := i) (k := 0) hlt (by decide) rfl (v := .string (strY gs[i].v)) rfl ?_); (conv => whnf); exact ⟨rfl, rfl⟩))))
        refine ⟨rfl, (i + 1, .slice A2 out.length c2), ?_, ⟨by show i + 1 ≤ _; omega, Lo, by simp only; rw [hfl]; exact hv, hS⟩, by show gs.length - (i + 1) < _; omega⟩
        rw [wi hlt (by omega)]
        rfl
      | true =>
        rw [hd] at hsq
        have hst : stepDr name out gs[i] = out ++ [⟨name, true, false, gs[i]⟩] := by unfold stepDr; rw [hd]; rfl
        rw [hst] at hfl
        repeat ((conv => whnf); first | (refine nw_f hS ?_; intro b w1 hS) | (refine as_i hS ?_) | (refine as_i (hS.subs (List.nil_sublist _) (by repeat (first | exact List.Sublist.refl _ | apply List.Sublist.cons_cons | apply List.Sublist.cons))) ?_) | (refine bar_f hS ?_) | (refine ld_f hS 0 rfl rfl ?_) | (refine ldA_f hS 0 rfl rfl ?_) | (refine stN_f hS 0 rfl (Nat.le_of_ble_eq_true rfl) rfl rfl ?_; (conv => whnf); intro w1 hS) | (refine stM_f hS 0 rfl (Nat.le_of_ble_eq_true rfl) rfl ?_; (conv => whnf); intro w1 hS) | (refine .mk ⟨by omega, by omega⟩ ?_; refine ix_i rfl ?_) | (refine ld_el encG_len (hG.rd hS.rot).at (i := i) (k := 0) hlt (by decide) rfl (v := .string (strY gs[i].v)) rfl ?_) | (refine ldN_elp encG_len (hG.rd hS.rot).at (i := i) (j0 := 0) hlt rfl (Nat.le_of_ble_eq_true rfl) [.string (strY gs[i].v), .slice gs[i].A gs[i].ds.length gs[i].c] rfl ?_) | (refine drawf TB_ok rfl (by kernel_rfl) (by kernel_rfl) hS (List.Sublist.refl _) (List.Sublist.refl _) ?_; intro w1 hS) | (refine br_t (by assumption) ?_) | (refine br_f (by assumption) ?_) | (apply q_i; focus (intro w1 hS; (conv => whnf); first | exact ⟨rfl, rfl⟩ | ((refine ld_f hS 0 rfl rfl ?_); (conv => whnf); exact ⟨rfl, rfl⟩) | ((refine ldA_f hS 0 rfl rfl ?_); (conv => whnf); exact ⟨rfl, rfl⟩) | ((refine .mk ⟨by omega, by omega⟩ ?_; refine ix_i rfl ?_); (conv => whnf); exact ⟨rfl, rfl⟩) | ((refine ld_el encG_len (hG.rd hS.rot).at (i := i) (k := 0) hlt (by decide) rfl (v := .string (strY gs[i].v)) rfl ?_); (conv => whnf); exact ⟨rfl, rfl⟩) | ((refine ldN_elp encG_len (hG.rd hS.rot).at (i := i) (j0 := 0) hlt rfl (Nat.le_of_ble_eq_true rfl) [.string (strY gs[i].v), .slice gs[i].A gs[i].ds.length gs[i].c] rfl ?_); (conv => whnf); exact ⟨rfl, rfl⟩))))
        refine app_f TB_ok elRSn hS hv (show Rd _ _ (encSn ⟨name, true, false, gs[i]⟩) from hS.rd 0 rfl) rfl (elSnOne _) (by omega) (by omega) ?_
        intro v' Lo' w6 hv' hS
        obtain ⟨A3, c3, rfl, hv'⟩ := hv'.open
        repeat ((conv => whnf); first | (refine nw_f hS ?_; intro b w1 hS) | (refine as_i hS ?_) | (refine as_i (hS.subs (List.nil_sublist _) (by repeat (first | exact List.Sublist.refl _ | apply List.Sublist.cons_cons | apply List.Sublist.cons))) ?_) | (refine bar_f hS ?_) | (refine ld_f hS 0 rfl rfl ?_) | (refine ld_f hS 1 rfl rfl ?_) | (refine ldA_f hS 0 rfl rfl ?_) | (refine ldA_f hS 1 rfl rfl ?_) | (refine stN_f hS 0 rfl (Nat.le_of_ble_eq_true rfl) rfl rfl ?_; (conv => whnf); intro w1 hS) | (refine stN_f hS 1 rfl (Nat.le_of_ble_eq_true rfl) rfl rfl ?_; (conv => whnf); intro w1 hS) | (refine stM_f hS 0 rfl (Nat.le_of_ble_eq_true rfl) rfl ?_; (conv => whnf); intro w1 hS) | (refine stM_f hS 1 rfl (Nat.le_of_ble_eq_true rfl) rfl ?_; (conv => whnf); intro w1 hS) | (refine drawf TB_ok rfl (by kernel_rfl) (by kernel_rfl) hS (List.Sublist.refl _) (List.Sublist.refl _) ?_; intro w1 hS) | (refine br_t (by assumption) ?_) | (refine br_f (by assumption) ?_) | (apply q_i; focus (intro w1 hS; (conv => whnf); first | exact ⟨rfl, rfl⟩ | ((refine ld_f hS 0 rfl rfl ?_); (conv => whnf); exact ⟨rfl, rfl⟩) | ((refine ld_f hS 1 rfl rfl ?_); (conv => whnf); exact ⟨rfl, rfl⟩) | ((refine ldA_f hS 0 rfl rfl ?_); (conv => whnf); exact ⟨rfl, rfl⟩) | ((refine ldA_f hS 1 rfl rfl ?_); (conv => whnf); exact ⟨rfl, rfl⟩))))
        refine ⟨rfl, (i + 1, .slice A3 (out.length + 1) c3), ?_, ⟨by show i + 1 ≤ _; omega, Lo', ?_, hS.subs (List.Sublist.refl _) (.cons _ (.refl _))⟩, by show gs.length - (i + 1) < _; omega⟩
        · rw [wi hlt (by omega)]
          rfl
        · simp only
          rw [hfl, flat_snoc, List.length_append]
          exact hv'
    · have hge : i = gs.length := by have := of_decide_eq_false hb; omega
      subst hge
      rw [List.take_length, foldD, List.nil_append] at ho
      subst ho
      clear hfl
      repeat ((conv => whnf); first | (refine nw_f hS ?_; intro b w1 hS) | (refine as_i hS ?_) | (refine as_i (hS.subs (List.nil_sublist _) (by repeat (first | exact List.Sublist.refl _ | apply List.Sublist.cons_cons | apply List.Sublist.cons))) ?_) | (refine bar_f hS ?_) | (refine ld_f hS 0 rfl rfl ?_) | (refine ldA_f hS 0 rfl rfl ?_) | (refine stN_f hS 0 rfl (Nat.le_of_ble_eq_true rfl) rfl rfl ?_; (conv => whnf); intro w1 hS) | (refine stM_f hS 0 rfl (Nat.le_of_ble_eq_true rfl) rfl ?_; (conv => whnf); intro w1 hS) | (refine drawf TB_ok rfl (by kernel_rfl) (by kernel_rfl) hS (List.Sublist.refl _) (List.Sublist.refl _) ?_; intro w1 hS) | (refine br_t (by assumption) ?_) | (refine br_f (by assumption) ?_) | (apply q_i; focus (intro w1 hS; (conv => whnf); first | exact ⟨rfl, rfl⟩ | ((refine ld_f hS 0 rfl rfl ?_); (conv => whnf); exact ⟨rfl, rfl⟩) | ((refine ldA_f hS 0 rfl rfl ?_); (conv => whnf); exact ⟨rfl, rfl⟩))))
      refine loop_i TB_ok (fun t : Nat × Value => [(10, .int .i64 t.1), (8, t.2)]) (fun t w' => t.1 ≤ gs.length ∧ ∃ Lo, Sl 54 5 t.2 ((gs.take t.1).foldl (stepQ name) (dirsOf name gs)).length (flat encSn ((gs.take t.1).foldl (stepQ name) (dirsOf name gs))) Lo ∧ Sf [] w w' (Lo ++ (Lm ++ [])) [_]) (fun t => gs.length - t.1) (0, .slice A2 _ c2) rfl ⟨Nat.zero_le _, Lo, hv, hS⟩ ?_
      rintro ⟨i, sl⟩ us w3 ⟨hi, Lo, hv, hS⟩
      simp only at hi hv ⊢
      have hfl := fold_take (stepQ name) (dirsOf name gs) gs (i := i)
      have hol2 := stepQ_len name (gs.take i) (dirsOf name gs)
      rw [List.length_take] at hol2
      have hdl : (dirsOf name gs).length ≤ gs.length := by unfold dirsOf; rw [List.length_map]; exact List.length_filter_le _ _
      generalize ho : (gs.take i).foldl (stepQ name) (dirsOf name gs) = out at *
      obtain ⟨A3, c3, rfl, hv⟩ := hv.open
      (conv => whnf)
      refine br_i (fun hb => ?_) (fun hb => ?_)
      · have hlt : i < gs.length := by have := of_decide_eq_true hb; omega
        replace hfl := hfl hlt
        obtain ⟨x1, o1, rfl⟩ := (hG.rd hS.rot).form (flat_ne encG_len (by omega) hlt)
        have hsq := streq_strY gs[i].v [47]
        rw [show decide (gs[i].v = [47]) = dirB gs[i].v from rfl] at hsq
        cases hd : dirB gs[i].v with
        | true =>
          rw [hd] at hsq
          have hst : stepQ name out gs[i] = out := by unfold stepQ; rw [hd]; rfl
          rw [hst] at hfl
          repeat ((conv => whnf); first | (refine nw_f hS ?_; intro b w1 hS) | (refine as_i hS ?_) | (refine as_i (hS.subs (List.nil_sublist _) (by repeat (first | exact List.Sublist.refl _ | apply List.Sublist.cons_cons | apply List.Sublist.cons))) ?_) | (refine bar_f hS ?_) | (refine ld_f hS 0 rfl rfl ?_) | (refine ldA_f hS 0 rfl rfl ?_) | (refine stN_f hS 0 rfl (Nat.le_of_ble_eq_true rfl) rfl rfl ?_; (conv => whnf); intro w1 hS) | (refine stM_f hS 0 rfl (Nat.le_of_ble_eq_true rfl) rfl ?_; (conv => whnf); intro w1 hS) | (refine .mk ⟨by omega, by omega⟩ ?_; refine ix_i rfl ?_) | (refine ld_el encG_len (hG.rd hS.rot).at (i := i) (k := 0) hlt (by decide) rfl (v := .string (strY gs[i].v)) rfl ?_) | (refine drawf TB_ok rfl (by kernel_rfl) (by kernel_rfl) hS (List.Sublist.refl _) (List.Sublist.refl _) ?_; intro w1 hS) | (refine br_t (by assumption) ?_) | (refine br_f (by assumption) ?_) | (apply q_i; focus (intro w1 hS; (conv => whnf); first | exact ⟨rfl, rfl⟩ | ((refine ld_f hS 0 rfl rfl ?_); (conv => whnf); exact ⟨rfl, rfl⟩) | ((refine ldA_f hS 0 rfl rfl ?_); (conv => whnf); exact ⟨rfl, rfl⟩) | ((refine .mk ⟨by omega, by omega⟩ ?_; refine ix_i rfl ?_); (conv => whnf); exact ⟨rfl, rfl⟩) | ((refine ld_el encG_len (hG.rd hS.rot).at (i := i) (k := 0) hlt (by decide) rfl (v := .string (strY gs[i].v)) rfl ?_); (conv => whnf); exact ⟨rfl, rfl⟩))))
          refine ⟨rfl, (i + 1, .slice A3 out.length c3), ?_, ⟨by show i + 1 ≤ _; omega, Lo, by simp only; rw [hfl]; exact hv, hS⟩, by show gs.length - (i + 1) < _; omega⟩
          rw [wi hlt (by omega)]
          rfl
        | false =>
          rw [hd] at hsq
          have hgm : gp gs[i] ∈ gs.map gp := List.mem_map.2 ⟨_, List.getElem_mem hlt, rfl⟩
          have hdn : gs[i].ds ≠ [] := hne0 _ hgm
          have hd0 : 0 < gs[i].ds.length := List.length_pos_iff.2 hdn
          obtain ⟨xd, hxd, hdd⟩ := hdot _ hgm gs[i].ds[0] (List.getElem_mem hd0)
          have hdr := hrn xd hxd
          have e1 : gs[i].ds[0].1 = xd.r := by rw [hdd]
          have e2 : gs[i].ds[0].2 = xd.n := by rw [hdd]
          rw [← e1, ← e2] at hdr
          have hcf : confOf name gs[i] = confT name gs[i].ds[0].1 gs[i].ds[0].2 := by
            unfold confOf
            rw [headD_get hd0]
          have hcc := fun w => rconf_c name hnm gs[i].ds[0].1 gs[i].ds[0].2 hdr.1 hdr.2 w
          rw [← hcf] at hcc
          by_cases he : 0 < out.length
          · have g0 : decide ((0 : Int) < (out.length : Int)) = true := decide_eq_true (by omega)
            have hie : out.isEmpty = false := by cases out with | nil => simp at he | cons a b => rfl
            have hst : stepQ name out gs[i] = out ++ [⟨confOf name gs[i], false, true, gs[i]⟩] := by unfold stepQ; rw [hd, hie]; rfl
            rw [hst] at hfl
            obtain ⟨x2, o2, hA2⟩ := (hG.rdD hS.rot hlt).form (flat_ne encD_len (by omega) hd0)
            have hRD : ∀ (w6 : World) (L : LM), Sf [] w w6 (Lo ++ (Lm ++ [])) L → Rd w6 (some ⟨x2, o2, none⟩) (flat encD gs[i].ds) := fun w6 L h => by rw [← hA2]; exact hG.rdD h.rot hlt
            repeat ((conv => whnf); first | (refine nw_f hS ?_; intro b w1 hS) | (refine as_i hS ?_) | (refine as_i (hS.subs (List.nil_sublist _) (by repeat (first | exact List.Sublist.refl _ | apply List.Sublist.cons_cons | apply List.Sublist.cons))) ?_) | (refine bar_f hS ?_) | (refine ld_f hS 0 rfl rfl ?_) | (refine ld_f hS 1 rfl rfl ?_) | (refine ldA_f hS 0 rfl rfl ?_) | (refine ldA_f hS 1 rfl rfl ?_) | (refine stN_f hS 0 rfl (Nat.le_of_ble_eq_true rfl) rfl rfl ?_; (conv => whnf); intro w1 hS) | (refine stN_f hS 1 rfl (Nat.le_of_ble_eq_true rfl) rfl rfl ?_; (conv => whnf); intro w1 hS) | (refine stM_f hS 0 rfl (Nat.le_of_ble_eq_true rfl) rfl ?_; (conv => whnf); intro w1 hS) | (refine stM_f hS 1 rfl (Nat.le_of_ble_eq_true rfl) rfl ?_; (conv => whnf); intro w1 hS) | (refine .mk ⟨by omega, by omega⟩ ?_; refine ix_i rfl ?_) | (refine .mk ⟨by omega, by omega⟩ ?_; refine ix_i hA2 ?_) | (refine ld_el encG_len (hG.rd hS.rot).at (i := i) (k := 0) hlt (by decide) rfl (v := .string (strY gs[i].v)) rfl ?_) | (refine ldN_elp encG_len (hG.rd hS.rot).at (i := i) (j0 := 0) hlt rfl (Nat.le_of_ble_eq_true rfl) [.string (strY gs[i].v), .slice gs[i].A gs[i].ds.length gs[i].c] rfl ?_) | (refine ld_el encG_len (hG.rd hS.rot).at (i := i) (k := 1) hlt (by decide) rfl (v := .slice gs[i].A gs[i].ds.length gs[i].c) rfl ?_) | (refine ldN_el encD_len (hRD _ _ hS).at (i := 0) hd0 rfl rfl ?_) | (refine drawf TB_ok rfl (by kernel_rfl) (by kernel_rfl) hS (List.Sublist.refl _) (List.Sublist.refl _) ?_; intro w1 hS) | (refine br_t (by assumption) ?_) | (refine br_f (by assumption) ?_) | (apply q_i; focus (intro w1 hS; (conv => whnf); first | exact ⟨rfl, rfl⟩ | ((refine ld_f hS 0 rfl rfl ?_); (conv => whnf); exact ⟨rfl, rfl⟩) | ((refine ld_f hS 1 rfl rfl ?_); (conv => whnf); exact ⟨rfl, rfl⟩) | ((refine ldA_f hS 0 rfl rfl ?_); (conv => whnf); exact ⟨rfl, rfl⟩) | ((refine ldA_f hS 1 rfl rfl ?_); (conv => whnf); exact ⟨rfl, rfl⟩) | ((refine .mk ⟨by omega, by omega⟩ ?_; refine ix_i rfl ?_); (conv => whnf); exact ⟨rfl, rfl⟩) | ((refine .mk ⟨by omega, by omega⟩ ?_; refine ix_i hA2 ?_); (conv => whnf); exact ⟨rfl, rfl⟩) | ((refine ld_el encG_len (hG.rd hS.rot).at (i := i) (k := 0) hlt (by decide) rfl (v := .string (strY gs[i].v)) rfl ?_); (conv => whnf); exact ⟨rfl, rfl⟩) | ((refine ldN_elp encG_len (hG.rd hS.rot).at (i := i) (j0 := 0) hlt rfl (Nat.le_of_ble_eq_true rfl) [.string (strY gs[i].v), .slice gs[i].A gs[i].ds.length gs[i].c] rfl ?_); (conv => whnf); exact ⟨rfl, rfl⟩) | ((refine ld_el encG_len (hG.rd hS.rot).at (i := i) (k := 1) hlt (by decide) rfl (v := .slice gs[i].A gs[i].ds.length gs[i].c) rfl ?_); (conv => whnf); exact ⟨rfl, rfl⟩) | ((refine ldN_el encD_len (hRD _ _ hS).at (i := 0) hd0 rfl rfl ?_); (conv => whnf); exact ⟨rfl, rfl⟩))))
            refine fc_m (hcc _) ?_; rintro v w4 ⟨rfl, hS'⟩; replace hS := hS.call0 hS'
            repeat ((conv => whnf); first | (refine nw_f hS ?_; intro b w1 hS) | (refine as_i hS ?_) | (refine as_i (hS.subs (List.nil_sublist _) (by repeat (first | exact List.Sublist.refl _ | apply List.Sublist.cons_cons | apply List.Sublist.cons))) ?_) | (refine bar_f hS ?_) | (refine ld_f hS 0 rfl rfl ?_) | (refine ld_f hS 1 rfl rfl ?_) | (refine ld_f hS 2 rfl rfl ?_) | (refine ldA_f hS 0 rfl rfl ?_) | (refine ldA_f hS 1 rfl rfl ?_) | (refine ldA_f hS 2 rfl rfl ?_) | (refine stN_f hS 0 rfl (Nat.le_of_ble_eq_true rfl) rfl rfl ?_; (conv => whnf); intro w1 hS) | (refine stN_f hS 1 rfl (Nat.le_of_ble_eq_true rfl) rfl rfl ?_; (conv => whnf); intro w1 hS) | (refine stN_f hS 2 rfl (Nat.le_of_ble_eq_true rfl) rfl rfl ?_; (conv => whnf); intro w1 hS) | (refine stM_f hS 0 rfl (Nat.le_of_ble_eq_true rfl) rfl ?_; (conv => whnf); intro w1 hS) | (refine stM_f hS 1 rfl (Nat.le_of_ble_eq_true rfl) rfl ?_; (conv => whnf); intro w1 hS) | (refine stM_f hS 2 rfl (Nat.le_of_ble_eq_true rfl) rfl ?_; (conv => whnf); intro w1 hS) | (refine drawf TB_ok rfl (by kernel_rfl) (by kernel_rfl) hS (List.Sublist.refl _) (List.Sublist.refl _) ?_; intro w1 hS) | (refine br_t (by assumption) ?_) | (refine br_f (by assumption) ?_) | (apply q_i; focus (intro w1 hS; (conv => whnf); first | exact ⟨rfl, rfl⟩ | ((refine ld_f hS 0 rfl rfl ?_); (conv => whnf); exact ⟨rfl, rfl⟩) | ((refine ld_f hS 1 rfl rfl ?_); (conv => whnf); exact ⟨rfl, rfl⟩) | ((refine ld_f hS 2 rfl rfl ?_); (conv => whnf); exact ⟨rfl, rfl⟩) | ((refine ldA_f hS 0 rfl rfl ?_); (conv => whnf); exact ⟨rfl, rfl⟩) | ((refine ldA_f hS 1 rfl rfl ?_); (conv => whnf); exact ⟨rfl, rfl⟩) | ((refine ldA_f hS 2 rfl rfl ?_); (conv => whnf); exact ⟨rfl, rfl⟩))))
            refine app_f TB_ok elRSn hS hv (show Rd _ _ (encSn ⟨confOf name gs[i], false, true, gs[i]⟩) from hS.rd 0 rfl) rfl (elSnOne _) (by omega) (by omega) ?_
            intro v' Lo' w6 hv' hS
            obtain ⟨A4, c4, rfl, hv'⟩ := hv'.open
            repeat ((conv => whnf); first | (refine nw_f hS ?_; intro b w1 hS) | (refine as_i hS ?_) | (refine as_i (hS.subs (List.nil_sublist _) (by repeat (first | exact List.Sublist.refl _ | apply List.Sublist.cons_cons | apply List.Sublist.cons))) ?_) | (refine bar_f hS ?_) | (refine ld_f hS 0 rfl rfl ?_) | (refine ld_f hS 1 rfl rfl ?_) | (refine ld_f hS 2 rfl rfl ?_) | (refine ld_f hS 3 rfl rfl ?_) | (refine ldA_f hS 0 rfl rfl ?_) | (refine ldA_f hS 1 rfl rfl ?_) | (refine ldA_f hS 2 rfl rfl ?_) | (refine ldA_f hS 3 rfl rfl ?_) | (refine stN_f hS 0 rfl (Nat.le_of_ble_eq_true rfl) rfl rfl ?_; (conv => whnf); intro w1 hS) | (refine stN_f hS 1 rfl (Nat.le_of_ble_eq_true rfl) rfl rfl ?_; (conv => whnf); intro w1 hS) | (refine stN_f hS 2 rfl (Nat.le_of_ble_eq_true rfl) rfl rfl ?_; (conv => whnf); intro w1 hS) | (refine stN_f hS 3 rfl (Nat.le_of_ble_eq_true rfl) rfl rfl ?_; (conv => whnf); intro w1 hS) | (refine stM_f hS 0 rfl (Nat.le_of_ble_eq_true rfl) rfl ?_; (conv => whnf); intro w1 hS) | (refine stM_f hS 1 rfl (Nat.le_of_ble_eq_true rfl) rfl ?_; (conv => whnf); intro w1 hS) | (refine stM_f hS 2 rfl (Nat.le_of_ble_eq_true rfl) rfl ?_; (conv => whnf); intro w1 hS) | (refine stM_f hS 3 rfl (Nat.le_of_ble_eq_true rfl) rfl ?_; (conv => whnf); intro w1 hS) | (refine drawf TB_ok rfl (by kernel_rfl) (by kernel_rfl) hS (List.Sublist.refl _) (List.Sublist.refl _) ?_; intro w1 hS) | (refine br_t (by assumption) ?_) | (refine br_f (by assumption) ?_) | (apply q_i; focus (intro w1 hS; (conv => whnf); first | exact ⟨rfl, rfl⟩ | ((refine ld_f hS 0 rfl rfl ?_); (conv => whnf); exact ⟨rfl, rfl⟩) | ((refine ld_f hS 1 rfl rfl ?_); (conv => whnf); exact ⟨rfl, rfl⟩) | ((refine ld_f hS 2 rfl rfl ?_); (conv => whnf); exact ⟨rfl, rfl⟩) | ((refine ld_f hS 3 rfl rfl ?_); (conv => whnf); exact ⟨rfl, rfl⟩) | ((refine ldA_f hS 0 rfl rfl ?_); (conv => whnf); exact ⟨rfl, rfl⟩) | ((refine ldA_f hS 1 rfl rfl ?_); (conv => whnf); exact ⟨rfl, rfl⟩) | ((refine ldA_f hS 2 rfl rfl ?_); (conv => whnf); exact ⟨rfl, rfl⟩) | ((refine ldA_f hS 3 rfl rfl ?_); (conv => whnf); exact ⟨rfl, rfl⟩))))
            refine ⟨rfl, (i + 1, .slice A4 (out.length + 1) c4), ?_, ⟨by show i + 1 ≤ _; omega, Lo', ?_, hS.subs (List.Sublist.refl _) (.cons _ (.cons _ (.cons _ (.refl _))))⟩, by show gs.length - (i + 1) < _; omega⟩
            · rw [wi hlt (by omega)]
              rfl
            · simp only
              rw [hfl, flat_snoc, List.length_append]
              exact hv'
          · obtain rfl : out = [] := List.eq_nil_of_length_eq_zero (by omega)
            have hst : stepQ name [] gs[i] = [⟨name, false, false, gs[i]⟩] := by unfold stepQ; rw [hd]; rfl
            rw [hst] at hfl
            repeat ((conv => whnf); first | (refine nw_f hS ?_; intro b w1 hS) | (refine as_i hS ?_) | (refine as_i (hS.subs (List.nil_sublist _) (by repeat (first | exact List.Sublist.refl _ | apply List.Sublist.cons_cons | apply List.Sublist.cons))) ?_) | (refine bar_f hS ?_) | (refine ld_f hS 0 rfl rfl ?_) | (refine ld_f hS 1 rfl rfl ?_) | (refine ldA_f hS 0 rfl rfl ?_) | (refine ldA_f hS 1 rfl rfl ?_) | (refine stN_f hS 0 rfl (Nat.le_of_ble_eq_true rfl) rfl rfl ?_; (conv => whnf); intro w1 hS) | (refine stN_f hS 1 rfl (Nat.le_of_ble_eq_true rfl) rfl rfl ?_; (conv => whnf); intro w1 hS) | (refine stM_f hS 0 rfl (Nat.le_of_ble_eq_true rfl) rfl ?_; (conv => whnf); intro w1 hS) | (refine stM_f hS 1 rfl (Nat.le_of_ble_eq_true rfl) rfl ?_; (conv => whnf); intro w1 hS) | (refine .mk ⟨by omega, by omega⟩ ?_; refine ix_i rfl ?_) | (refine ld_el encG_len (hG.rd hS.rot).at (i := i) (k := 0) hlt (by decide) rfl (v := .string (strY gs[i].v)) rfl ?_) | (refine ldN_elp encG_len (hG.rd hS.rot).at (i := i) (j0 := 0) hlt rfl (Nat.le_of_ble_eq_true rfl) [.string (strY gs[i].v), .slice gs[i].A gs[i].ds.length gs[i].c] rfl ?_) | (refine drawf TB_ok rfl (by kernel_rfl) (by kernel_rfl) hS (List.Sublist.refl _) (List.Sublist.refl _) ?_; intro w1 hS) | (refine br_t (by assumption) ?_) | (refine br_f (by assumption) ?_) | (apply q_i; focus (intro w1 hS; (conv => whnf); first | exact ⟨rfl, rfl⟩ | ((refine ld_f hS 0 rfl rfl ?_); (conv => whnf); exact ⟨rfl, rfl⟩) | ((refine ld_f hS 1 rfl rfl ?_); (conv => whnf); exact ⟨rfl, rfl⟩) | ((refine ldA_f hS 0 rfl rfl ?_); (conv => whnf); exact ⟨rfl, rfl⟩) | ((refine ldA_f hS 1 rfl rfl ?_); (conv => whnf); exact ⟨rfl, rfl⟩) | ((refine .mk ⟨by omega, by omega⟩ ?_; refine ix_i rfl ?_); (conv => whnf); exact ⟨rfl, rfl⟩) | ((refine ld_el encG_len (hG.rd hS.rot).at (i := i) (k := 0) hlt (by decide) rfl (v := .string (strY gs[i].v)) rfl ?_); (conv => whnf); exact ⟨rfl, rfl⟩) | ((refine ldN_elp encG_len (hG.rd hS.rot).at (i := i) (j0 := 0) hlt rfl (Nat.le_of_ble_eq_true rfl) [.string (strY gs[i].v), .slice gs[i].A gs[i].ds.length gs[i].c] rfl ?_); (conv => whnf); exact ⟨rfl, rfl⟩))))
            refine app_f TB_ok elRSn hS hv (show Rd _ _ (encSn ⟨name, false, false, gs[i]⟩) from hS.rd 0 rfl) rfl (elSnOne _) (by simp) (by simp) ?_
            intro v' Lo' w6 hv' hS
            obtain ⟨A4, c4, rfl, hv'⟩ := hv'.open
            repeat ((conv => whnf); first | (refine nw_f hS ?_; intro b w1 hS) | (refine as_i hS ?_) | (refine as_i (hS.subs (List.nil_sublist _) (by repeat (first | exact List.Sublist.refl _ | apply List.Sublist.cons_cons | apply List.Sublist.cons))) ?_) | (refine bar_f hS ?_) | (refine ld_f hS 0 rfl rfl ?_) | (refine ld_f hS 1 rfl rfl ?_) | (refine ld_f hS 2 rfl rfl ?_) | (refine ldA_f hS 0 rfl rfl ?_) | (refine ldA_f hS 1 rfl rfl ?_) | (refine ldA_f hS 2 rfl rfl ?_) | (refine stN_f hS 0 rfl (Nat.le_of_ble_eq_true rfl) rfl rfl ?_; (conv => whnf); intro w1 hS) | (refine stN_f hS 1 rfl (Nat.le_of_ble_eq_true rfl) rfl rfl ?_; (conv => whnf); intro w1 hS) | (refine stN_f hS 2 rfl (Nat.le_of_ble_eq_true rfl) rfl rfl ?_; (conv => whnf); intro w1 hS) | (refine stM_f hS 0 rfl (Nat.le_of_ble_eq_true rfl) rfl ?_; (conv => whnf); intro w1 hS) | (refine stM_f hS 1 rfl (Nat.le_of_ble_eq_true rfl) rfl ?_; (conv => whnf); intro w1 hS) | (refine stM_f hS 2 rfl (Nat.le_of_ble_eq_true rfl) rfl ?_; (conv => whnf); intro w1 hS) | (refine drawf TB_ok rfl (by kernel_rfl) (by kernel_rfl) hS (List.Sublist.refl _) (List.Sublist.refl _) ?_; intro w1 hS) | (refine br_t (by assumption) ?_) | (refine br_f (by assumption) ?_) | (apply q_i; focus (intro w1 hS; (conv => whnf); first | exact ⟨rfl, rfl⟩ | ((refine ld_f hS 0 rfl rfl ?_); (conv => whnf); exact ⟨rfl, rfl⟩) | ((refine ld_f hS 1 rfl rfl ?_); (conv => whnf); exact ⟨rfl, rfl⟩) | ((refine ld_f hS 2 rfl rfl ?_); (conv => whnf); exact ⟨rfl, rfl⟩) | ((refine ldA_f hS 0 rfl rfl ?_); (conv => whnf); exact ⟨rfl, rfl⟩) | ((refine ldA_f hS 1 rfl rfl ?_); (conv => whnf); exact ⟨rfl, rfl⟩) | ((refine ldA_f hS 2 rfl rfl ?_); (conv => whnf); exact ⟨rfl, rfl⟩))))
            refine ⟨rfl, (i + 1, .slice A4 (0 + 1) c4), ?_, ⟨by show i + 1 ≤ _; omega, Lo', ?_, hS.subs (List.Sublist.refl _) (.cons _ (.cons _ (.refl _)))⟩, by show gs.length - (i + 1) < _; omega⟩
            · rw [wi hlt (by omega)]
              rfl
            · simp only
              rw [hfl]
              exact hv'
      · have hge : i = gs.length := by have := of_decide_eq_false hb; omega
        subst hge
        rw [List.take_length, seen_fold] at ho
        subst ho
        repeat ((conv => whnf); first | (refine nw_f hS ?_; intro b w1 hS) | (refine as_i hS ?_) | (refine as_i (hS.subs (List.nil_sublist _) (by repeat (first | exact List.Sublist.refl _ | apply List.Sublist.cons_cons | apply List.Sublist.cons))) ?_) | (refine bar_f hS ?_) | (refine ld_f hS 0 rfl rfl ?_) | (refine ldA_f hS 0 rfl rfl ?_) | (refine stN_f hS 0 rfl (Nat.le_of_ble_eq_true rfl) rfl rfl ?_; (conv => whnf); intro w1 hS) | (refine stM_f hS 0 rfl (Nat.le_of_ble_eq_true rfl) rfl ?_; (conv => whnf); intro w1 hS) | (refine drawf TB_ok rfl (by kernel_rfl) (by kernel_rfl) hS (List.Sublist.refl _) (List.Sublist.refl _) ?_; intro w1 hS) | (refine br_t (by assumption) ?_) | (refine br_f (by assumption) ?_) | (apply q_i; focus (intro w1 hS; (conv => whnf); first | exact ⟨rfl, rfl⟩ | ((refine ld_f hS 0 rfl rfl ?_); (conv => whnf); exact ⟨rfl, rfl⟩) | ((refine ldA_f hS 0 rfl rfl ?_); (conv => whnf); exact ⟨rfl, rfl⟩))))
        refine ⟨seenOf name gs, A3, c3, by rw [seen_p, hgs], rfl, hv.rdF hS, fun x hx => ?_, hS.nil⟩
        obtain ⟨k, hk, e⟩ := List.getElem_of_mem (seen_mem hx)
        rw [← e]
        exact hG.rdD hS.rot hk
end Go.RV
