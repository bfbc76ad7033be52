/- The law RankKnown, walked. Conditions: none. -/
import Derived.Test.YtafadpfljnhhfaaDoorG12
set_option maxRecDepth 20000
set_option linter.unusedVariables false
set_option linter.unusedSimpArgs false
namespace Go.RV
open Go Go.Proofs

def knownX : List Sx := [⟨0, 1, [97]⟩, ⟨1, 1, [47]⟩, ⟨1, 2, [98]⟩, ⟨2, 2, [97]⟩, ⟨0, 3, [47]⟩]
def knownY : List Sx := [⟨0, 1, [65]⟩, ⟨0, 2, [98]⟩, ⟨0, 3, [97]⟩]
theorem conf22 : confT [110] 2 2 = [110, 126, 50, 46, 50] := by
  have h2 := itoa1 2 (by decide)
  unfold confT
  rw [if_pos (by decide +kernel), show (2 : Int) = ((2 : Nat) : Int) from rfl, h2]
  decide
theorem knownX_g : grps (alikeB fun a b => sameT a b false) knownX = [([47], [(0, 3), (1, 1)]), ([97], [(2, 2), (0, 1)]), ([98], [(1, 2)])] := by decide +kernel
theorem knownX_s : seenP [110] (grps (alikeB fun a b => sameT a b false) knownX) = [([110], true, false, [47], [(0, 3), (1, 1)]), ([110, 126, 50, 46, 50], false, true, [97], [(2, 2), (0, 1)]), ([110, 126, 49, 46, 50], false, true, [98], [(1, 2)])] := by
  rw [knownX_g, ← conf12, ← conf22]
  rfl
theorem knownY_s : ∃ p, seenP [110] (grps (alikeB fun a b => sameT a b true) knownY) = [([110], false, false, [97], [(0, 3), (0, 1)]), p] := by
  rw [show grps (alikeB fun a b => sameT a b true) knownY = [([97], [(0, 3), (0, 1)]), ([98], [(0, 2)])] from by decide +kernel]
  exact ⟨_, rfl⟩
theorem knownY_t : ∃ p q r, seenP [110] (grps (alikeB fun a b => sameT a b false) knownY) = [p, q, r] := by
  rw [show grps (alikeB fun a b => sameT a b false) knownY = [([97], [(0, 3)]), ([98], [(0, 2)]), ([65], [(0, 1)])] from by decide +kernel]
  exact ⟨_, _, _, rfl⟩
theorem givenX_n : ∃ p, seenP [] (grps (alikeB fun a b => sameT a b false) givenX) = [p, ([], false, true, [98], [(1, 2)])] := by
  rw [show grps (alikeB fun a b => sameT a b false) givenX = [([97], [(2, 2), (0, 1)]), ([98], [(1, 2)])] from by decide +kernel]
  exact ⟨_, rfl⟩
theorem smallDigs {xs : List Sx} (h : ∀ x ∈ xs, x.r.toNat < 100 ∧ 0 ≤ x.r ∧ x.n.toNat < 100 ∧ 0 ≤ x.n) (w : World) : ∀ x ∈ xs, rightB x.r x.n = true → Digs w x.r ∧ Digs w x.n := by
  intro x hx _
  have := h x hx
  have e1 : x.r = (x.r.toNat : Int) := by omega
  have e2 : x.n = (x.n.toNat : Int) := by omega
  rw [e1, e2]
  exact ⟨digs_small _ _ this.1, digs_small _ _ this.2.2.1⟩
set_option maxHeartbeats 8000000 in
theorem rankKnown_c (w : World) : Fc Tryd.prog 5 [] w fun v w' => v = .bool true ∧ St [] w w' [] := by
  refine fc_i TB_ok Tryd.func5 rfl (by kernel_rfl) ?_
  have hS := Sf.refl w
  repeat ((conv => whnf); first | (refine nw_f hS ?_; intro b w1 hS) | (refine as_i hS ?_) | (refine as_i (hS.subs (List.nil_sublist _) (by repeat (first | exact List.Sublist.refl _ | apply List.Sublist.cons_cons | apply List.Sublist.cons))) ?_) | (refine bar_f hS ?_) | (refine drawf TB_ok rfl (by kernel_rfl) (by kernel_rfl) hS (List.Sublist.refl _) (List.Sublist.refl _) ?_; intro w1 hS) | (refine br_t (by assumption) ?_) | (refine br_f (by assumption) ?_) | (apply q_i; focus (intro w1 hS; (conv => whnf); first | exact ⟨rfl, rfl⟩)))
  refine fc_m (given_c _) ?_
  rintro v w1 ⟨bg, rfl, hS'⟩
  have h0 := hS.nil.call0 hS'.nil
  have hRg : Rd w1 (some ⟨bg, 0, none⟩) (flat encX givenX) := hS'.sf.rd 0 rfl
  clear hS hS'
  have hS := Sf.refl w1
  repeat ((conv => whnf); first | (refine nw_f hS ?_; intro b w1 hS) | (refine as_i hS ?_) | (refine as_i (hS.subs (List.nil_sublist _) (by repeat (first | exact List.Sublist.refl _ | apply List.Sublist.cons_cons | apply List.Sublist.cons))) ?_) | (refine bar_f hS ?_) | (refine drawf TB_ok rfl (by kernel_rfl) (by kernel_rfl) hS (List.Sublist.refl _) (List.Sublist.refl _) ?_; intro w1 hS) | (refine br_t (by assumption) ?_) | (refine br_f (by assumption) ?_) | (apply q_i; focus (intro w1 hS; (conv => whnf); first | exact ⟨rfl, rfl⟩)))
  refine fc_m (listed_known givenF (some ⟨bg, 0, none⟩) 3 givenX false _ hRg (by decide) (by decide)) ?_
  rintro v w2 ⟨gs, A2, c2, hgs, rfl, hRl, hRd, hS'⟩
  replace h0 := h0.call0 hS'
  replace hgs := hgs.trans (show grps (fun a b => sameT a b false) givenX = [([97], [(2, 2), (0, 1)]), ([98], [(1, 2)])] from by decide +kernel)
  have hl : gs.length = 2 := by simpa using congrArg List.length hgs
  have l0 : 0 < gs.length := by omega
  have l1 : 1 < gs.length := by omega
  obtain ⟨b0, o0, k0, e0, r0⟩ := gx_open (map_at hgs 0 l0 rfl) (hRd _ (List.getElem_mem _)) (by simp)
  obtain ⟨b1, o1, k1, e1, r1⟩ := gx_open (map_at hgs 1 l1 rfl) (hRd _ (List.getElem_mem _)) (by simp)
  obtain ⟨b2, o2, rfl⟩ := hRl.form (flat_ne encG_len (by decide) l0)
  have s0 : streq (strY [97]) ⟨#[97]⟩ = true := lit_eq _ rfl
  have s1 : streq (strY [98]) ⟨#[98]⟩ = true := lit_eq _ rfl
  have q0 : ((gs.length : Int) != 2) = false := by rw [hl]; rfl
  clear hS hS' hgs hRd hRg
  have hS := Sf.refl w2
  repeat ((conv => whnf); first | (refine nw_f hS ?_; intro b w1 hS) | (refine as_i hS ?_) | (refine as_i (hS.subs (List.nil_sublist _) (by repeat (first | exact List.Sublist.refl _ | apply List.Sublist.cons_cons | apply List.Sublist.cons))) ?_) | (refine bar_f hS ?_) | (refine drawf TB_ok rfl (by kernel_rfl) (by kernel_rfl) hS (List.Sublist.refl _) (List.Sublist.refl _) ?_; intro w1 hS) | (refine br_t (by assumption) ?_) | (refine br_f (by assumption) ?_) | (apply q_i; focus (intro w1 hS; (conv => whnf); first | exact ⟨rfl, rfl⟩)))
  refine fc_m (works_c _) ?_; rintro v w3 ⟨rfl, hS'⟩; replace hS := hS.call0 hS'
  repeat ((conv => whnf); first | (refine nw_f hS ?_; intro b w1 hS) | (refine as_i hS ?_) | (refine as_i (hS.subs (List.nil_sublist _) (by repeat (first | exact List.Sublist.refl _ | apply List.Sublist.cons_cons | apply List.Sublist.cons))) ?_) | (refine bar_f hS ?_) | (refine .mk ⟨by omega, by omega⟩ ?_; refine ix_i rfl ?_) | (refine .mk ⟨by decide, by decide⟩ ?_; refine ix_i rfl ?_) | (refine ld_el encG_len (hRl.below hS.nil).at (i := 0) (k := 0) l0 (by decide) rfl (v := .string (strY [97])) (by rw [e0]; rfl) ?_) | (refine ld_el encG_len (hRl.below hS.nil).at (i := 0) (k := 1) l0 (by decide) rfl (v := .slice (some ⟨b0, o0, none⟩) 2 k0) (by rw [e0]; rfl) ?_) | (refine ld_el encG_len (hRl.below hS.nil).at (i := 1) (k := 0) l1 (by decide) rfl (v := .string (strY [98])) (by rw [e1]; rfl) ?_) | (refine ldN_el encD_len (r0.below hS.nil).at (i := 0) (by decide) rfl rfl ?_) | (refine ldN_el encD_len (r0.below hS.nil).at (i := 1) (by decide) rfl rfl ?_) | (refine nePDot _ _ _ _ ?_) | (rw [s0]) | (rw [s1]) | (refine drawf TB_ok rfl (by kernel_rfl) (by kernel_rfl) hS (List.Sublist.refl _) (List.Sublist.refl _) ?_; intro w1 hS) | (refine br_t (by assumption) ?_) | (refine br_f (by assumption) ?_) | (apply q_i; focus (intro w1 hS; (conv => whnf); first | exact ⟨rfl, rfl⟩ | ((refine .mk ⟨by omega, by omega⟩ ?_; refine ix_i rfl ?_); (conv => whnf); exact ⟨rfl, rfl⟩) | ((refine .mk ⟨by decide, by decide⟩ ?_; refine ix_i rfl ?_); (conv => whnf); exact ⟨rfl, rfl⟩) | ((refine ld_el encG_len (hRl.below hS.nil).at (i := 0) (k := 0) l0 (by decide) rfl (v := .string (strY [97])) (by rw [e0]; rfl) ?_); (conv => whnf); exact ⟨rfl, rfl⟩) | ((refine ld_el encG_len (hRl.below hS.nil).at (i := 0) (k := 1) l0 (by decide) rfl (v := .slice (some ⟨b0, o0, none⟩) 2 k0) (by rw [e0]; rfl) ?_); (conv => whnf); exact ⟨rfl, rfl⟩) | ((refine ld_el encG_len (hRl.below hS.nil).at (i := 1) (k := 0) l1 (by decide) rfl (v := .string (strY [98])) (by rw [e1]; rfl) ?_); (conv => whnf); exact ⟨rfl, rfl⟩) | ((refine ldN_el encD_len (r0.below hS.nil).at (i := 0) (by decide) rfl rfl ?_); (conv => whnf); exact ⟨rfl, rfl⟩) | ((refine ldN_el encD_len (r0.below hS.nil).at (i := 1) (by decide) rfl rfl ?_); (conv => whnf); exact ⟨rfl, rfl⟩) | ((refine nePDot _ _ _ _ ?_); (conv => whnf); exact ⟨rfl, rfl⟩) | ((rw [s0]); (conv => whnf); exact ⟨rfl, rfl⟩) | ((rw [s1]); (conv => whnf); exact ⟨rfl, rfl⟩))))
  refine fc_m (sib_c _ _ _ _) ?_; rintro v w4 ⟨rfl, hS'⟩; replace hS := hS.call0 hS'
  repeat ((conv => whnf); first | (refine nw_f hS ?_; intro b w1 hS) | (refine as_i hS ?_) | (refine as_i (hS.subs (List.nil_sublist _) (by repeat (first | exact List.Sublist.refl _ | apply List.Sublist.cons_cons | apply List.Sublist.cons))) ?_) | (refine bar_f hS ?_) | (refine drawf TB_ok rfl (by kernel_rfl) (by kernel_rfl) hS (List.Sublist.refl _) (List.Sublist.refl _) ?_; intro w1 hS) | (refine br_t (by assumption) ?_) | (refine br_f (by assumption) ?_) | (apply q_i; focus (intro w1 hS; (conv => whnf); first | exact ⟨rfl, rfl⟩)))
  refine fc_m (sib_c _ _ _ _) ?_; rintro v w4 ⟨rfl, hS'⟩; replace hS := hS.call0 hS'
  repeat ((conv => whnf); first | (refine nw_f hS ?_; intro b w1 hS) | (refine as_i hS ?_) | (refine as_i (hS.subs (List.nil_sublist _) (by repeat (first | exact List.Sublist.refl _ | apply List.Sublist.cons_cons | apply List.Sublist.cons))) ?_) | (refine bar_f hS ?_) | (refine drawf TB_ok rfl (by kernel_rfl) (by kernel_rfl) hS (List.Sublist.refl _) (List.Sublist.refl _) ?_; intro w1 hS) | (refine br_t (by assumption) ?_) | (refine br_f (by assumption) ?_) | (apply q_i; focus (intro w1 hS; (conv => whnf); first | exact ⟨rfl, rfl⟩)))
  refine fc_m (sib_c _ _ _ _) ?_; rintro v w4 ⟨rfl, hS'⟩; replace hS := hS.call0 hS'
  repeat ((conv => whnf); first | (refine nw_f hS ?_; intro b w1 hS) | (refine as_i hS ?_) | (refine as_i (hS.subs (List.nil_sublist _) (by repeat (first | exact List.Sublist.refl _ | apply List.Sublist.cons_cons | apply List.Sublist.cons))) ?_) | (refine bar_f hS ?_) | (refine drawf TB_ok rfl (by kernel_rfl) (by kernel_rfl) hS (List.Sublist.refl _) (List.Sublist.refl _) ?_; intro w1 hS) | (refine br_t (by assumption) ?_) | (refine br_f (by assumption) ?_) | (apply q_i; focus (intro w1 hS; (conv => whnf); first | exact ⟨rfl, rfl⟩)))
  refine fc_m (sib_c _ _ _ _) ?_; rintro v w4 ⟨rfl, hS'⟩; replace hS := hS.call0 hS'
  repeat ((conv => whnf); first | (refine nw_f hS ?_; intro b w1 hS) | (refine as_i hS ?_) | (refine as_i (hS.subs (List.nil_sublist _) (by repeat (first | exact List.Sublist.refl _ | apply List.Sublist.cons_cons | apply List.Sublist.cons))) ?_) | (refine bar_f hS ?_) | (refine drawf TB_ok rfl (by kernel_rfl) (by kernel_rfl) hS (List.Sublist.refl _) (List.Sublist.refl _) ?_; intro w1 hS) | (refine br_t (by assumption) ?_) | (refine br_f (by assumption) ?_) | (apply q_i; focus (intro w1 hS; (conv => whnf); first | exact ⟨rfl, rfl⟩)))
  refine fc_m (sib_c _ _ _ _) ?_; rintro v w4 ⟨rfl, hS'⟩; replace hS := hS.call0 hS'
  repeat ((conv => whnf); first | (refine nw_f hS ?_; intro b w1 hS) | (refine as_i hS ?_) | (refine as_i (hS.subs (List.nil_sublist _) (by repeat (first | exact List.Sublist.refl _ | apply List.Sublist.cons_cons | apply List.Sublist.cons))) ?_) | (refine bar_f hS ?_) | (refine ld_f hS 0 rfl rfl ?_) | (refine ld_f hS 1 rfl rfl ?_) | (refine ldA_f hS 0 rfl rfl ?_) | (refine ldA_f hS 1 rfl rfl ?_) | (refine stN_f hS 0 rfl (Nat.le_of_ble_eq_true rfl) rfl rfl ?_; (conv => whnf); intro w1 hS) | (refine stN_f hS 1 rfl (Nat.le_of_ble_eq_true rfl) rfl rfl ?_; (conv => whnf); intro w1 hS) | (refine stM_f hS 0 rfl (Nat.le_of_ble_eq_true rfl) rfl ?_; (conv => whnf); intro w1 hS) | (refine stM_f hS 1 rfl (Nat.le_of_ble_eq_true rfl) rfl ?_; (conv => whnf); intro w1 hS) | (refine drawf TB_ok rfl (by kernel_rfl) (by kernel_rfl) hS (List.Sublist.refl _) (List.Sublist.refl _) ?_; intro w1 hS) | (refine br_t (by assumption) ?_) | (refine br_f (by assumption) ?_) | (apply q_i; focus (intro w1 hS; (conv => whnf); first | exact ⟨rfl, rfl⟩ | ((refine ld_f hS 0 rfl rfl ?_); (conv => whnf); exact ⟨rfl, rfl⟩) | ((refine ld_f hS 1 rfl rfl ?_); (conv => whnf); exact ⟨rfl, rfl⟩) | ((refine ldA_f hS 0 rfl rfl ?_); (conv => whnf); exact ⟨rfl, rfl⟩) | ((refine ldA_f hS 1 rfl rfl ?_); (conv => whnf); exact ⟨rfl, rfl⟩))))
  refine fc_m (at_known (fun _ => 0) _ 5 knownX [110] false _ (show Rd _ _ (flat encX knownX) from hS.rd 1 rfl) (by decide) (by decide) (by decide) (by decide) (smallDigs (by decide) _)) ?_
  rintro v w5 ⟨l, A3, c3, hl3, rfl, hR3, hD3, hS'⟩
  replace h0 := h0.call0 (hS.nil.call0 hS')
  have hm : l.map sp = _ := hl3.trans knownX_s
  have hlm : l.length = 3 := by simpa using congrArg List.length hm
  have nm0 : 0 < l.length := by omega
  have nm1 : 1 < l.length := by omega
  have nm2 : 2 < l.length := by omega
  have hRm := hR3
  have hDm := hD3
  obtain ⟨bm0, om0, km0, em0, rm0⟩ := sn_open (nm := [110]) (vv := [47]) (dr := true) (cf := false) (ds := [(0, 3), (1, 1)]) (map_at hm 0 nm0 rfl) (hDm _ (List.getElem_mem _)) (by simp)
  have zm0 : ((encSn (l[0]'nm0)).drop 0).take 5 = [.string (strY [110]), .bool true, .bool false, .string (strY [47]), .slice (some ⟨bm0, om0, none⟩) ([(0, 3), (1, 1)] : List (Int × Int)).length km0] := by rw [em0]; rfl
  obtain ⟨bm1, om1, km1, em1, rm1⟩ := sn_open (nm := [110, 126, 50, 46, 50]) (vv := [97]) (dr := false) (cf := true) (ds := [(2, 2), (0, 1)]) (map_at hm 1 nm1 rfl) (hDm _ (List.getElem_mem _)) (by simp)
  have zm1 : ((encSn (l[1]'nm1)).drop 0).take 5 = [.string (strY [110, 126, 50, 46, 50]), .bool false, .bool true, .string (strY [97]), .slice (some ⟨bm1, om1, none⟩) ([(2, 2), (0, 1)] : List (Int × Int)).length km1] := by rw [em1]; rfl
  obtain ⟨bm2, om2, km2, em2, rm2⟩ := sn_open (nm := [110, 126, 49, 46, 50]) (vv := [98]) (dr := false) (cf := true) (ds := [(1, 2)]) (map_at hm 2 nm2 rfl) (hDm _ (List.getElem_mem _)) (by simp)
  have zm2 : ((encSn (l[2]'nm2)).drop 0).take 5 = [.string (strY [110, 126, 49, 46, 50]), .bool false, .bool true, .string (strY [98]), .slice (some ⟨bm2, om2, none⟩) ([(1, 2)] : List (Int × Int)).length km2] := by rw [em2]; rfl
  obtain ⟨b3, o3, rfl⟩ := hRm.form (flat_ne encSn_len (by decide) nm0)
  have q3 : ((l.length : Int) != 3) = false := by rw [hlm]; rfl
  clear hS hS' hl3 hm hR3 hD3 hDm hRl r0 r1
  have hS := Sf.refl w5
  repeat ((conv => whnf); first | (refine nw_f hS ?_; intro b w1 hS) | (refine as_i hS ?_) | (refine as_i (hS.subs (List.nil_sublist _) (by repeat (first | exact List.Sublist.refl _ | apply List.Sublist.cons_cons | apply List.Sublist.cons))) ?_) | (refine bar_f hS ?_) | (refine .mk ⟨by omega, by omega⟩ ?_; refine ix_i rfl ?_) | (refine .mk ⟨by decide, by decide⟩ ?_; refine ix_i rfl ?_) | (refine ldN_elp encSn_len (hRm.below hS.nil).at (i := 0) (j0 := 0) nm0 rfl (Nat.le_of_ble_eq_true rfl) _ zm0 ?_) | (refine ldN_elp encSn_len (hRm.below hS.nil).at (i := 1) (j0 := 0) nm1 rfl (Nat.le_of_ble_eq_true rfl) _ zm1 ?_) | (refine ldN_elp encSn_len (hRm.below hS.nil).at (i := 2) (j0 := 0) nm2 rfl (Nat.le_of_ble_eq_true rfl) _ zm2 ?_) | (refine drawf TB_ok rfl (by kernel_rfl) (by kernel_rfl) hS (List.Sublist.refl _) (List.Sublist.refl _) ?_; intro w1 hS) | (refine br_t (by assumption) ?_) | (refine br_f (by assumption) ?_) | (apply q_i; focus (intro w1 hS; (conv => whnf); first | exact ⟨rfl, rfl⟩ | ((refine .mk ⟨by omega, by omega⟩ ?_; refine ix_i rfl ?_); (conv => whnf); exact ⟨rfl, rfl⟩) | ((refine .mk ⟨by decide, by decide⟩ ?_; refine ix_i rfl ?_); (conv => whnf); exact ⟨rfl, rfl⟩) | ((refine ldN_elp encSn_len (hRm.below hS.nil).at (i := 0) (j0 := 0) nm0 rfl (Nat.le_of_ble_eq_true rfl) _ zm0 ?_); (conv => whnf); exact ⟨rfl, rfl⟩) | ((refine ldN_elp encSn_len (hRm.below hS.nil).at (i := 1) (j0 := 0) nm1 rfl (Nat.le_of_ble_eq_true rfl) _ zm1 ?_); (conv => whnf); exact ⟨rfl, rfl⟩) | ((refine ldN_elp encSn_len (hRm.below hS.nil).at (i := 2) (j0 := 0) nm2 rfl (Nat.le_of_ble_eq_true rfl) _ zm2 ?_); (conv => whnf); exact ⟨rfl, rfl⟩))))
  refine fc_m (seesT_c [110] [47] [110] [47] true false bm0 om0 km0 [(0, 3), (1, 1)] 0 3 2 _ (rm0.below hS.nil) (by decide) (lit_eq _ rfl) (lit_eq _ rfl) rfl rfl rfl (by decide +kernel) (by decide +kernel)) ?_; rintro v w7 ⟨rfl, hS'⟩; replace hS := hS.call0 hS'
  repeat ((conv => whnf); first | (refine nw_f hS ?_; intro b w1 hS) | (refine as_i hS ?_) | (refine as_i (hS.subs (List.nil_sublist _) (by repeat (first | exact List.Sublist.refl _ | apply List.Sublist.cons_cons | apply List.Sublist.cons))) ?_) | (refine bar_f hS ?_) | (refine .mk ⟨by omega, by omega⟩ ?_; refine ix_i rfl ?_) | (refine .mk ⟨by decide, by decide⟩ ?_; refine ix_i rfl ?_) | (refine ldN_elp encSn_len (hRm.below hS.nil).at (i := 0) (j0 := 0) nm0 rfl (Nat.le_of_ble_eq_true rfl) _ zm0 ?_) | (refine ldN_elp encSn_len (hRm.below hS.nil).at (i := 1) (j0 := 0) nm1 rfl (Nat.le_of_ble_eq_true rfl) _ zm1 ?_) | (refine ldN_elp encSn_len (hRm.below hS.nil).at (i := 2) (j0 := 0) nm2 rfl (Nat.le_of_ble_eq_true rfl) _ zm2 ?_) | (refine drawf TB_ok rfl (by kernel_rfl) (by kernel_rfl) hS (List.Sublist.refl _) (List.Sublist.refl _) ?_; intro w1 hS) | (refine br_t (by assumption) ?_) | (refine br_f (by assumption) ?_) | (apply q_i; focus (intro w1 hS; (conv => whnf); first | exact ⟨rfl, rfl⟩ | ((refine .mk ⟨by omega, by omega⟩ ?_; refine ix_i rfl ?_); (conv => whnf); exact ⟨rfl, rfl⟩) | ((refine .mk ⟨by decide, by decide⟩ ?_; refine ix_i rfl ?_); (conv => whnf); exact ⟨rfl, rfl⟩) | ((refine ldN_elp encSn_len (hRm.below hS.nil).at (i := 0) (j0 := 0) nm0 rfl (Nat.le_of_ble_eq_true rfl) _ zm0 ?_); (conv => whnf); exact ⟨rfl, rfl⟩) | ((refine ldN_elp encSn_len (hRm.below hS.nil).at (i := 1) (j0 := 0) nm1 rfl (Nat.le_of_ble_eq_true rfl) _ zm1 ?_); (conv => whnf); exact ⟨rfl, rfl⟩) | ((refine ldN_elp encSn_len (hRm.below hS.nil).at (i := 2) (j0 := 0) nm2 rfl (Nat.le_of_ble_eq_true rfl) _ zm2 ?_); (conv => whnf); exact ⟨rfl, rfl⟩))))
  refine fc_m (seesT_c [110, 126, 50, 46, 50] [97] [110, 126, 50, 46, 50] [97] false true bm1 om1 km1 [(2, 2), (0, 1)] 2 2 2 _ (rm1.below hS.nil) (by decide) (lit_eq _ rfl) (lit_eq _ rfl) rfl rfl rfl (by decide +kernel) (by decide +kernel)) ?_; rintro v w7 ⟨rfl, hS'⟩; replace hS := hS.call0 hS'
  repeat ((conv => whnf); first | (refine nw_f hS ?_; intro b w1 hS) | (refine as_i hS ?_) | (refine as_i (hS.subs (List.nil_sublist _) (by repeat (first | exact List.Sublist.refl _ | apply List.Sublist.cons_cons | apply List.Sublist.cons))) ?_) | (refine bar_f hS ?_) | (refine .mk ⟨by omega, by omega⟩ ?_; refine ix_i rfl ?_) | (refine .mk ⟨by decide, by decide⟩ ?_; refine ix_i rfl ?_) | (refine ldN_elp encSn_len (hRm.below hS.nil).at (i := 0) (j0 := 0) nm0 rfl (Nat.le_of_ble_eq_true rfl) _ zm0 ?_) | (refine ldN_elp encSn_len (hRm.below hS.nil).at (i := 1) (j0 := 0) nm1 rfl (Nat.le_of_ble_eq_true rfl) _ zm1 ?_) | (refine ldN_elp encSn_len (hRm.below hS.nil).at (i := 2) (j0 := 0) nm2 rfl (Nat.le_of_ble_eq_true rfl) _ zm2 ?_) | (refine drawf TB_ok rfl (by kernel_rfl) (by kernel_rfl) hS (List.Sublist.refl _) (List.Sublist.refl _) ?_; intro w1 hS) | (refine br_t (by assumption) ?_) | (refine br_f (by assumption) ?_) | (apply q_i; focus (intro w1 hS; (conv => whnf); first | exact ⟨rfl, rfl⟩ | ((refine .mk ⟨by omega, by omega⟩ ?_; refine ix_i rfl ?_); (conv => whnf); exact ⟨rfl, rfl⟩) | ((refine .mk ⟨by decide, by decide⟩ ?_; refine ix_i rfl ?_); (conv => whnf); exact ⟨rfl, rfl⟩) | ((refine ldN_elp encSn_len (hRm.below hS.nil).at (i := 0) (j0 := 0) nm0 rfl (Nat.le_of_ble_eq_true rfl) _ zm0 ?_); (conv => whnf); exact ⟨rfl, rfl⟩) | ((refine ldN_elp encSn_len (hRm.below hS.nil).at (i := 1) (j0 := 0) nm1 rfl (Nat.le_of_ble_eq_true rfl) _ zm1 ?_); (conv => whnf); exact ⟨rfl, rfl⟩) | ((refine ldN_elp encSn_len (hRm.below hS.nil).at (i := 2) (j0 := 0) nm2 rfl (Nat.le_of_ble_eq_true rfl) _ zm2 ?_); (conv => whnf); exact ⟨rfl, rfl⟩))))
  refine fc_m (seesT_c [110, 126, 49, 46, 50] [98] [110, 126, 49, 46, 50] [98] false true bm2 om2 km2 [(1, 2)] 1 2 1 _ (rm2.below hS.nil) (by decide) (lit_eq _ rfl) (lit_eq _ rfl) rfl rfl rfl (by decide +kernel) (by decide +kernel)) ?_; rintro v w7 ⟨rfl, hS'⟩; replace hS := hS.call0 hS'
  repeat ((conv => whnf); first | (refine nw_f hS ?_; intro b w1 hS) | (refine as_i hS ?_) | (refine as_i (hS.subs (List.nil_sublist _) (by repeat (first | exact List.Sublist.refl _ | apply List.Sublist.cons_cons | apply List.Sublist.cons))) ?_) | (refine bar_f hS ?_) | (refine drawf TB_ok rfl (by kernel_rfl) (by kernel_rfl) hS (List.Sublist.refl _) (List.Sublist.refl _) ?_; intro w1 hS) | (refine br_t (by assumption) ?_) | (refine br_f (by assumption) ?_) | (apply q_i; focus (intro w1 hS; (conv => whnf); first | exact ⟨rfl, rfl⟩)))
  refine fc_m (sib_c _ _ _ _) ?_; rintro v w4 ⟨rfl, hS'⟩; replace hS := hS.call0 hS'
  repeat ((conv => whnf); first | (refine nw_f hS ?_; intro b w1 hS) | (refine as_i hS ?_) | (refine as_i (hS.subs (List.nil_sublist _) (by repeat (first | exact List.Sublist.refl _ | apply List.Sublist.cons_cons | apply List.Sublist.cons))) ?_) | (refine bar_f hS ?_) | (refine drawf TB_ok rfl (by kernel_rfl) (by kernel_rfl) hS (List.Sublist.refl _) (List.Sublist.refl _) ?_; intro w1 hS) | (refine br_t (by assumption) ?_) | (refine br_f (by assumption) ?_) | (apply q_i; focus (intro w1 hS; (conv => whnf); first | exact ⟨rfl, rfl⟩)))
  refine fc_m (sib_c _ _ _ _) ?_; rintro v w4 ⟨rfl, hS'⟩; replace hS := hS.call0 hS'
  repeat ((conv => whnf); first | (refine nw_f hS ?_; intro b w1 hS) | (refine as_i hS ?_) | (refine as_i (hS.subs (List.nil_sublist _) (by repeat (first | exact List.Sublist.refl _ | apply List.Sublist.cons_cons | apply List.Sublist.cons))) ?_) | (refine bar_f hS ?_) | (refine drawf TB_ok rfl (by kernel_rfl) (by kernel_rfl) hS (List.Sublist.refl _) (List.Sublist.refl _) ?_; intro w1 hS) | (refine br_t (by assumption) ?_) | (refine br_f (by assumption) ?_) | (apply q_i; focus (intro w1 hS; (conv => whnf); first | exact ⟨rfl, rfl⟩)))
  refine fc_m (sib_c _ _ _ _) ?_; rintro v w4 ⟨rfl, hS'⟩; replace hS := hS.call0 hS'
  repeat ((conv => whnf); first | (refine nw_f hS ?_; intro b w1 hS) | (refine as_i hS ?_) | (refine as_i (hS.subs (List.nil_sublist _) (by repeat (first | exact List.Sublist.refl _ | apply List.Sublist.cons_cons | apply List.Sublist.cons))) ?_) | (refine bar_f hS ?_) | (refine ld_f hS 0 rfl rfl ?_) | (refine ld_f hS 1 rfl rfl ?_) | (refine ldA_f hS 0 rfl rfl ?_) | (refine ldA_f hS 1 rfl rfl ?_) | (refine stN_f hS 0 rfl (Nat.le_of_ble_eq_true rfl) rfl rfl ?_; (conv => whnf); intro w1 hS) | (refine stN_f hS 1 rfl (Nat.le_of_ble_eq_true rfl) rfl rfl ?_; (conv => whnf); intro w1 hS) | (refine stM_f hS 0 rfl (Nat.le_of_ble_eq_true rfl) rfl ?_; (conv => whnf); intro w1 hS) | (refine stM_f hS 1 rfl (Nat.le_of_ble_eq_true rfl) rfl ?_; (conv => whnf); intro w1 hS) | (refine drawf TB_ok rfl (by kernel_rfl) (by kernel_rfl) hS (List.Sublist.refl _) (List.Sublist.refl _) ?_; intro w1 hS) | (refine br_t (by assumption) ?_) | (refine br_f (by assumption) ?_) | (apply q_i; focus (intro w1 hS; (conv => whnf); first | exact ⟨rfl, rfl⟩ | ((refine ld_f hS 0 rfl rfl ?_); (conv => whnf); exact ⟨rfl, rfl⟩) | ((refine ld_f hS 1 rfl rfl ?_); (conv => whnf); exact ⟨rfl, rfl⟩) | ((refine ldA_f hS 0 rfl rfl ?_); (conv => whnf); exact ⟨rfl, rfl⟩) | ((refine ldA_f hS 1 rfl rfl ?_); (conv => whnf); exact ⟨rfl, rfl⟩))))
  refine fc_m (at_known (fun _ => 0) _ 3 knownY [110] true _ (show Rd _ _ (flat encX knownY) from hS.rd 1 rfl) (by decide) (by decide) (by decide) (by decide) (smallDigs (by decide) _)) ?_
  rintro v w5 ⟨lk, A3, c3, hlk, rfl, hRk, hDk, hS'⟩
  replace hS := hS.call0 hS'
  obtain ⟨pk, hpk⟩ := knownY_s
  have hk := hlk.trans hpk
  have hlk2 : lk.length = 2 := by simpa using congrArg List.length hk
  have nk0 : 0 < lk.length := by omega
  obtain ⟨bk0, ok0, kk0, ek0, rk0⟩ := sn_open (nm := [110]) (vv := [97]) (dr := false) (cf := false) (ds := [(0, 3), (0, 1)]) (map_at hk 0 nk0 rfl) (hDk _ (List.getElem_mem _)) (by simp)
  have zk0 : ((encSn (lk[0]'nk0)).drop 0).take 5 = [.string (strY [110]), .bool false, .bool false, .string (strY [97]), .slice (some ⟨bk0, ok0, none⟩) ([(0, 3), (0, 1)] : List (Int × Int)).length kk0] := by rw [ek0]; rfl
  obtain ⟨b4, o4, rfl⟩ := hRk.form (flat_ne encSn_len (by decide) nk0)
  have qk : ((lk.length : Int) == 2) = true := by rw [hlk2]; rfl
  repeat ((conv => whnf); first | (refine nw_f hS ?_; intro b w1 hS) | (refine as_i hS ?_) | (refine as_i (hS.subs (List.nil_sublist _) (by repeat (first | exact List.Sublist.refl _ | apply List.Sublist.cons_cons | apply List.Sublist.cons))) ?_) | (refine bar_f hS ?_) | (refine ld_f hS 0 rfl rfl ?_) | (refine ld_f hS 1 rfl rfl ?_) | (refine ldA_f hS 0 rfl rfl ?_) | (refine ldA_f hS 1 rfl rfl ?_) | (refine stN_f hS 0 rfl (Nat.le_of_ble_eq_true rfl) rfl rfl ?_; (conv => whnf); intro w1 hS) | (refine stN_f hS 1 rfl (Nat.le_of_ble_eq_true rfl) rfl rfl ?_; (conv => whnf); intro w1 hS) | (refine stM_f hS 0 rfl (Nat.le_of_ble_eq_true rfl) rfl ?_; (conv => whnf); intro w1 hS) | (refine stM_f hS 1 rfl (Nat.le_of_ble_eq_true rfl) rfl ?_; (conv => whnf); intro w1 hS) | (refine drawf TB_ok rfl (by kernel_rfl) (by kernel_rfl) hS (List.Sublist.refl _) (List.Sublist.refl _) ?_; intro w1 hS) | (refine br_t (by assumption) ?_) | (refine br_f (by assumption) ?_) | (apply q_i; focus (intro w1 hS; (conv => whnf); first | exact ⟨rfl, rfl⟩ | ((refine ld_f hS 0 rfl rfl ?_); (conv => whnf); exact ⟨rfl, rfl⟩) | ((refine ld_f hS 1 rfl rfl ?_); (conv => whnf); exact ⟨rfl, rfl⟩) | ((refine ldA_f hS 0 rfl rfl ?_); (conv => whnf); exact ⟨rfl, rfl⟩) | ((refine ldA_f hS 1 rfl rfl ?_); (conv => whnf); exact ⟨rfl, rfl⟩))))
  refine fc_m (at_known (fun _ => 0) _ 3 knownY [110] false _ (show Rd _ _ (flat encX knownY) from hS.rd 1 rfl) (by decide) (by decide) (by decide) (by decide) (smallDigs (by decide) _)) ?_
  rintro v w6 ⟨lj, A4, c4, hlj, rfl, _, _, hS'⟩
  obtain ⟨pj, qj, rj, hpj⟩ := knownY_t
  have hlj3 : lj.length = 3 := by simpa using congrArg List.length (hlj.trans hpj)
  have qj : ((lj.length : Int) == 3) = true := by rw [hlj3]; rfl
  replace hRk := hRk.below hS'
  replace rk0 := rk0.below hS'
  replace h0 := h0.call0 (hS.nil.call0 hS')
  clear hS hS' hlj hlk hk hDk
  have hS := Sf.refl w6
  repeat ((conv => whnf); first | (refine nw_f hS ?_; intro b w1 hS) | (refine as_i hS ?_) | (refine as_i (hS.subs (List.nil_sublist _) (by repeat (first | exact List.Sublist.refl _ | apply List.Sublist.cons_cons | apply List.Sublist.cons))) ?_) | (refine bar_f hS ?_) | (refine drawf TB_ok rfl (by kernel_rfl) (by kernel_rfl) hS (List.Sublist.refl _) (List.Sublist.refl _) ?_; intro w1 hS) | (refine br_t (by assumption) ?_) | (refine br_f (by assumption) ?_) | (apply q_i; focus (intro w1 hS; (conv => whnf); first | exact ⟨rfl, rfl⟩)))
  refine fc_m (given_c _) ?_
  rintro v w7 ⟨bg2, rfl, hS'⟩
  replace hS := hS.call' hS'
  repeat ((conv => whnf); first | (refine nw_f hS ?_; intro b w1 hS) | (refine as_i hS ?_) | (refine as_i (hS.subs (List.nil_sublist _) (by repeat (first | exact List.Sublist.refl _ | apply List.Sublist.cons_cons | apply List.Sublist.cons))) ?_) | (refine bar_f hS ?_) | (refine ld_f hS 0 rfl rfl ?_) | (refine ldA_f hS 0 rfl rfl ?_) | (refine stN_f hS 0 rfl (Nat.le_of_ble_eq_true rfl) rfl rfl ?_; (conv => whnf); intro w1 hS) | (refine stM_f hS 0 rfl (Nat.le_of_ble_eq_true rfl) rfl ?_; (conv => whnf); intro w1 hS) | (refine drawf TB_ok rfl (by kernel_rfl) (by kernel_rfl) hS (List.Sublist.refl _) (List.Sublist.refl _) ?_; intro w1 hS) | (refine br_t (by assumption) ?_) | (refine br_f (by assumption) ?_) | (apply q_i; focus (intro w1 hS; (conv => whnf); first | exact ⟨rfl, rfl⟩ | ((refine ld_f hS 0 rfl rfl ?_); (conv => whnf); exact ⟨rfl, rfl⟩) | ((refine ldA_f hS 0 rfl rfl ?_); (conv => whnf); exact ⟨rfl, rfl⟩))))
  refine fc_m (at_known givenF (some ⟨bg2, 0, none⟩) 3 givenX [] false _ (show Rd _ _ (flat encX givenX) from hS.rd 0 rfl) (by decide) (by decide) (by decide) (by decide) (smallDigs (by decide) _)) ?_
  rintro v w8 ⟨ln, A5, c5, hln, rfl, hRn, _, hS'⟩
  replace h0 := h0.call0 (hS.nil.call0 hS')
  replace hRk := hRk.below (hS.nil.call0 hS')
  replace rk0 := rk0.below (hS.nil.call0 hS')
  obtain ⟨pn, hpn⟩ := givenX_n
  have hn := hln.trans hpn
  have hln2 : ln.length = 2 := by simpa using congrArg List.length hn
  have nn1 : 1 < ln.length := by omega
  have en1 : (encSn (ln[1]'nn1))[0]? = some (.string (strY [])) := by
    have h : sp (ln[1]'nn1) = ([], false, true, [98], [(1, 2)]) := map_at hn 1 nn1 rfl
    have h2 : (ln[1]'nn1).name = [] := congrArg Prod.fst h
    unfold encSn
    rw [h2]
    rfl
  obtain ⟨b5, o5, rfl⟩ := hRn.form (flat_ne encSn_len (by decide) nn1)
  have qn : ((ln.length : Int) == 2) = true := by rw [hln2]; rfl
  clear hS hS' hln hn
  have hS := Sf.refl w8
  have se : streq (strY []) ⟨#[]⟩ = true := lit_eq _ rfl
  repeat ((conv => whnf); first | (refine nw_f hS ?_; intro b w1 hS) | (refine as_i hS ?_) | (refine as_i (hS.subs (List.nil_sublist _) (by repeat (first | exact List.Sublist.refl _ | apply List.Sublist.cons_cons | apply List.Sublist.cons))) ?_) | (refine bar_f hS ?_) | (refine drawf TB_ok rfl (by kernel_rfl) (by kernel_rfl) hS (List.Sublist.refl _) (List.Sublist.refl _) ?_; intro w1 hS) | (refine br_t (by assumption) ?_) | (refine br_f (by assumption) ?_) | (apply q_i; focus (intro w1 hS; (conv => whnf); first | exact ⟨rfl, rfl⟩)))
  refine fc_m (at_known (fun _ => 0) none 0 [] [110] false _ (.inl rfl) (by decide) (by decide) (by decide) (by decide) (smallDigs (by decide) _)) ?_
  rintro v w9 ⟨le, A6, c6, hle, rfl, _, _, hS'⟩
  replace hS := hS.call0 hS'
  have hle0 : le = [] := by simpa using hle.trans (show seenP [110] (grps (alikeB fun a b => sameT a b false) []) = [] from rfl)
  subst hle0
  repeat ((conv => whnf); first | (refine nw_f hS ?_; intro b w1 hS) | (refine as_i hS ?_) | (refine as_i (hS.subs (List.nil_sublist _) (by repeat (first | exact List.Sublist.refl _ | apply List.Sublist.cons_cons | apply List.Sublist.cons))) ?_) | (refine bar_f hS ?_) | (refine .mk ⟨by omega, by omega⟩ ?_; refine ix_i rfl ?_) | (refine .mk ⟨by decide, by decide⟩ ?_; refine ix_i rfl ?_) | (refine ldN_elp encSn_len (hRk.below hS.nil).at (i := 0) (j0 := 0) nk0 rfl (Nat.le_of_ble_eq_true rfl) _ zk0 ?_) | (refine drawf TB_ok rfl (by kernel_rfl) (by kernel_rfl) hS (List.Sublist.refl _) (List.Sublist.refl _) ?_; intro w1 hS) | (refine br_t (by assumption) ?_) | (refine br_f (by assumption) ?_) | (apply q_i; focus (intro w1 hS; (conv => whnf); first | exact ⟨rfl, rfl⟩ | ((refine .mk ⟨by omega, by omega⟩ ?_; refine ix_i rfl ?_); (conv => whnf); exact ⟨rfl, rfl⟩) | ((refine .mk ⟨by decide, by decide⟩ ?_; refine ix_i rfl ?_); (conv => whnf); exact ⟨rfl, rfl⟩) | ((refine ldN_elp encSn_len (hRk.below hS.nil).at (i := 0) (j0 := 0) nk0 rfl (Nat.le_of_ble_eq_true rfl) _ zk0 ?_); (conv => whnf); exact ⟨rfl, rfl⟩))))
  refine fc_m (seesT_c [110] [97] [110] [97] false false bk0 ok0 kk0 [(0, 3), (0, 1)] 0 3 2 _ (rk0.below hS.nil) (by decide) (lit_eq _ rfl) (lit_eq _ rfl) rfl rfl rfl (by decide +kernel) (by decide +kernel)) ?_; rintro v w10 ⟨rfl, hS'⟩; replace hS := hS.call0 hS'
  repeat ((conv => whnf); first | (refine nw_f hS ?_; intro b w1 hS) | (refine as_i hS ?_) | (refine as_i (hS.subs (List.nil_sublist _) (by repeat (first | exact List.Sublist.refl _ | apply List.Sublist.cons_cons | apply List.Sublist.cons))) ?_) | (refine bar_f hS ?_) | (refine .mk ⟨by omega, by omega⟩ ?_; refine ix_i rfl ?_) | (refine .mk ⟨by decide, by decide⟩ ?_; refine ix_i rfl ?_) | (refine ld_el encSn_len (hRn.below hS.nil).at (i := 1) (k := 0) nn1 (by decide) rfl (v := .string (strY [])) en1 ?_) | (rw [se]) | (refine drawf TB_ok rfl (by kernel_rfl) (by kernel_rfl) hS (List.Sublist.refl _) (List.Sublist.refl _) ?_; intro w1 hS) | (refine br_t (by assumption) ?_) | (refine br_f (by assumption) ?_) | (apply q_i; focus (intro w1 hS; (conv => whnf); first | exact ⟨rfl, rfl⟩ | ((refine .mk ⟨by omega, by omega⟩ ?_; refine ix_i rfl ?_); (conv => whnf); exact ⟨rfl, rfl⟩) | ((refine .mk ⟨by decide, by decide⟩ ?_; refine ix_i rfl ?_); (conv => whnf); exact ⟨rfl, rfl⟩) | ((refine ld_el encSn_len (hRn.below hS.nil).at (i := 1) (k := 0) nn1 (by decide) rfl (v := .string (strY [])) en1 ?_); (conv => whnf); exact ⟨rfl, rfl⟩) | ((rw [se]); (conv => whnf); exact ⟨rfl, rfl⟩))))
  refine fc_m (works_c _) ?_; rintro v w11 ⟨rfl, hS'⟩; replace hS := hS.call0 hS'
  repeat ((conv => whnf); first | (refine nw_f hS ?_; intro b w1 hS) | (refine as_i hS ?_) | (refine as_i (hS.subs (List.nil_sublist _) (by repeat (first | exact List.Sublist.refl _ | apply List.Sublist.cons_cons | apply List.Sublist.cons))) ?_) | (refine bar_f hS ?_) | (refine drawf TB_ok rfl (by kernel_rfl) (by kernel_rfl) hS (List.Sublist.refl _) (List.Sublist.refl _) ?_; intro w1 hS) | (refine br_t (by assumption) ?_) | (refine br_f (by assumption) ?_) | (apply q_i; focus (intro w1 hS; (conv => whnf); first | exact ⟨rfl, rfl⟩)))
  exact ⟨rfl, h0.call0 hS.nil⟩
end Go.RV
