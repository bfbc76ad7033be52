/- Contracts of functions of chapter 8: the document's groups. Conditions: none. -/
import Derived.Test.YtafadpfljnhhfaaDoorG3
set_option maxRecDepth 20000
set_option linter.unusedVariables false
set_option linter.unusedSimpArgs false
namespace Go.RV
open Go Go.Proofs

abbrev Gp := List UInt8 × List (Int × Int)
def gp (g : Gx) : Gp := (g.v, g.ds)
def addD (d : Int × Int) (g : Gp) : Gp := (g.1, g.2 ++ [d])
def stepG (sm : List UInt8 → List UInt8 → Bool) (l : List Gp) (x : Sx) : List Gp :=
  if l.findIdx (fun g => sm g.1 x.v) < l.length then l.modify (l.findIdx fun g => sm g.1 x.v) (addD (x.r, x.n)) else l ++ [(x.v, [(x.r, x.n)])]
def grpsF (sm : List UInt8 → List UInt8 → Bool) (xs : List Sx) (m : Nat) : List Gp := (xs.drop m).reverse.foldl (stepG sm) []
def grps (sm : List UInt8 → List UInt8 → Bool) (xs : List Sx) : List Gp := grpsF sm xs 0
theorem grpsF_end (sm : List UInt8 → List UInt8 → Bool) (xs : List Sx) : grpsF sm xs xs.length = [] := by simp [grpsF]
theorem grpsF_next (sm : List UInt8 → List UInt8 → Bool) (xs : List Sx) {m : Nat} (h : m < xs.length) : grpsF sm xs m = stepG sm (grpsF sm xs (m + 1)) xs[m] := by
  unfold grpsF
  rw [List.drop_eq_getElem_cons h, List.reverse_cons, List.foldl_append]
  rfl
theorem stepG_bound {sm : List UInt8 → List UInt8 → Bool} {l : List Gp} {x : Sx} {n : Nat} (h : l.length ≤ n ∧ ∀ g ∈ l, g.2.length ≤ n) : (stepG sm l x).length ≤ n + 1 ∧ ∀ g ∈ stepG sm l x, g.2.length ≤ n + 1 := by
  unfold stepG
  split
  · refine ⟨by rw [List.length_modify]; omega, fun g hg => ?_⟩
    obtain ⟨j, hj, rfl⟩ := List.getElem_of_mem hg
    rw [List.getElem_modify]
    rw [List.length_modify] at hj
    have := h.2 _ (List.getElem_mem hj)
    split
    · simp [addD]; omega
    · omega
  · refine ⟨by simp; omega, fun g hg => ?_⟩
    rcases List.mem_append.1 hg with hg | hg
    · have := h.2 g hg; omega
    · obtain rfl := List.mem_singleton.1 hg
      simp
theorem grpsF_bound (sm : List UInt8 → List UInt8 → Bool) (xs : List Sx) : ∀ k m, m + k = xs.length → (grpsF sm xs m).length ≤ k ∧ ∀ g ∈ grpsF sm xs m, g.2.length ≤ k
  | 0, m, h => by
    obtain rfl : m = xs.length := by omega
    rw [grpsF_end]
    simp
  | k+1, m, h => by
    rw [grpsF_next sm xs (by omega)]
    exact stepG_bound (grpsF_bound sm xs k (m + 1) (by omega))
/-- the values of groups are among the register's -/
theorem grpsF_val (sm : List UInt8 → List UInt8 → Bool) (xs : List Sx) : ∀ k m, m + k = xs.length → ∀ g ∈ grpsF sm xs m, ∃ x ∈ xs, g.1 = x.v
  | 0, m, h, g, hg => by
    obtain rfl : m = xs.length := by omega
    rw [grpsF_end] at hg
    cases hg
  | k+1, m, h, g, hg => by
    rw [grpsF_next sm xs (by omega)] at hg
    unfold stepG at hg
    split at hg
    · obtain ⟨j, hj, rfl⟩ := List.getElem_of_mem hg
      rw [List.length_modify] at hj
      rw [List.getElem_modify]
      have := grpsF_val sm xs k (m + 1) (by omega) _ (List.getElem_mem hj)
      split
      · exact this
      · exact this
    · rcases List.mem_append.1 hg with hg | hg
      · exact grpsF_val sm xs k (m + 1) (by omega) g hg
      · obtain rfl := List.mem_singleton.1 hg
        exact ⟨xs[m], List.getElem_mem _, rfl⟩
theorem map_gp_set {gs : List Gx} {k : Nat} (h : k < gs.length) (d : Int × Int) (A : Option Addr) (c : Nat) (L : LM) : (gs.set k ⟨gs[k].v, gs[k].ds ++ [d], A, c, L⟩).map gp = (gs.map gp).modify k (addD d) := by
  apply List.ext_getElem
  · simp
  · intro i h1 h2
    simp only [List.getElem_map, List.getElem_modify]
    by_cases e : k = i
    · subst e
      simp [gp, addD]
    · rw [if_neg e, List.getElem_set_ne e]
theorem modify_last {α : Type} (f : α → α) (a : α) : ∀ l : List α, (l ++ [a]).modify l.length f = l ++ [f a]
  | [] => rfl
  | b :: l => by
    show b :: (l ++ [a]).modify l.length f = b :: (l ++ [f a])
    rw [modify_last f a l]
theorem stepG_hit {sm : List UInt8 → List UInt8 → Bool} {gs : List Gx} {x : Sx} {k : Nat} (hk : k < gs.length) (hno : ∀ j (h : j < gs.length), j < k → sm gs[j].v x.v = false) (hy : sm gs[k].v x.v = true) : stepG sm (gs.map gp) x = (gs.map gp).modify k (addD (x.r, x.n)) := by
  have : (gs.map gp).findIdx (fun g => sm g.1 x.v) = k := by
    rw [List.findIdx_eq (by simpa using hk)]
    refine ⟨by simpa [gp] using hy, fun j hj => ?_⟩
    have := hno j (by omega) hj
    simpa [gp] using this
  unfold stepG
  rw [this, if_pos (by simpa using hk)]
theorem stepG_miss {sm : List UInt8 → List UInt8 → Bool} {gs : List Gx} {x : Sx} (hno : ∀ j (h : j < gs.length), sm gs[j].v x.v = false) : stepG sm (gs.map gp) x = gs.map gp ++ [(x.v, [(x.r, x.n)])] := by
  have : (gs.map gp).findIdx (fun g => sm g.1 x.v) = (gs.map gp).length := by
    rw [List.findIdx_eq_length]
    intro g hg
    obtain ⟨y, hy, rfl⟩ := List.mem_map.1 hg
    obtain ⟨j, hj, rfl⟩ := List.getElem_of_mem hy
    exact by simpa [gp] using hno j hj
  unfold stepG
  rw [this, if_neg (by omega)]
theorem elRG : ElemOk Tryd.prog TB 33 44 2 40 := ⟨rfl, ⟨_, _, inf44, rfl, rfl, rfl, rfl⟩, by decide⟩
theorem elRD : ElemOk Tryd.prog TB 42 68 2 8 := ⟨rfl, ⟨_, _, inf68, rfl, rfl, rfl, rfl⟩, by decide⟩

theorem rgroups_c (f : Nat → Int) (A : Option Addr) (c : Nat) (xs : List Sx) (small : Bool) (w : World) (hR : Rd w A (flat encX xs)) (hn : xs.length ≤ 1000) (hx : ∀ x ∈ xs, x.v.length ≤ 1000) :
    Fc Tryd.prog 9 [regV f A xs.length c, .bool small] w fun v w' => ∃ gs Lm, gs.map gp = grps (fun a b => sameT a b small) xs ∧ Gr 44 68 v gs Lm ∧ St [] w w' Lm := by
  refine fc_i TB_ok Tryd.func9 rfl (by kernel_rfl) ?_
  have hS := Sf.refl w
  have hw1 : IntKind.i64.wrap ((xs.length : Int) - 1) = (xs.length : Int) - 1 := wrap_i64 (by omega) (by omega)
  repeat ((conv => whnf); first | (refine nw_f hS ?_; intro b w1 hS) | (refine as_i hS ?_) | (refine as_i (hS.subs (List.nil_sublist _) (by repeat (first | exact List.Sublist.refl _ | apply List.Sublist.cons_cons | apply List.Sublist.cons))) ?_) | (refine bar_f hS ?_) | (refine ld_f hS 0 rfl rfl ?_) | (refine ldA_f hS 0 rfl rfl ?_) | (refine stN_f hS 0 rfl (Nat.le_of_ble_eq_true rfl) rfl rfl ?_; (conv => whnf); intro w1 hS) | (refine stM_f hS 0 rfl (Nat.le_of_ble_eq_true rfl) rfl ?_; (conv => whnf); intro w1 hS) | (refine drawf TB_ok rfl (by kernel_rfl) (by kernel_rfl) hS (List.Sublist.refl _) (List.Sublist.refl _) ?_; intro w1 hS) | (refine br_t (by assumption) ?_) | (refine br_f (by assumption) ?_) | (apply q_i; focus (intro w1 hS; (conv => whnf); first | exact ⟨rfl, rfl⟩ | ((refine ld_f hS 0 rfl rfl ?_); (conv => whnf); exact ⟨rfl, rfl⟩) | ((refine ldA_f hS 0 rfl rfl ?_); (conv => whnf); exact ⟨rfl, rfl⟩))))
  replace hS : Sf [] w _ ([] ++ []) _ := hS
  refine loop_i TB_ok (fun t : Nat × Int × Value => [(6, .int .i64 t.2.1), (5, t.2.2)]) (fun t w' => t.1 ≤ xs.length ∧ t.2.1 = (t.1 : Int) - 1 ∧ ∃ gs Lm, gs.map gp = grpsF (fun a b => sameT a b small) xs t.1 ∧ Gr 44 68 t.2.2 gs Lm ∧ Sf [] w w' (Lm ++ []) [(_, .cells (vecF f ++ [Value.slice A xs.length c]).toArray 37 (0, 0))]) (fun t => t.1) (xs.length, IntKind.i64.wrap ((xs.length : Int) - 1), .slice none 0 0) rfl ⟨Nat.le_refl _, hw1, [], [], by rw [grpsF_end]; rfl, Gr.nil _ _, hS⟩ ?_
  rintro ⟨m, z, sl⟩ us w2 ⟨hm, hz, gs, Lm, hgs, hG, hS⟩
  simp only at hm hz hgs hG ⊢
  (conv => whnf)
  refine br_i (fun hb => ?_) (fun hb => ?_)
  · have hm0 : 0 < m := by have : (0 : Int) ≤ z := of_decide_eq_true hb; omega
    obtain ⟨i, rfl⟩ : ∃ i, m = i + 1 := ⟨m - 1, by omega⟩
    have hlt : i < xs.length := by omega
    obtain ⟨x, off, rfl⟩ := hR.form (flat_ne encX_len (by omega) hlt)
    obtain ⟨A2, c2, rfl, hG, hc2⟩ := hG.open
    have hbd := grpsF_bound (fun a b => sameT a b small) xs (xs.length - (i + 1)) (i + 1) (by omega)
    have hvl := grpsF_val (fun a b => sameT a b small) xs (xs.length - (i + 1)) (i + 1) (by omega)
    rw [← hgs] at hbd hvl
    have hgl : gs.length ≤ 1000 := by have := hbd.1; rw [List.length_map] at this; omega
    have hxi := hx xs[i] (List.getElem_mem hlt)
    obtain rfl : z = (i : Int) := by omega
    repeat ((conv => whnf); first | (refine nw_f hS ?_; intro b w1 hS) | (refine as_i hS ?_) | (refine as_i (hS.subs (List.nil_sublist _) (by repeat (first | exact List.Sublist.refl _ | apply List.Sublist.cons_cons | apply List.Sublist.cons))) ?_) | (refine bar_f hS ?_) | (refine ld_f hS 0 rfl rfl ?_) | (refine ldA_f hS 0 rfl rfl ?_) | (refine stN_f hS 0 rfl (Nat.le_of_ble_eq_true rfl) rfl rfl ?_; (conv => whnf); intro w1 hS) | (refine stM_f hS 0 rfl (Nat.le_of_ble_eq_true rfl) rfl ?_; (conv => whnf); intro w1 hS) | (refine drawf TB_ok rfl (by kernel_rfl) (by kernel_rfl) hS (List.Sublist.refl _) (List.Sublist.refl _) ?_; intro w1 hS) | (refine br_t (by assumption) ?_) | (refine br_f (by assumption) ?_) | (apply q_i; focus (intro w1 hS; (conv => whnf); first | exact ⟨rfl, rfl⟩ | ((refine ld_f hS 0 rfl rfl ?_); (conv => whnf); exact ⟨rfl, rfl⟩) | ((refine ldA_f hS 0 rfl rfl ?_); (conv => whnf); exact ⟨rfl, rfl⟩))))
    refine loop_i TB_ok (fun k : Nat => [(7, .int .i64 k)]) (fun k w' => k ≤ gs.length ∧ (∀ j (h : j < gs.length), j < k → sameT gs[j].v xs[i].v small = false) ∧ Sf [] w w' (Lm ++ []) [(_, .cells (vecF f ++ [Value.slice (some ⟨x, off, none⟩) xs.length c]).toArray 37 (0, 0))]) (fun k => gs.length - k) 0 rfl ⟨Nat.zero_le _, fun j h h2 => by omega, hS⟩ ?_
    rintro k us2 w3 ⟨hk, hno, hS⟩
    by_cases hkl : k < gs.length
    · have h1 : decide ((k : Int) < (gs.length : Int)) = true := decide_eq_true (by omega)
      obtain ⟨x2, o2, rfl⟩ := (hG.rd hS).form (flat_ne encG_len (by omega) hkl)
      obtain ⟨xk, hxk, hxv⟩ := hvl (gp gs[k]) (List.mem_map.2 ⟨_, List.getElem_mem hkl, rfl⟩)
      have hkv : gs[k].v.length ≤ 1000 := by have := hx xk hxk; rw [← hxv] at this; exact this
      have hkd : gs[k].ds.length ≤ 1000 := by have := hbd.2 (gp gs[k]) (List.mem_map.2 ⟨_, List.getElem_mem hkl, rfl⟩); have h3 : gs[k].ds.length ≤ xs.length - (i + 1) := this; omega
      obtain ⟨sb, hsb⟩ : ∃ sb, sameT gs[k].v xs[i].v small = sb := ⟨_, rfl⟩
      have hcall : ∀ w, Fc Tryd.prog 20 [.string (strY gs[k].v), .string (strY xs[i].v), .bool small] w fun v w' => v = .bool sb ∧ St [] w w' [] := fun w => by rw [← hsb]; exact same_c _ _ _ (by omega) (by omega) w
      cases sb with
      | false =>
        repeat ((conv => whnf); first | (refine nw_f hS ?_; intro b w1 hS) | (refine as_i hS ?_) | (refine as_i (hS.subs (List.nil_sublist _) (by repeat (first | exact List.Sublist.refl _ | apply List.Sublist.cons_cons | apply List.Sublist.cons))) ?_) | (refine bar_f hS ?_) | (refine ld_f hS 0 rfl rfl ?_) | (refine ldA_f hS 0 rfl rfl ?_) | (refine stN_f hS 0 rfl (Nat.le_of_ble_eq_true rfl) rfl rfl ?_; (conv => whnf); intro w1 hS) | (refine stM_f hS 0 rfl (Nat.le_of_ble_eq_true rfl) rfl ?_; (conv => whnf); intro w1 hS) | (refine br_t (by assumption) ?_) | (refine br_f (by assumption) ?_) | (apply q_i; focus (intro w1 hS; (conv => whnf); first | exact ⟨rfl, rfl⟩ | ((refine ld_f hS 0 rfl rfl ?_); (conv => whnf); exact ⟨rfl, rfl⟩) | ((refine ldA_f hS 0 rfl rfl ?_); (conv => whnf); exact ⟨rfl, rfl⟩))))
        refine drawf (Ls := [_]) TB_ok rfl (by kernel_rfl) (by kernel_rfl) hS (List.Sublist.refl _) (List.Sublist.refl _) ?_; intro w1 hS
        repeat ((conv => whnf); first | (refine nw_f hS ?_; intro b w1 hS) | (refine as_i hS ?_) | (refine as_i (hS.subs (List.nil_sublist _) (by repeat (first | exact List.Sublist.refl _ | apply List.Sublist.cons_cons | apply List.Sublist.cons))) ?_) | (refine bar_f hS ?_) | (refine ld_f hS 0 rfl rfl ?_) | (refine ldA_f hS 0 rfl rfl ?_) | (refine stN_f hS 0 rfl (Nat.le_of_ble_eq_true rfl) rfl rfl ?_; (conv => whnf); intro w1 hS) | (refine stM_f hS 0 rfl (Nat.le_of_ble_eq_true rfl) rfl ?_; (conv => whnf); intro w1 hS) | (refine .mk ⟨by omega, by omega⟩ ?_; refine ix_i rfl ?_) | (refine ld_el encG_len (hG.rd hS).at (i := k) (k := 0) hkl (by decide) rfl (v := .string (strY gs[k].v)) rfl ?_) | (refine ld_el encX_len (hR.below hS.nil).at (i := i) (k := 2) hlt (by decide) rfl (v := .string (strY xs[i].v)) rfl ?_) | (refine fc_m (hcall _) ?_; rintro v w5 ⟨rfl, hS'⟩; replace hS := hS.call0 hS') | (refine drawf TB_ok rfl (by kernel_rfl) (by kernel_rfl) hS (List.Sublist.refl _) (List.Sublist.refl _) ?_; intro w1 hS) | (refine br_t (by assumption) ?_) | (refine br_f (by assumption) ?_) | (apply q_i; focus (intro w1 hS; (conv => whnf); first | exact ⟨rfl, rfl⟩ | ((refine ld_f hS 0 rfl rfl ?_); (conv => whnf); exact ⟨rfl, rfl⟩) | ((refine ldA_f hS 0 rfl rfl ?_); (conv => whnf); exact ⟨rfl, rfl⟩) | ((refine .mk ⟨by omega, by omega⟩ ?_; refine ix_i rfl ?_); (conv => whnf); exact ⟨rfl, rfl⟩) | ((refine ld_el encG_len (hG.rd hS).at (i := k) (k := 0) hkl (by decide) rfl (v := .string (strY gs[k].v)) rfl ?_); (conv => whnf); exact ⟨rfl, rfl⟩) | ((refine ld_el encX_len (hR.below hS.nil).at (i := i) (k := 2) hlt (by decide) rfl (v := .string (strY xs[i].v)) rfl ?_); (conv => whnf); exact ⟨rfl, rfl⟩) | ((refine fc_m (hcall _) ?_; rintro v w5 ⟨rfl, hS'⟩; replace hS := hS.call0 hS'); (conv => whnf); exact ⟨rfl, rfl⟩))))
        refine ⟨rfl, k + 1, ?_, ⟨by omega, fun j h h2 => ?_, hS⟩, by omega⟩
        · rw [wi hkl (by omega)]
          rfl
        · by_cases e : j = k
          · subst e; exact hsb
          · exact hno j h (by omega)
      | true =>
        have hkk : k < gs.length := hkl
        have hke : ((k : Int) == (gs.length : Int)) = false := by simp; omega
        repeat ((conv => whnf); first | (refine nw_f hS ?_; intro b w1 hS) | (refine as_i hS ?_) | (refine as_i (hS.subs (List.nil_sublist _) (by repeat (first | exact List.Sublist.refl _ | apply List.Sublist.cons_cons | apply List.Sublist.cons))) ?_) | (refine bar_f hS ?_) | (refine ld_f hS 0 rfl rfl ?_) | (refine ldA_f hS 0 rfl rfl ?_) | (refine stN_f hS 0 rfl (Nat.le_of_ble_eq_true rfl) rfl rfl ?_; (conv => whnf); intro w1 hS) | (refine stM_f hS 0 rfl (Nat.le_of_ble_eq_true rfl) rfl ?_; (conv => whnf); intro w1 hS) | (refine br_t (by assumption) ?_) | (refine br_f (by assumption) ?_) | (apply q_i; focus (intro w1 hS; (conv => whnf); first | exact ⟨rfl, rfl⟩ | ((refine ld_f hS 0 rfl rfl ?_); (conv => whnf); exact ⟨rfl, rfl⟩) | ((refine ldA_f hS 0 rfl rfl ?_); (conv => whnf); exact ⟨rfl, rfl⟩))))
        refine drawf (Ls := [_]) TB_ok rfl (by kernel_rfl) (by kernel_rfl) hS (List.Sublist.refl _) (List.Sublist.refl _) ?_; intro w1 hS
        repeat ((conv => whnf); first | (refine nw_f hS ?_; intro b w1 hS) | (refine as_i hS ?_) | (refine as_i (hS.subs (List.nil_sublist _) (by repeat (first | exact List.Sublist.refl _ | apply List.Sublist.cons_cons | apply List.Sublist.cons))) ?_) | (refine bar_f hS ?_) | (refine ld_f hS 0 rfl rfl ?_) | (refine ldA_f hS 0 rfl rfl ?_) | (refine stN_f hS 0 rfl (Nat.le_of_ble_eq_true rfl) rfl rfl ?_; (conv => whnf); intro w1 hS) | (refine stM_f hS 0 rfl (Nat.le_of_ble_eq_true rfl) rfl ?_; (conv => whnf); intro w1 hS) | (refine .mk ⟨by omega, by omega⟩ ?_; refine ix_i rfl ?_) | (refine ld_el encG_len (hG.rd hS).at (i := k) (k := 0) hkl (by decide) rfl (v := .string (strY gs[k].v)) rfl ?_) | (refine ld_el encX_len (hR.below hS.nil).at (i := i) (k := 2) hlt (by decide) rfl (v := .string (strY xs[i].v)) rfl ?_) | (refine fc_m (hcall _) ?_; rintro v w5 ⟨rfl, hS'⟩; replace hS := hS.call0 hS') | (refine br_t (by assumption) ?_) | (refine br_f (by assumption) ?_) | (apply q_i; focus (intro w1 hS; (conv => whnf); first | exact ⟨rfl, rfl⟩ | ((refine ld_f hS 0 rfl rfl ?_); (conv => whnf); exact ⟨rfl, rfl⟩) | ((refine ldA_f hS 0 rfl rfl ?_); (conv => whnf); exact ⟨rfl, rfl⟩) | ((refine .mk ⟨by omega, by omega⟩ ?_; refine ix_i rfl ?_); (conv => whnf); exact ⟨rfl, rfl⟩) | ((refine ld_el encG_len (hG.rd hS).at (i := k) (k := 0) hkl (by decide) rfl (v := .string (strY gs[k].v)) rfl ?_); (conv => whnf); exact ⟨rfl, rfl⟩) | ((refine ld_el encX_len (hR.below hS.nil).at (i := i) (k := 2) hlt (by decide) rfl (v := .string (strY xs[i].v)) rfl ?_); (conv => whnf); exact ⟨rfl, rfl⟩) | ((refine fc_m (hcall _) ?_; rintro v w5 ⟨rfl, hS'⟩; replace hS := hS.call0 hS'); (conv => whnf); exact ⟨rfl, rfl⟩))))
        repeat ((conv => whnf); first | (refine nw_f hS ?_; intro b w1 hS) | (refine as_i hS ?_) | (refine as_i (hS.subs (List.nil_sublist _) (by repeat (first | exact List.Sublist.refl _ | apply List.Sublist.cons_cons | apply List.Sublist.cons))) ?_) | (refine bar_f hS ?_) | (refine ld_f hS 0 rfl rfl ?_) | (refine ldA_f hS 0 rfl rfl ?_) | (refine stN_f hS 0 rfl (Nat.le_of_ble_eq_true rfl) rfl rfl ?_; (conv => whnf); intro w1 hS) | (refine stM_f hS 0 rfl (Nat.le_of_ble_eq_true rfl) rfl ?_; (conv => whnf); intro w1 hS) | (refine br_t (by assumption) ?_) | (refine br_f (by assumption) ?_) | (apply q_i; focus (intro w1 hS; (conv => whnf); first | exact ⟨rfl, rfl⟩ | ((refine ld_f hS 0 rfl rfl ?_); (conv => whnf); exact ⟨rfl, rfl⟩) | ((refine ldA_f hS 0 rfl rfl ?_); (conv => whnf); exact ⟨rfl, rfl⟩))))
        refine drawf (Ls := [_]) TB_ok rfl (by kernel_rfl) (by kernel_rfl) hS (List.Sublist.refl _) (List.Sublist.refl _) ?_; intro w1 hS
        repeat ((conv => whnf); first | (refine nw_f hS ?_; intro b w1 hS) | (refine as_i hS ?_) | (refine as_i (hS.subs (List.nil_sublist _) (by repeat (first | exact List.Sublist.refl _ | apply List.Sublist.cons_cons | apply List.Sublist.cons))) ?_) | (refine bar_f hS ?_) | (refine ld_f hS 0 rfl rfl ?_) | (refine ld_f hS 1 rfl rfl ?_) | (refine ldA_f hS 0 rfl rfl ?_) | (refine ldA_f hS 1 rfl rfl ?_) | (refine stN_f hS 0 rfl (Nat.le_of_ble_eq_true rfl) rfl rfl ?_; (conv => whnf); intro w1 hS) | (refine stN_f hS 1 rfl (Nat.le_of_ble_eq_true rfl) rfl rfl ?_; (conv => whnf); intro w1 hS) | (refine stM_f hS 0 rfl (Nat.le_of_ble_eq_true rfl) rfl ?_; (conv => whnf); intro w1 hS) | (refine stM_f hS 1 rfl (Nat.le_of_ble_eq_true rfl) rfl ?_; (conv => whnf); intro w1 hS) | (refine as_i (hS.subs (List.Sublist.refl _) (.cons _ (.refl _))) ?_) | (refine .mk ⟨by omega, by omega⟩ ?_; refine ix_i rfl ?_) | (refine ld_el encG_len (hG.rd hS).at (i := k) (k := 1) hkk (by decide) rfl (v := .slice (gs)[k].A (gs)[k].ds.length (gs)[k].c) rfl ?_) | (refine ldN_elp encX_len (hR.below hS.nil).at (i := i) (j0 := 0) hlt rfl (Nat.le_of_ble_eq_true rfl) [.int .u8 xs[i].r, .int .u32 xs[i].n] rfl ?_) | (refine br_t (by assumption) ?_) | (refine br_f (by assumption) ?_) | (apply q_i; focus (intro w1 hS; (conv => whnf); first | exact ⟨rfl, rfl⟩ | ((refine ld_f hS 0 rfl rfl ?_); (conv => whnf); exact ⟨rfl, rfl⟩) | ((refine ld_f hS 1 rfl rfl ?_); (conv => whnf); exact ⟨rfl, rfl⟩) | ((refine ldA_f hS 0 rfl rfl ?_); (conv => whnf); exact ⟨rfl, rfl⟩) | ((refine ldA_f hS 1 rfl rfl ?_); (conv => whnf); exact ⟨rfl, rfl⟩) | ((refine as_i (hS.subs (List.Sublist.refl _) (.cons _ (.refl _))) ?_); (conv => whnf); exact ⟨rfl, rfl⟩) | ((refine .mk ⟨by omega, by omega⟩ ?_; refine ix_i rfl ?_); (conv => whnf); exact ⟨rfl, rfl⟩) | ((refine ld_el encG_len (hG.rd hS).at (i := k) (k := 1) hkk (by decide) rfl (v := .slice (gs)[k].A (gs)[k].ds.length (gs)[k].c) rfl ?_); (conv => whnf); exact ⟨rfl, rfl⟩) | ((refine ldN_elp encX_len (hR.below hS.nil).at (i := i) (j0 := 0) hlt rfl (Nat.le_of_ble_eq_true rfl) [.int .u8 xs[i].r, .int .u32 xs[i].n] rfl ?_); (conv => whnf); exact ⟨rfl, rfl⟩))))
        refine gr_dot TB_ok elRD hS hG hkk (show Rd _ _ (encD (xs[i].r, xs[i].n)) from hS.rd 0 rfl) (by omega) (by omega) ?_
        intro A3 c3 L3 Lm3 w6 hM hS
        repeat ((conv => whnf); first | (refine nw_f hS ?_; intro b w1 hS) | (refine as_i hS ?_) | (refine as_i (hS.subs (List.nil_sublist _) (by repeat (first | exact List.Sublist.refl _ | apply List.Sublist.cons_cons | apply List.Sublist.cons))) ?_) | (refine bar_f hS ?_) | (refine ld_f hS 0 rfl rfl ?_) | (refine ld_f hS 1 rfl rfl ?_) | (refine ldA_f hS 0 rfl rfl ?_) | (refine ldA_f hS 1 rfl rfl ?_) | (refine stN_f hS 0 rfl (Nat.le_of_ble_eq_true rfl) rfl rfl ?_; (conv => whnf); intro w1 hS) | (refine stN_f hS 1 rfl (Nat.le_of_ble_eq_true rfl) rfl rfl ?_; (conv => whnf); intro w1 hS) | (refine stM_f hS 0 rfl (Nat.le_of_ble_eq_true rfl) rfl ?_; (conv => whnf); intro w1 hS) | (refine stM_f hS 1 rfl (Nat.le_of_ble_eq_true rfl) rfl ?_; (conv => whnf); intro w1 hS) | (refine as_i (hS.subs (List.Sublist.refl _) (.cons _ (.refl _))) ?_) | (refine .mk ⟨by omega, by omega⟩ ?_; refine ix_i rfl ?_) | (refine gr_put hS hM hkk rfl (by show o2 + k * 2 + (0 + 1) = o2 + (2 * k + 1); omega) ?_; intro w7 Lm7 hG7 hS) | (refine br_t (by assumption) ?_) | (refine br_f (by assumption) ?_) | (apply q_i; focus (intro w1 hS; (conv => whnf); first | exact ⟨rfl, rfl⟩ | ((refine ld_f hS 0 rfl rfl ?_); (conv => whnf); exact ⟨rfl, rfl⟩) | ((refine ld_f hS 1 rfl rfl ?_); (conv => whnf); exact ⟨rfl, rfl⟩) | ((refine ldA_f hS 0 rfl rfl ?_); (conv => whnf); exact ⟨rfl, rfl⟩) | ((refine ldA_f hS 1 rfl rfl ?_); (conv => whnf); exact ⟨rfl, rfl⟩) | ((refine as_i (hS.subs (List.Sublist.refl _) (.cons _ (.refl _))) ?_); (conv => whnf); exact ⟨rfl, rfl⟩) | ((refine .mk ⟨by omega, by omega⟩ ?_; refine ix_i rfl ?_); (conv => whnf); exact ⟨rfl, rfl⟩) | ((refine gr_put hS hM hkk rfl (by show o2 + k * 2 + (0 + 1) = o2 + (2 * k + 1); omega) ?_; intro w7 Lm7 hG7 hS); (conv => whnf); exact ⟨rfl, rfl⟩))))
        have hw2 : IntKind.i64.wrap ((i : Int) - 1) = (i : Int) - 1 := wrap_i64 (by omega) (by omega)
        have hgn : (gs.set k ⟨gs[k].v, gs[k].ds ++ [(xs[i].r, xs[i].n)], A3, c3, L3⟩).map gp = grpsF (fun a b => sameT a b small) xs i := by
          rw [grpsF_next _ xs hlt, ← hgs, stepG_hit hkk hno hsb, map_gp_set]
        repeat ((conv => whnf); first | (refine nw_f hS ?_; intro b w1 hS) | (refine as_i hS ?_) | (refine as_i (hS.subs (List.nil_sublist _) (by repeat (first | exact List.Sublist.refl _ | apply List.Sublist.cons_cons | apply List.Sublist.cons))) ?_) | (refine bar_f hS ?_) | (refine ld_f hS 0 rfl rfl ?_) | (refine ld_f hS 1 rfl rfl ?_) | (refine ldA_f hS 0 rfl rfl ?_) | (refine ldA_f hS 1 rfl rfl ?_) | (refine stN_f hS 0 rfl (Nat.le_of_ble_eq_true rfl) rfl rfl ?_; (conv => whnf); intro w1 hS) | (refine stN_f hS 1 rfl (Nat.le_of_ble_eq_true rfl) rfl rfl ?_; (conv => whnf); intro w1 hS) | (refine stM_f hS 0 rfl (Nat.le_of_ble_eq_true rfl) rfl ?_; (conv => whnf); intro w1 hS) | (refine stM_f hS 1 rfl (Nat.le_of_ble_eq_true rfl) rfl ?_; (conv => whnf); intro w1 hS) | (refine drawf TB_ok rfl (by kernel_rfl) (by kernel_rfl) hS (List.Sublist.refl _) (List.Sublist.refl _) ?_; intro w1 hS) | (refine br_t (by assumption) ?_) | (refine br_f (by assumption) ?_) | (apply q_i; focus (intro w1 hS; (conv => whnf); first | exact ⟨rfl, rfl⟩ | ((refine ld_f hS 0 rfl rfl ?_); (conv => whnf); exact ⟨rfl, rfl⟩) | ((refine ld_f hS 1 rfl rfl ?_); (conv => whnf); exact ⟨rfl, rfl⟩) | ((refine ldA_f hS 0 rfl rfl ?_); (conv => whnf); exact ⟨rfl, rfl⟩) | ((refine ldA_f hS 1 rfl rfl ?_); (conv => whnf); exact ⟨rfl, rfl⟩))))
        refine ⟨rfl, (i, IntKind.i64.wrap ((i : Int) - 1), .slice (some ⟨x2, o2, none⟩) gs.length c2), rfl, ⟨by show i ≤ _; omega, hw2, _, Lm7, hgn, hG7, hS.subs (List.Sublist.refl _) (.cons _ (.refl _))⟩, by show i < i + 1; omega⟩
    · have hke : k = gs.length := by omega
      have h1 : decide ((k : Int) < (gs.length : Int)) = false := decide_eq_false (by omega)
      have h2 : ((k : Int) == (gs.length : Int)) = true := by simp; omega
      repeat ((conv => whnf); first | (refine nw_f hS ?_; intro b w1 hS) | (refine as_i hS ?_) | (refine as_i (hS.subs (List.nil_sublist _) (by repeat (first | exact List.Sublist.refl _ | apply List.Sublist.cons_cons | apply List.Sublist.cons))) ?_) | (refine bar_f hS ?_) | (refine ld_f hS 0 rfl rfl ?_) | (refine ldA_f hS 0 rfl rfl ?_) | (refine stN_f hS 0 rfl (Nat.le_of_ble_eq_true rfl) rfl rfl ?_; (conv => whnf); intro w1 hS) | (refine stM_f hS 0 rfl (Nat.le_of_ble_eq_true rfl) rfl ?_; (conv => whnf); intro w1 hS) | (refine br_t (by assumption) ?_) | (refine br_f (by assumption) ?_) | (apply q_i; focus (intro w1 hS; (conv => whnf); first | exact ⟨rfl, rfl⟩ | ((refine ld_f hS 0 rfl rfl ?_); (conv => whnf); exact ⟨rfl, rfl⟩) | ((refine ldA_f hS 0 rfl rfl ?_); (conv => whnf); exact ⟨rfl, rfl⟩))))
      refine drawf (Ls := [_]) TB_ok rfl (by kernel_rfl) (by kernel_rfl) hS (List.Sublist.refl _) (List.Sublist.refl _) ?_; intro w1 hS
      repeat ((conv => whnf); first | (refine nw_f hS ?_; intro b w1 hS) | (refine as_i hS ?_) | (refine as_i (hS.subs (List.nil_sublist _) (by repeat (first | exact List.Sublist.refl _ | apply List.Sublist.cons_cons | apply List.Sublist.cons))) ?_) | (refine bar_f hS ?_) | (refine ld_f hS 0 rfl rfl ?_) | (refine ldA_f hS 0 rfl rfl ?_) | (refine stN_f hS 0 rfl (Nat.le_of_ble_eq_true rfl) rfl rfl ?_; (conv => whnf); intro w1 hS) | (refine stM_f hS 0 rfl (Nat.le_of_ble_eq_true rfl) rfl ?_; (conv => whnf); intro w1 hS) | (refine .mk ⟨by omega, by omega⟩ ?_; refine ix_i rfl ?_) | (refine ld_el encX_len (hR.below hS.nil).at (i := i) (k := 2) hlt (by decide) rfl (v := .string (strY xs[i].v)) rfl ?_) | (refine br_t (by assumption) ?_) | (refine br_f (by assumption) ?_) | (apply q_i; focus (intro w1 hS; (conv => whnf); first | exact ⟨rfl, rfl⟩ | ((refine ld_f hS 0 rfl rfl ?_); (conv => whnf); exact ⟨rfl, rfl⟩) | ((refine ldA_f hS 0 rfl rfl ?_); (conv => whnf); exact ⟨rfl, rfl⟩) | ((refine .mk ⟨by omega, by omega⟩ ?_; refine ix_i rfl ?_); (conv => whnf); exact ⟨rfl, rfl⟩) | ((refine ld_el encX_len (hR.below hS.nil).at (i := i) (k := 2) hlt (by decide) rfl (v := .string (strY xs[i].v)) rfl ?_); (conv => whnf); exact ⟨rfl, rfl⟩))))
      refine gr_new TB_ok elRG hS hG (show Rd _ _ (encG ⟨xs[i].v, [], none, 0, []⟩) from hS.rd 0 rfl) (by omega) (by omega) ?_
      intro v' Lm1 w5 hG1 hS
      generalize hg1 : gs ++ [(⟨xs[i].v, [], none, 0, []⟩ : Gx)] = gs1 at hG1
      have hl1 : gs1.length = gs.length + 1 := by rw [← hg1]; simp
      have hkk : k < gs1.length := by omega
      have hkd : gs1[k].ds.length ≤ 0 := by subst hg1; subst hke; simp
      obtain ⟨A4, c4, rfl, hG1, hc4⟩ := hG1.open
      obtain ⟨x2, o2, rfl⟩ := (hG1.rd hS).form (flat_ne encG_len (by omega) hkk)
      replace hS := hS.subs (List.Sublist.refl _) (.cons _ (.refl _))
      repeat ((conv => whnf); first | (refine nw_f hS ?_; intro b w1 hS) | (refine as_i hS ?_) | (refine as_i (hS.subs (List.nil_sublist _) (by repeat (first | exact List.Sublist.refl _ | apply List.Sublist.cons_cons | apply List.Sublist.cons))) ?_) | (refine bar_f hS ?_) | (refine ld_f hS 0 rfl rfl ?_) | (refine ldA_f hS 0 rfl rfl ?_) | (refine stN_f hS 0 rfl (Nat.le_of_ble_eq_true rfl) rfl rfl ?_; (conv => whnf); intro w1 hS) | (refine stM_f hS 0 rfl (Nat.le_of_ble_eq_true rfl) rfl ?_; (conv => whnf); intro w1 hS) | (refine br_t (by assumption) ?_) | (refine br_f (by assumption) ?_) | (apply q_i; focus (intro w1 hS; (conv => whnf); first | exact ⟨rfl, rfl⟩ | ((refine ld_f hS 0 rfl rfl ?_); (conv => whnf); exact ⟨rfl, rfl⟩) | ((refine ldA_f hS 0 rfl rfl ?_); (conv => whnf); exact ⟨rfl, rfl⟩))))
      refine drawf (Ls := [_]) TB_ok rfl (by kernel_rfl) (by kernel_rfl) hS (List.Sublist.refl _) (List.Sublist.refl _) ?_; intro w1 hS
      repeat ((conv => whnf); first | (refine nw_f hS ?_; intro b w1 hS) | (refine as_i hS ?_) | (refine as_i (hS.subs (List.nil_sublist _) (by repeat (first | exact List.Sublist.refl _ | apply List.Sublist.cons_cons | apply List.Sublist.cons))) ?_) | (refine bar_f hS ?_) | (refine ld_f hS 0 rfl rfl ?_) | (refine ld_f hS 1 rfl rfl ?_) | (refine ldA_f hS 0 rfl rfl ?_) | (refine ldA_f hS 1 rfl rfl ?_) | (refine stN_f hS 0 rfl (Nat.le_of_ble_eq_true rfl) rfl rfl ?_; (conv => whnf); intro w1 hS) | (refine stN_f hS 1 rfl (Nat.le_of_ble_eq_true rfl) rfl rfl ?_; (conv => whnf); intro w1 hS) | (refine stM_f hS 0 rfl (Nat.le_of_ble_eq_true rfl) rfl ?_; (conv => whnf); intro w1 hS) | (refine stM_f hS 1 rfl (Nat.le_of_ble_eq_true rfl) rfl ?_; (conv => whnf); intro w1 hS) | (refine as_i (hS.subs (List.Sublist.refl _) (.cons _ (.refl _))) ?_) | (refine .mk ⟨by omega, by omega⟩ ?_; refine ix_i rfl ?_) | (refine ld_el encG_len (hG1.rd hS).at (i := k) (k := 1) hkk (by decide) rfl (v := .slice gs1[k].A gs1[k].ds.length gs1[k].c) rfl ?_) | (refine ldN_elp encX_len (hR.below hS.nil).at (i := i) (j0 := 0) hlt rfl (Nat.le_of_ble_eq_true rfl) [.int .u8 xs[i].r, .int .u32 xs[i].n] rfl ?_) | (refine br_t (by assumption) ?_) | (refine br_f (by assumption) ?_) | (apply q_i; focus (intro w1 hS; (conv => whnf); first | exact ⟨rfl, rfl⟩ | ((refine ld_f hS 0 rfl rfl ?_); (conv => whnf); exact ⟨rfl, rfl⟩) | ((refine ld_f hS 1 rfl rfl ?_); (conv => whnf); exact ⟨rfl, rfl⟩) | ((refine ldA_f hS 0 rfl rfl ?_); (conv => whnf); exact ⟨rfl, rfl⟩) | ((refine ldA_f hS 1 rfl rfl ?_); (conv => whnf); exact ⟨rfl, rfl⟩) | ((refine as_i (hS.subs (List.Sublist.refl _) (.cons _ (.refl _))) ?_); (conv => whnf); exact ⟨rfl, rfl⟩) | ((refine .mk ⟨by omega, by omega⟩ ?_; refine ix_i rfl ?_); (conv => whnf); exact ⟨rfl, rfl⟩) | ((refine ld_el encG_len (hG1.rd hS).at (i := k) (k := 1) hkk (by decide) rfl (v := .slice gs1[k].A gs1[k].ds.length gs1[k].c) rfl ?_); (conv => whnf); exact ⟨rfl, rfl⟩) | ((refine ldN_elp encX_len (hR.below hS.nil).at (i := i) (j0 := 0) hlt rfl (Nat.le_of_ble_eq_true rfl) [.int .u8 xs[i].r, .int .u32 xs[i].n] rfl ?_); (conv => whnf); exact ⟨rfl, rfl⟩))))
      refine gr_dot TB_ok elRD hS hG1 hkk (show Rd _ _ (encD (xs[i].r, xs[i].n)) from hS.rd 0 rfl) (by omega) (by omega) ?_
      intro A3 c3 L3 Lm3 w6 hM hS
      repeat ((conv => whnf); first | (refine nw_f hS ?_; intro b w1 hS) | (refine as_i hS ?_) | (refine as_i (hS.subs (List.nil_sublist _) (by repeat (first | exact List.Sublist.refl _ | apply List.Sublist.cons_cons | apply List.Sublist.cons))) ?_) | (refine bar_f hS ?_) | (refine ld_f hS 0 rfl rfl ?_) | (refine ld_f hS 1 rfl rfl ?_) | (refine ldA_f hS 0 rfl rfl ?_) | (refine ldA_f hS 1 rfl rfl ?_) | (refine stN_f hS 0 rfl (Nat.le_of_ble_eq_true rfl) rfl rfl ?_; (conv => whnf); intro w1 hS) | (refine stN_f hS 1 rfl (Nat.le_of_ble_eq_true rfl) rfl rfl ?_; (conv => whnf); intro w1 hS) | (refine stM_f hS 0 rfl (Nat.le_of_ble_eq_true rfl) rfl ?_; (conv => whnf); intro w1 hS) | (refine stM_f hS 1 rfl (Nat.le_of_ble_eq_true rfl) rfl ?_; (conv => whnf); intro w1 hS) | (refine as_i (hS.subs (List.Sublist.refl _) (.cons _ (.refl _))) ?_) | (refine .mk ⟨by omega, by omega⟩ ?_; refine ix_i rfl ?_) | (refine gr_put hS hM hkk rfl (by show o2 + k * 2 + (0 + 1) = o2 + (2 * k + 1); omega) ?_; intro w7 Lm7 hG7 hS) | (refine br_t (by assumption) ?_) | (refine br_f (by assumption) ?_) | (apply q_i; focus (intro w1 hS; (conv => whnf); first | exact ⟨rfl, rfl⟩ | ((refine ld_f hS 0 rfl rfl ?_); (conv => whnf); exact ⟨rfl, rfl⟩) | ((refine ld_f hS 1 rfl rfl ?_); (conv => whnf); exact ⟨rfl, rfl⟩) | ((refine ldA_f hS 0 rfl rfl ?_); (conv => whnf); exact ⟨rfl, rfl⟩) | ((refine ldA_f hS 1 rfl rfl ?_); (conv => whnf); exact ⟨rfl, rfl⟩) | ((refine as_i (hS.subs (List.Sublist.refl _) (.cons _ (.refl _))) ?_); (conv => whnf); exact ⟨rfl, rfl⟩) | ((refine .mk ⟨by omega, by omega⟩ ?_; refine ix_i rfl ?_); (conv => whnf); exact ⟨rfl, rfl⟩) | ((refine gr_put hS hM hkk rfl (by show o2 + k * 2 + (0 + 1) = o2 + (2 * k + 1); omega) ?_; intro w7 Lm7 hG7 hS); (conv => whnf); exact ⟨rfl, rfl⟩))))
      have hw2 : IntKind.i64.wrap ((i : Int) - 1) = (i : Int) - 1 := wrap_i64 (by omega) (by omega)
      have hgn : (gs1.set k ⟨gs1[k].v, gs1[k].ds ++ [(xs[i].r, xs[i].n)], A3, c3, L3⟩).map gp = grpsF (fun a b => sameT a b small) xs i := by
        rw [grpsF_next _ xs hlt, ← hgs, stepG_miss (fun j h => hno j h (by omega)), map_gp_set hkk, ← hg1, List.map_append, hke, ← List.length_map (f := gp)]
        exact modify_last _ _ _
      repeat ((conv => whnf); first | (refine nw_f hS ?_; intro b w1 hS) | (refine as_i hS ?_) | (refine as_i (hS.subs (List.nil_sublist _) (by repeat (first | exact List.Sublist.refl _ | apply List.Sublist.cons_cons | apply List.Sublist.cons))) ?_) | (refine bar_f hS ?_) | (refine ld_f hS 0 rfl rfl ?_) | (refine ld_f hS 1 rfl rfl ?_) | (refine ldA_f hS 0 rfl rfl ?_) | (refine ldA_f hS 1 rfl rfl ?_) | (refine stN_f hS 0 rfl (Nat.le_of_ble_eq_true rfl) rfl rfl ?_; (conv => whnf); intro w1 hS) | (refine stN_f hS 1 rfl (Nat.le_of_ble_eq_true rfl) rfl rfl ?_; (conv => whnf); intro w1 hS) | (refine stM_f hS 0 rfl (Nat.le_of_ble_eq_true rfl) rfl ?_; (conv => whnf); intro w1 hS) | (refine stM_f hS 1 rfl (Nat.le_of_ble_eq_true rfl) rfl ?_; (conv => whnf); intro w1 hS) | (refine drawf TB_ok rfl (by kernel_rfl) (by kernel_rfl) hS (List.Sublist.refl _) (List.Sublist.refl _) ?_; intro w1 hS) | (refine br_t (by assumption) ?_) | (refine br_f (by assumption) ?_) | (apply q_i; focus (intro w1 hS; (conv => whnf); first | exact ⟨rfl, rfl⟩ | ((refine ld_f hS 0 rfl rfl ?_); (conv => whnf); exact ⟨rfl, rfl⟩) | ((refine ld_f hS 1 rfl rfl ?_); (conv => whnf); exact ⟨rfl, rfl⟩) | ((refine ldA_f hS 0 rfl rfl ?_); (conv => whnf); exact ⟨rfl, rfl⟩) | ((refine ldA_f hS 1 rfl rfl ?_); (conv => whnf); exact ⟨rfl, rfl⟩))))
      refine ⟨rfl, (i, IntKind.i64.wrap ((i : Int) - 1), .slice (some ⟨x2, o2, none⟩) gs1.length c4), rfl, ⟨by show i ≤ _; omega, hw2, _, Lm7, hgn, hG7, hS.subs (List.Sublist.refl _) (.cons _ (.refl _))⟩, by show i < i + 1; omega⟩
  · have hm0 : m = 0 := by have : ¬ (0 : Int) ≤ z := of_decide_eq_false hb; omega
    subst hm0
    repeat ((conv => whnf); first | (refine nw_f hS ?_; intro b w1 hS) | (refine as_i hS ?_) | (refine as_i (hS.subs (List.nil_sublist _) (by repeat (first | exact List.Sublist.refl _ | apply List.Sublist.cons_cons | apply List.Sublist.cons))) ?_) | (refine bar_f hS ?_) | (refine ld_f hS 0 rfl rfl ?_) | (refine ldA_f hS 0 rfl rfl ?_) | (refine stN_f hS 0 rfl (Nat.le_of_ble_eq_true rfl) rfl rfl ?_; (conv => whnf); intro w1 hS) | (refine stM_f hS 0 rfl (Nat.le_of_ble_eq_true rfl) rfl ?_; (conv => whnf); intro w1 hS) | (refine drawf TB_ok rfl (by kernel_rfl) (by kernel_rfl) hS (List.Sublist.refl _) (List.Sublist.refl _) ?_; intro w1 hS) | (refine br_t (by assumption) ?_) | (refine br_f (by assumption) ?_) | (apply q_i; focus (intro w1 hS; (conv => whnf); first | exact ⟨rfl, rfl⟩ | ((refine ld_f hS 0 rfl rfl ?_); (conv => whnf); exact ⟨rfl, rfl⟩) | ((refine ldA_f hS 0 rfl rfl ?_); (conv => whnf); exact ⟨rfl, rfl⟩))))
    exact ⟨gs, Lm, hgs, hG, by simpa using hS.fr (List.Sublist.refl _)⟩
end Go.RV
