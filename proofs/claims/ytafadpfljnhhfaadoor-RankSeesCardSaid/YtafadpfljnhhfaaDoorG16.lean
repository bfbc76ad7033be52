/- The laws of chapter 8, walked: RankSees. Conditions: none. -/
import Derived.Test.YtafadpfljnhhfaaDoorG15
set_option maxRecDepth 20000
set_option linter.unusedVariables false
set_option linter.unusedSimpArgs false
namespace Go.RV
open Go Go.Proofs

theorem low_slash {c : UInt8} (h : low c = 47) : c = 47 := by
  unfold low at h
  split at h
  · rename_i hc
    have h1 := congrArg UInt8.toNat h
    rw [UInt8.toNat_add] at h1
    have h2 : (32 : UInt8).toNat = 32 := rfl
    have h3 : (47 : UInt8).toNat = 47 := rfl
    omega
  · exact h
theorem map_slash {a : List UInt8} (h : a.map low = [47]) : a = [47] := by
  cases a with
  | nil => cases h
  | cons c r =>
    rw [List.map_cons, List.cons.injEq, List.map_eq_nil_iff] at h
    rw [low_slash h.1, h.2]
theorem low47 : ([47] : List UInt8).map low = [47] := by decide
theorem alike_same (small : Bool) : (alikeB fun a b => sameT a b small) = fun a b => sameT a b small := by
  funext a b
  unfold alikeB dirB sameT
  by_cases ha : a = [47] <;> by_cases hb : b = [47]
  · subst ha; subst hb; simp
  · subst ha
    have h1 : decide (([47] : List UInt8).map low = b.map low) = false := decide_eq_false fun h => hb (map_slash (by rw [← h, low47]))
    have h2 : decide ([47] = b) = false := decide_eq_false fun h => hb h.symm
    have h3 : decide (b = [47]) = false := decide_eq_false hb
    rw [h1, h2, h3]
    simp
  · subst hb
    have h1 : decide (a.map low = ([47] : List UInt8).map low) = false := decide_eq_false fun h => ha (map_slash (by rw [h, low47]))
    have h2 : decide (a = [47]) = false := decide_eq_false ha
    rw [h1, h2]
    simp
  · rw [decide_eq_false ha, decide_eq_false hb]
    simp
theorem seen_dots {name : List UInt8} {gs : List Gp} {n : Nat} (h : ∀ g ∈ gs, g.2.length ≤ n) : ∀ x ∈ seenP name gs, x.2.2.2.2.length ≤ n := by
  have hf : ∀ x ∈ filesP name gs, x.2.2.2.2.length ≤ n := fun x hx => by
    obtain ⟨g, hg, rfl⟩ := List.mem_map.1 hx
    exact h g (List.mem_filter.1 hg).1
  have hd : ∀ x ∈ dirsP name gs, x.2.2.2.2.length ≤ n := fun x hx => by
    obtain ⟨g, hg, rfl⟩ := List.mem_map.1 hx
    exact h g (List.mem_filter.1 hg).1
  unfold seenP
  split
  · intro x hx
    generalize filesP name gs = l at hf hx
    cases l with
    | nil => cases hx
    | cons y l =>
      rcases List.mem_cons.1 hx with rfl | hx
      · exact hf y (by simp)
      · exact hf x (by simp [hx])
  · intro x hx
    rcases List.mem_append.1 hx with hx | hx
    · exact hd x hx
    · exact hf x hx
theorem seenP_len (name : List UInt8) (gs : List Gp) : (seenP name gs).length ≤ gs.length + gs.length := by
  have h1 : (dirsP name gs).length ≤ gs.length := by unfold dirsP; rw [List.length_map]; exact List.length_filter_le _ _
  have h2 : (filesP name gs).length ≤ gs.length := by unfold filesP; rw [List.length_map]; exact List.length_filter_le _ _
  have h3 : (firstP name (filesP name gs)).length = (filesP name gs).length := by cases filesP name gs <;> rfl
  unfold seenP
  split
  · omega
  · rw [List.length_append]; omega
set_option maxHeartbeats 2000000 in
theorem rankSees_c (f : Nat → Int) (A : Option Addr) (c : Nat) (xs : List Sx) (name : List UInt8) (small : Bool) (w : World) (hR : Rd w A (flat encX xs)) (hn : xs.length ≤ 9223372036854775807) (hnm : name.length ≤ 9223372036854775807)
    (hrn : ∀ x ∈ xs, (0 ≤ x.r ∧ x.r ≤ 255) ∧ 0 ≤ x.n ∧ x.n ≤ 4294967295) (ht : Lib.TabIs Tryd.prog w "internal/strconv.uint64pow10" .u64 Lib.pow10Tab) :
    Fc Tryd.prog 4 [regV f A xs.length c, .string (strY name), .bool small] w fun v w' => v = .bool true ∧ St [] w w' [] := by
  refine fc_i TB_ok Tryd.func4 rfl (by kernel_rfl) ?_
  have hS := Sf.refl w
  have hfew := fun w h => few_c f A c xs w (h : Rd w A (flat encX xs)) hn
  have hz := strY_size name
  cases hf : fewB xs with
  | false =>
    rw [hf] at hfew
    repeat ((conv => whnf); first | (refine nw_f hS ?_; intro b w1 hS) | (refine as_i hS ?_) | (refine as_i (hS.subs (List.nil_sublist _) (by repeat (first | exact List.Sublist.refl _ | apply List.Sublist.cons_cons | apply List.Sublist.cons))) ?_) | (refine bar_f hS ?_) | (refine ld_f hS 0 rfl rfl ?_) | (refine ldA_f hS 0 rfl rfl ?_) | (refine stN_f hS 0 rfl (Nat.le_of_ble_eq_true rfl) rfl rfl ?_; (conv => whnf); intro w1 hS) | (refine stM_f hS 0 rfl (Nat.le_of_ble_eq_true rfl) rfl ?_; (conv => whnf); intro w1 hS) | (refine drawf TB_ok rfl (by kernel_rfl) (by kernel_rfl) hS (List.Sublist.refl _) (List.Sublist.refl _) ?_; intro w1 hS) | (refine br_t (by assumption) ?_) | (refine br_f (by assumption) ?_) | (apply q_i; focus (intro w1 hS; (conv => whnf); first | exact ⟨rfl, rfl⟩ | ((refine ld_f hS 0 rfl rfl ?_); (conv => whnf); exact ⟨rfl, rfl⟩) | ((refine ldA_f hS 0 rfl rfl ?_); (conv => whnf); exact ⟨rfl, rfl⟩))))
    refine fc_m (hfew _ (hR.below hS.nil)) ?_; rintro v w1 ⟨rfl, hS'⟩; replace hS := hS.call0 hS'
    repeat ((conv => whnf); first | (refine nw_f hS ?_; intro b w1 hS) | (refine as_i hS ?_) | (refine as_i (hS.subs (List.nil_sublist _) (by repeat (first | exact List.Sublist.refl _ | apply List.Sublist.cons_cons | apply List.Sublist.cons))) ?_) | (refine bar_f hS ?_) | (refine ld_f hS 0 rfl rfl ?_) | (refine ldA_f hS 0 rfl rfl ?_) | (refine stN_f hS 0 rfl (Nat.le_of_ble_eq_true rfl) rfl rfl ?_; (conv => whnf); intro w1 hS) | (refine stM_f hS 0 rfl (Nat.le_of_ble_eq_true rfl) rfl ?_; (conv => whnf); intro w1 hS) | (refine drawf TB_ok rfl (by kernel_rfl) (by kernel_rfl) hS (List.Sublist.refl _) (List.Sublist.refl _) ?_; intro w1 hS) | (refine br_t (by assumption) ?_) | (refine br_f (by assumption) ?_) | (apply q_i; focus (intro w1 hS; (conv => whnf); first | exact ⟨rfl, rfl⟩ | ((refine ld_f hS 0 rfl rfl ?_); (conv => whnf); exact ⟨rfl, rfl⟩) | ((refine ldA_f hS 0 rfl rfl ?_); (conv => whnf); exact ⟨rfl, rfl⟩))))
    refine fc_m (works_c _) ?_; rintro v w1 ⟨rfl, hS'⟩; replace hS := hS.call0 hS'
    repeat ((conv => whnf); first | (refine nw_f hS ?_; intro b w1 hS) | (refine as_i hS ?_) | (refine as_i (hS.subs (List.nil_sublist _) (by repeat (first | exact List.Sublist.refl _ | apply List.Sublist.cons_cons | apply List.Sublist.cons))) ?_) | (refine bar_f hS ?_) | (refine ld_f hS 0 rfl rfl ?_) | (refine ldA_f hS 0 rfl rfl ?_) | (refine stN_f hS 0 rfl (Nat.le_of_ble_eq_true rfl) rfl rfl ?_; (conv => whnf); intro w1 hS) | (refine stM_f hS 0 rfl (Nat.le_of_ble_eq_true rfl) rfl ?_; (conv => whnf); intro w1 hS) | (refine drawf TB_ok rfl (by kernel_rfl) (by kernel_rfl) hS (List.Sublist.refl _) (List.Sublist.refl _) ?_; intro w1 hS) | (refine br_t (by assumption) ?_) | (refine br_f (by assumption) ?_) | (apply q_i; focus (intro w1 hS; (conv => whnf); first | exact ⟨rfl, rfl⟩ | ((refine ld_f hS 0 rfl rfl ?_); (conv => whnf); exact ⟨rfl, rfl⟩) | ((refine ldA_f hS 0 rfl rfl ?_); (conv => whnf); exact ⟨rfl, rfl⟩))))
    exact ⟨rfl, hS.nil⟩
  | true =>
    rw [hf] at hfew
    obtain ⟨h30, h100⟩ := fewB_ok hf
    by_cases hl : 100 < name.length
    · have g : decide ((100 : Int) < ((strY name).size : Int)) = true := decide_eq_true (by omega)
      repeat ((conv => whnf); first | (refine nw_f hS ?_; intro b w1 hS) | (refine as_i hS ?_) | (refine as_i (hS.subs (List.nil_sublist _) (by repeat (first | exact List.Sublist.refl _ | apply List.Sublist.cons_cons | apply List.Sublist.cons))) ?_) | (refine bar_f hS ?_) | (refine ld_f hS 0 rfl rfl ?_) | (refine ldA_f hS 0 rfl rfl ?_) | (refine stN_f hS 0 rfl (Nat.le_of_ble_eq_true rfl) rfl rfl ?_; (conv => whnf); intro w1 hS) | (refine stM_f hS 0 rfl (Nat.le_of_ble_eq_true rfl) rfl ?_; (conv => whnf); intro w1 hS) | (refine drawf TB_ok rfl (by kernel_rfl) (by kernel_rfl) hS (List.Sublist.refl _) (List.Sublist.refl _) ?_; intro w1 hS) | (refine br_t (by assumption) ?_) | (refine br_f (by assumption) ?_) | (apply q_i; focus (intro w1 hS; (conv => whnf); first | exact ⟨rfl, rfl⟩ | ((refine ld_f hS 0 rfl rfl ?_); (conv => whnf); exact ⟨rfl, rfl⟩) | ((refine ldA_f hS 0 rfl rfl ?_); (conv => whnf); exact ⟨rfl, rfl⟩))))
      refine fc_m (hfew _ (hR.below hS.nil)) ?_; rintro v w1 ⟨rfl, hS'⟩; replace hS := hS.call0 hS'
      repeat ((conv => whnf); first | (refine nw_f hS ?_; intro b w1 hS) | (refine as_i hS ?_) | (refine as_i (hS.subs (List.nil_sublist _) (by repeat (first | exact List.Sublist.refl _ | apply List.Sublist.cons_cons | apply List.Sublist.cons))) ?_) | (refine bar_f hS ?_) | (refine ld_f hS 0 rfl rfl ?_) | (refine ldA_f hS 0 rfl rfl ?_) | (refine stN_f hS 0 rfl (Nat.le_of_ble_eq_true rfl) rfl rfl ?_; (conv => whnf); intro w1 hS) | (refine stM_f hS 0 rfl (Nat.le_of_ble_eq_true rfl) rfl ?_; (conv => whnf); intro w1 hS) | (refine drawf TB_ok rfl (by kernel_rfl) (by kernel_rfl) hS (List.Sublist.refl _) (List.Sublist.refl _) ?_; intro w1 hS) | (refine br_t (by assumption) ?_) | (refine br_f (by assumption) ?_) | (apply q_i; focus (intro w1 hS; (conv => whnf); first | exact ⟨rfl, rfl⟩ | ((refine ld_f hS 0 rfl rfl ?_); (conv => whnf); exact ⟨rfl, rfl⟩) | ((refine ldA_f hS 0 rfl rfl ?_); (conv => whnf); exact ⟨rfl, rfl⟩))))
      refine fc_m (works_c _) ?_; rintro v w1 ⟨rfl, hS'⟩; replace hS := hS.call0 hS'
      repeat ((conv => whnf); first | (refine nw_f hS ?_; intro b w1 hS) | (refine as_i hS ?_) | (refine as_i (hS.subs (List.nil_sublist _) (by repeat (first | exact List.Sublist.refl _ | apply List.Sublist.cons_cons | apply List.Sublist.cons))) ?_) | (refine bar_f hS ?_) | (refine ld_f hS 0 rfl rfl ?_) | (refine ldA_f hS 0 rfl rfl ?_) | (refine stN_f hS 0 rfl (Nat.le_of_ble_eq_true rfl) rfl rfl ?_; (conv => whnf); intro w1 hS) | (refine stM_f hS 0 rfl (Nat.le_of_ble_eq_true rfl) rfl ?_; (conv => whnf); intro w1 hS) | (refine drawf TB_ok rfl (by kernel_rfl) (by kernel_rfl) hS (List.Sublist.refl _) (List.Sublist.refl _) ?_; intro w1 hS) | (refine br_t (by assumption) ?_) | (refine br_f (by assumption) ?_) | (apply q_i; focus (intro w1 hS; (conv => whnf); first | exact ⟨rfl, rfl⟩ | ((refine ld_f hS 0 rfl rfl ?_); (conv => whnf); exact ⟨rfl, rfl⟩) | ((refine ldA_f hS 0 rfl rfl ?_); (conv => whnf); exact ⟨rfl, rfl⟩))))
      exact ⟨rfl, hS.nil⟩
    · have g : decide ((100 : Int) < ((strY name).size : Int)) = false := decide_eq_false (by omega)
      have hD : ∀ x ∈ xs, rightB x.r x.n = true → Digs w x.r ∧ Digs w x.n := fun x hx _ => ⟨digs_tab ht (hrn x hx).1.1 (by have := (hrn x hx).1.2; omega), digs_tab ht (hrn x hx).2.1 (hrn x hx).2.2⟩
      repeat ((conv => whnf); first | (refine nw_f hS ?_; intro b w1 hS) | (refine as_i hS ?_) | (refine as_i (hS.subs (List.nil_sublist _) (by repeat (first | exact List.Sublist.refl _ | apply List.Sublist.cons_cons | apply List.Sublist.cons))) ?_) | (refine bar_f hS ?_) | (refine ld_f hS 0 rfl rfl ?_) | (refine ldA_f hS 0 rfl rfl ?_) | (refine stN_f hS 0 rfl (Nat.le_of_ble_eq_true rfl) rfl rfl ?_; (conv => whnf); intro w1 hS) | (refine stM_f hS 0 rfl (Nat.le_of_ble_eq_true rfl) rfl ?_; (conv => whnf); intro w1 hS) | (refine drawf TB_ok rfl (by kernel_rfl) (by kernel_rfl) hS (List.Sublist.refl _) (List.Sublist.refl _) ?_; intro w1 hS) | (refine br_t (by assumption) ?_) | (refine br_f (by assumption) ?_) | (apply q_i; focus (intro w1 hS; (conv => whnf); first | exact ⟨rfl, rfl⟩ | ((refine ld_f hS 0 rfl rfl ?_); (conv => whnf); exact ⟨rfl, rfl⟩) | ((refine ldA_f hS 0 rfl rfl ?_); (conv => whnf); exact ⟨rfl, rfl⟩))))
      refine fc_m (hfew _ (hR.below hS.nil)) ?_; rintro v w1 ⟨rfl, hS'⟩; replace hS := hS.call0 hS'
      repeat ((conv => whnf); first | (refine nw_f hS ?_; intro b w1 hS) | (refine as_i hS ?_) | (refine as_i (hS.subs (List.nil_sublist _) (by repeat (first | exact List.Sublist.refl _ | apply List.Sublist.cons_cons | apply List.Sublist.cons))) ?_) | (refine bar_f hS ?_) | (refine ld_f hS 0 rfl rfl ?_) | (refine ldA_f hS 0 rfl rfl ?_) | (refine stN_f hS 0 rfl (Nat.le_of_ble_eq_true rfl) rfl rfl ?_; (conv => whnf); intro w1 hS) | (refine stM_f hS 0 rfl (Nat.le_of_ble_eq_true rfl) rfl ?_; (conv => whnf); intro w1 hS) | (refine drawf TB_ok rfl (by kernel_rfl) (by kernel_rfl) hS (List.Sublist.refl _) (List.Sublist.refl _) ?_; intro w1 hS) | (refine br_t (by assumption) ?_) | (refine br_f (by assumption) ?_) | (apply q_i; focus (intro w1 hS; (conv => whnf); first | exact ⟨rfl, rfl⟩ | ((refine ld_f hS 0 rfl rfl ?_); (conv => whnf); exact ⟨rfl, rfl⟩) | ((refine ldA_f hS 0 rfl rfl ?_); (conv => whnf); exact ⟨rfl, rfl⟩))))
      refine fc_m (at_known f A c xs name small _ (hR.below hS.nil) (by omega) (fun x hx => by have := h100 x hx; omega) (by omega) hrn (fun x hx h => ⟨(hD x hx h).1.below hS.nil, (hD x hx h).2.below hS.nil⟩)) ?_
      rintro v w2 ⟨l1, A1, c1, hl1, rfl, hR1, hd1, hS'⟩
      replace hS := hS.call0 hS'
      clear hS'
      have hB2 := St.refl w2
      replace hS : Sf [] w w2 [] [_] := hS
      repeat ((conv => whnf); first | (refine nw_f hS ?_; intro b w1 hS) | (refine as_i hS ?_) | (refine as_i (hS.subs (List.nil_sublist _) (by repeat (first | exact List.Sublist.refl _ | apply List.Sublist.cons_cons | apply List.Sublist.cons))) ?_) | (refine bar_f hS ?_) | (refine ld_f hS 0 rfl rfl ?_) | (refine ldA_f hS 0 rfl rfl ?_) | (refine stN_f hS 0 rfl (Nat.le_of_ble_eq_true rfl) rfl rfl ?_; (conv => whnf); intro w1 hS) | (refine stM_f hS 0 rfl (Nat.le_of_ble_eq_true rfl) rfl ?_; (conv => whnf); intro w1 hS) | (refine drawf TB_ok rfl (by kernel_rfl) (by kernel_rfl) hS (List.Sublist.refl _) (List.Sublist.refl _) ?_; intro w1 hS) | (refine br_t (by assumption) ?_) | (refine br_f (by assumption) ?_) | (apply q_i; focus (intro w1 hS; (conv => whnf); first | exact ⟨rfl, rfl⟩ | ((refine ld_f hS 0 rfl rfl ?_); (conv => whnf); exact ⟨rfl, rfl⟩) | ((refine ldA_f hS 0 rfl rfl ?_); (conv => whnf); exact ⟨rfl, rfl⟩))))
      refine fc_m (their_c f A c xs _ (hR.below hS.nil) (by omega)) ?_
      rintro v w3 ⟨A3, c3, Lv3, rfl, hv3, hS'⟩
      replace hS := hS.callF hS'
      replace hB2 := hB2.call0 hS'.nil
      repeat ((conv => whnf); first | (refine nw_f hS ?_; intro b w1 hS) | (refine as_i hS ?_) | (refine as_i (hS.subs (List.nil_sublist _) (by repeat (first | exact List.Sublist.refl _ | apply List.Sublist.cons_cons | apply List.Sublist.cons))) ?_) | (refine bar_f hS ?_) | (refine ld_f hS 0 rfl rfl ?_) | (refine ldA_f hS 0 rfl rfl ?_) | (refine stN_f hS 0 rfl (Nat.le_of_ble_eq_true rfl) rfl rfl ?_; (conv => whnf); intro w1 hS) | (refine stM_f hS 0 rfl (Nat.le_of_ble_eq_true rfl) rfl ?_; (conv => whnf); intro w1 hS) | (refine drawf TB_ok rfl (by kernel_rfl) (by kernel_rfl) hS (List.Sublist.refl _) (List.Sublist.refl _) ?_; intro w1 hS) | (refine br_t (by assumption) ?_) | (refine br_f (by assumption) ?_) | (apply q_i; focus (intro w1 hS; (conv => whnf); first | exact ⟨rfl, rfl⟩ | ((refine ld_f hS 0 rfl rfl ?_); (conv => whnf); exact ⟨rfl, rfl⟩) | ((refine ldA_f hS 0 rfl rfl ?_); (conv => whnf); exact ⟨rfl, rfl⟩))))
      refine fc_m (rat_c f A3 c3 xs name small _ (hv3.rdF hS) (by omega) (fun x hx => by have := h100 x hx; omega) (by omega) hrn) ?_
      rintro v w4 ⟨l2, A2, c2, hl2, rfl, hR2, hd2, hS'⟩
      replace hS := hS.call0 hS'
      replace hB2 := hB2.call0 hS'
      replace hR1 := hR1.below hB2
      replace hd1 := fun x hx => (hd1 x hx).below hB2
      clear hS' hB2 hv3
      have hgg : l2.map sp = l1.map sp := by rw [hl2, hl1, alike_same]
      have hll : l2.length = l1.length := by have := congrArg List.length hgg; simpa using this
      have hbd := grpsF_bound (alikeB fun a b => sameT a b small) xs xs.length 0 (by omega)
      rw [← grps] at hbd
      have hsd := seen_dots (name := name) hbd.2
      have hsl := seenP_len name (grps (alikeB fun a b => sameT a b small) xs)
      rw [← hl1] at hsd hsl
      rw [List.length_map] at hsl
      have hne : ((l1.length : Int) != (l2.length : Int)) = false := by rw [hll]; simp
      have hW := hS.nil
      have hS := Sf.refl w4
      repeat ((conv => whnf); first | (refine nw_f hS ?_; intro b w1 hS) | (refine as_i hS ?_) | (refine as_i (hS.subs (List.nil_sublist _) (by repeat (first | exact List.Sublist.refl _ | apply List.Sublist.cons_cons | apply List.Sublist.cons))) ?_) | (refine bar_f hS ?_) | (refine ld_f hS 0 rfl rfl ?_) | (refine ldA_f hS 0 rfl rfl ?_) | (refine stN_f hS 0 rfl (Nat.le_of_ble_eq_true rfl) rfl rfl ?_; (conv => whnf); intro w1 hS) | (refine stM_f hS 0 rfl (Nat.le_of_ble_eq_true rfl) rfl ?_; (conv => whnf); intro w1 hS) | (refine drawf TB_ok rfl (by kernel_rfl) (by kernel_rfl) hS (List.Sublist.refl _) (List.Sublist.refl _) ?_; intro w1 hS) | (refine br_t (by assumption) ?_) | (refine br_f (by assumption) ?_) | (apply q_i; focus (intro w1 hS; (conv => whnf); first | exact ⟨rfl, rfl⟩ | ((refine ld_f hS 0 rfl rfl ?_); (conv => whnf); exact ⟨rfl, rfl⟩) | ((refine ldA_f hS 0 rfl rfl ?_); (conv => whnf); exact ⟨rfl, rfl⟩))))
      refine loop_i TB_ok (fun i : Nat => [(9, .int .i64 i)]) (fun i w' => i ≤ l1.length ∧ Sf [] w4 w' [] []) (fun i => l1.length - i) 0 rfl ⟨Nat.zero_le _, hS⟩ ?_
      rintro i us w5 ⟨hi, hS⟩
      (conv => whnf)
      refine br_i (fun hb => ?_) (fun hb => ?_)
      · have hlt : i < l1.length := by have := of_decide_eq_true hb; omega
        have hlt2 : i < l2.length := by omega
        have hpi : sp l2[i] = sp l1[i] := by
          have h1 : (l2.map sp)[i]'(by simpa using hlt2) = sp l2[i] := by simp
          have h2 : (l1.map sp)[i]'(by simpa using hlt) = sp l1[i] := by simp
          rw [← h1, ← h2]
          simp only [hgg]
        have hdl : l1[i].g.ds.length ≤ xs.length := hsd (sp l1[i]) (List.mem_map.2 ⟨_, List.getElem_mem hlt, rfl⟩)
        have hdR1 := hd1 _ (List.getElem_mem hlt)
        have hdR2 := hd2 _ (List.getElem_mem hlt2)
        have he1 : encSn l1[i] = [.string (strY l1[i].name), .bool l1[i].dir, .bool l1[i].conf, .string (strY l1[i].g.v), .slice l1[i].g.A l1[i].g.ds.length l1[i].g.c] := rfl
        have he2 : encSn l2[i] = [.string (strY l1[i].name), .bool l1[i].dir, .bool l1[i].conf, .string (strY l1[i].g.v), .slice l2[i].g.A l1[i].g.ds.length l2[i].g.c] := by
          simp only [sp, Prod.mk.injEq] at hpi
          obtain ⟨p1, p2, p3, p4, p5⟩ := hpi
          rw [encSn, p1, p2, p3, p4, p5]
        have hde : l2[i].g.ds = l1[i].g.ds := by simp only [sp, Prod.mk.injEq] at hpi; exact hpi.2.2.2.2
        rw [hde] at hdR2
        generalize l2[i].g.A = A22 at he2 hdR2
        generalize l2[i].g.c = c22 at he2
        obtain ⟨x1, o1, rfl⟩ := hR1.form (flat_ne encSn_len (by omega) hlt)
        obtain ⟨x2, o2, rfl⟩ := hR2.form (flat_ne encSn_len (by omega) hlt2)
        have q1 := neSame (strY l1[i].name)
        have q2 := neSame (strY l1[i].g.v)
        have q3 : (l1[i].dir != l1[i].dir) = false := by simp
        have q4 : (l1[i].conf != l1[i].conf) = false := by simp
        repeat ((conv => whnf); first | (refine nw_f hS ?_; intro b w1 hS) | (refine as_i hS ?_) | (refine as_i (hS.subs (List.nil_sublist _) (by repeat (first | exact List.Sublist.refl _ | apply List.Sublist.cons_cons | apply List.Sublist.cons))) ?_) | (refine bar_f hS ?_) | (refine br_t (by assumption) ?_) | (refine br_f (by assumption) ?_) | (apply q_i; focus (intro w1 hS; (conv => whnf); first | exact ⟨rfl, rfl⟩)))
        refine drawf (Ls := []) TB_ok rfl (by kernel_rfl) (by kernel_rfl) hS (List.Sublist.refl _) (List.Sublist.refl _) ?_; intro w1 hS
        repeat ((conv => whnf); first | (refine nw_f hS ?_; intro b w1 hS) | (refine as_i hS ?_) | (refine as_i (hS.subs (List.nil_sublist _) (by repeat (first | exact List.Sublist.refl _ | apply List.Sublist.cons_cons | apply List.Sublist.cons))) ?_) | (refine bar_f hS ?_) | (refine .mk ⟨by omega, by omega⟩ ?_; refine ix_i rfl ?_) | (refine ld_el encSn_len (hR1.below hS.nil).at (i := i) (k := 0) hlt (by decide) rfl (by rw [he1]; rfl) ?_) | (refine ld_el encSn_len (hR2.below hS.nil).at (i := i) (k := 0) hlt2 (by decide) rfl (by rw [he2]; rfl) ?_) | (refine ld_el encSn_len (hR1.below hS.nil).at (i := i) (k := 1) hlt (by decide) rfl (by rw [he1]; rfl) ?_) | (refine ld_el encSn_len (hR2.below hS.nil).at (i := i) (k := 1) hlt2 (by decide) rfl (by rw [he2]; rfl) ?_) | (refine ld_el encSn_len (hR1.below hS.nil).at (i := i) (k := 2) hlt (by decide) rfl (by rw [he1]; rfl) ?_) | (refine ld_el encSn_len (hR2.below hS.nil).at (i := i) (k := 2) hlt2 (by decide) rfl (by rw [he2]; rfl) ?_) | (refine ld_el encSn_len (hR1.below hS.nil).at (i := i) (k := 3) hlt (by decide) rfl (by rw [he1]; rfl) ?_) | (refine ld_el encSn_len (hR2.below hS.nil).at (i := i) (k := 3) hlt2 (by decide) rfl (by rw [he2]; rfl) ?_) | (refine ld_el encSn_len (hR1.below hS.nil).at (i := i) (k := 4) hlt (by decide) rfl (by rw [he1]; rfl) ?_) | (refine ld_el encSn_len (hR2.below hS.nil).at (i := i) (k := 4) hlt2 (by decide) rfl (by rw [he2]; rfl) ?_) | (refine drawf TB_ok rfl (by kernel_rfl) (by kernel_rfl) hS (List.Sublist.refl _) (List.Sublist.refl _) ?_; intro w1 hS) | (refine br_t (by assumption) ?_) | (refine br_f (by assumption) ?_) | (apply q_i; focus (intro w1 hS; (conv => whnf); first | exact ⟨rfl, rfl⟩ | ((refine .mk ⟨by omega, by omega⟩ ?_; refine ix_i rfl ?_); (conv => whnf); exact ⟨rfl, rfl⟩) | ((refine ld_el encSn_len (hR1.below hS.nil).at (i := i) (k := 0) hlt (by decide) rfl (by rw [he1]; rfl) ?_); (conv => whnf); exact ⟨rfl, rfl⟩) | ((refine ld_el encSn_len (hR2.below hS.nil).at (i := i) (k := 0) hlt2 (by decide) rfl (by rw [he2]; rfl) ?_); (conv => whnf); exact ⟨rfl, rfl⟩) | ((refine ld_el encSn_len (hR1.below hS.nil).at (i := i) (k := 1) hlt (by decide) rfl (by rw [he1]; rfl) ?_); (conv => whnf); exact ⟨rfl, rfl⟩) | ((refine ld_el encSn_len (hR2.below hS.nil).at (i := i) (k := 1) hlt2 (by decide) rfl (by rw [he2]; rfl) ?_); (conv => whnf); exact ⟨rfl, rfl⟩) | ((refine ld_el encSn_len (hR1.below hS.nil).at (i := i) (k := 2) hlt (by decide) rfl (by rw [he1]; rfl) ?_); (conv => whnf); exact ⟨rfl, rfl⟩) | ((refine ld_el encSn_len (hR2.below hS.nil).at (i := i) (k := 2) hlt2 (by decide) rfl (by rw [he2]; rfl) ?_); (conv => whnf); exact ⟨rfl, rfl⟩) | ((refine ld_el encSn_len (hR1.below hS.nil).at (i := i) (k := 3) hlt (by decide) rfl (by rw [he1]; rfl) ?_); (conv => whnf); exact ⟨rfl, rfl⟩) | ((refine ld_el encSn_len (hR2.below hS.nil).at (i := i) (k := 3) hlt2 (by decide) rfl (by rw [he2]; rfl) ?_); (conv => whnf); exact ⟨rfl, rfl⟩) | ((refine ld_el encSn_len (hR1.below hS.nil).at (i := i) (k := 4) hlt (by decide) rfl (by rw [he1]; rfl) ?_); (conv => whnf); exact ⟨rfl, rfl⟩) | ((refine ld_el encSn_len (hR2.below hS.nil).at (i := i) (k := 4) hlt2 (by decide) rfl (by rw [he2]; rfl) ?_); (conv => whnf); exact ⟨rfl, rfl⟩))))
        refine fc_m (dotsT_c l1[i].g.A l1[i].g.c A22 c22 l1[i].g.ds _ (hdR1.below hS.nil) (hdR2.below hS.nil) (by omega)) ?_; rintro v w6 ⟨rfl, hS'⟩; replace hS := hS.call0 hS'
        repeat ((conv => whnf); first | (refine nw_f hS ?_; intro b w1 hS) | (refine as_i hS ?_) | (refine as_i (hS.subs (List.nil_sublist _) (by repeat (first | exact List.Sublist.refl _ | apply List.Sublist.cons_cons | apply List.Sublist.cons))) ?_) | (refine bar_f hS ?_) | (refine drawf TB_ok rfl (by kernel_rfl) (by kernel_rfl) hS (List.Sublist.refl _) (List.Sublist.refl _) ?_; intro w1 hS) | (refine br_t (by assumption) ?_) | (refine br_f (by assumption) ?_) | (apply q_i; focus (intro w1 hS; (conv => whnf); first | exact ⟨rfl, rfl⟩)))
        refine ⟨rfl, i + 1, ?_, ⟨by omega, hS⟩, by omega⟩
        rw [wi hlt (by omega)]
        rfl
      · repeat ((conv => whnf); first | (refine nw_f hS ?_; intro b w1 hS) | (refine as_i hS ?_) | (refine as_i (hS.subs (List.nil_sublist _) (by repeat (first | exact List.Sublist.refl _ | apply List.Sublist.cons_cons | apply List.Sublist.cons))) ?_) | (refine bar_f hS ?_) | (refine drawf TB_ok rfl (by kernel_rfl) (by kernel_rfl) hS (List.Sublist.refl _) (List.Sublist.refl _) ?_; intro w1 hS) | (refine br_t (by assumption) ?_) | (refine br_f (by assumption) ?_) | (apply q_i; focus (intro w1 hS; (conv => whnf); first | exact ⟨rfl, rfl⟩)))
        refine fc_m (works_c _) ?_; rintro v w1 ⟨rfl, hS'⟩; replace hS := hS.call0 hS'
        repeat ((conv => whnf); first | (refine nw_f hS ?_; intro b w1 hS) | (refine as_i hS ?_) | (refine as_i (hS.subs (List.nil_sublist _) (by repeat (first | exact List.Sublist.refl _ | apply List.Sublist.cons_cons | apply List.Sublist.cons))) ?_) | (refine bar_f hS ?_) | (refine drawf TB_ok rfl (by kernel_rfl) (by kernel_rfl) hS (List.Sublist.refl _) (List.Sublist.refl _) ?_; intro w1 hS) | (refine br_t (by assumption) ?_) | (refine br_f (by assumption) ?_) | (apply q_i; focus (intro w1 hS; (conv => whnf); first | exact ⟨rfl, rfl⟩)))
        exact ⟨rfl, hW.call0 hS.nil⟩
end Go.RV
