/- Contracts of functions of chapter 28: which messages may be. Conditions: none. -/
import Derived.Test.YtnhlpmnehdackaaMa5
set_option maxRecDepth 20000
set_option linter.unusedVariables false
set_option linter.unusedSimpArgs false
namespace Go.RV
open Go Go.Proofs Go.RowKit

theorem veq_symm (f g : Nat → Int) : veq f g = veq g f := by
  rw [Bool.eq_iff_iff, veq_iff, veq_iff]
  exact ⟨fun h j hj => (h j hj).symm, fun h j hj => (h j hj).symm⟩
set_option maxHeartbeats 4000000 in
theorem mmay0_c (a : Bool) (p : List UInt8) (f : Nat → Int) (xs : List Sc) (g : Nat → Int) (hf : ∀ j, j < 8 → 0 ≤ f j ∧ f j ≤ 4294967295) (hg : ∀ j, j < 8 → 0 ≤ g j ∧ g j ≤ 4294967295) (hx : ∀ x ∈ xs, 0 ≤ x.r ∧ x.r ≤ 255 ∧ 0 ≤ x.n ∧ x.n ≤ 4294967295) (hp : p.length ≤ 1073741824) (hl : xs.length ≤ 1073741824) (hv : ∀ x ∈ xs, x.v.length ≤ 1073741824) (A : Option Addr) (c : Nat) (w : World) (hR : Rd w A (flat encC xs)) :
    Fc Try.prog 25 [msgC a p f A xs.length c g] w fun v w' => v = .bool (mayM ⟨a, p, f, xs, g⟩) ∧ St [] w w' [] := by
  refine fc_i TB_ok Try.func25 rfl (by kernel_rfl) ?_
  have hS := Sf.refl w
  have hpc := fun w => C04.parse_c p (by omega) w
  have hn : namedB p = (decide ((C04.parseT p).2.1 = 0) && decide (0 < (C04.parseT p).1.length)) := rfl
  generalize C04.parseT p = P at *
  obtain ⟨l, e, o⟩ := P
  simp only at hpc hn
  have h4 : ∀ b : Bool, ((if b = true then (0 : Int) else 4) == 0) = b := by decide
  have hl0 : ((xs.length : Int) == 0) = xs.isEmpty := by
    cases xs with
    | nil => rfl
    | cons x xs => simp; omega
  have hm : mayM ⟨a, p, f, xs, g⟩ = (!(e != 0) && (!((l.length : Int) == 0) && (if a = true then ((if mayVB g = true then (0 : Int) else 4) == 0) && ((!veq g zeroF) && (veq f zeroF && ((xs.length : Int) == 0))) else ((if checkC f xs = true then (0 : Int) else 4) == 0) && ((!(xs.any fun x => !okCB x.d x.v)) && ((!veq f zeroF) && veq g zeroF))))) := by
    have e1 : decide (e = 0) = !(e != 0) := by by_cases h : e = 0 <;> simp [h]
    have e2 : decide (0 < l.length) = !((l.length : Int) == 0) := by cases l <;> simp; omega
    have hall : (!(xs.any fun x => !okCB x.d x.v)) = (xs.all fun x => okCB x.d x.v) := by rw [← List.not_all_eq_any_not, Bool.not_not]
    unfold mayM
    simp only
    rw [hn, h4, h4, hl0, hall, e1, e2, Bool.and_assoc]
  rw [hm]
  clear h4 hl0 hm hn
  repeat ((conv => whnf); first | (apply q_i; focus (intro w1 hS; (conv => whnf); first | exact ⟨rfl, rfl⟩ | ((refine ld_f hS 0 rfl rfl ?_); (conv => whnf); exact ⟨rfl, rfl⟩) | ((refine ldA_f hS 0 rfl rfl ?_); (conv => whnf); exact ⟨rfl, rfl⟩))) | (refine nw_f hS ?_; intro b w1 hS) | (refine as_i hS ?_) | (refine as_i (hS.subs (List.nil_sublist _) (by repeat (first | exact List.Sublist.refl _ | apply List.Sublist.cons_cons | apply List.Sublist.cons))) ?_) | (refine as_i (hS.subs (List.Sublist.refl _) (by repeat (first | exact List.Sublist.refl _ | apply List.Sublist.cons_cons | apply List.Sublist.cons))) ?_) | (refine bar_f hS ?_) | (refine ld_f hS 0 rfl rfl ?_) | (refine ldA_f hS 0 rfl rfl ?_) | (refine stN_f hS 0 rfl (Nat.le_of_ble_eq_true rfl) rfl rfl ?_; (conv => whnf); intro w1 hS) | (refine stM_f hS 0 rfl (Nat.le_of_ble_eq_true rfl) rfl ?_; (conv => whnf); intro w1 hS) | (refine drawf TB_ok rfl (by kernel_rfl) (by kernel_rfl) hS (List.Sublist.refl _) (List.Sublist.refl _) ?_; intro w1 hS) | (refine br_t (by assumption) ?_) | (refine br_f (by assumption) ?_))
  refine fc_m (hpc _) ?_
  rintro v w1 ⟨A1, c1, Lv, rfl, hvl, hS'⟩
  replace hS := hS.callF hS'
  have hcont := fun w => containsC_c A c xs (.func (.func 45) #[] #[]) (fun x => !okCB x.d x.v) w
  have hbad : ∀ w', TellsC w' (.func (.func 45) #[] #[]) (fun x => !okCB x.d x.v) xs := fun w' x hx w'' _ => Cv.of_fc ((bad_c x (hv x hx) w'').mono fun v w3 h => h)
  repeat' ((conv => whnf); first | (refine And.intro ?_ ?_) | (apply q_i; focus (intro w1 hS; (conv => whnf); first | exact ⟨rfl, rfl⟩ | ((refine ld_f hS 0 rfl rfl ?_); (conv => whnf); exact ⟨rfl, rfl⟩) | ((refine ld_f hS 1 rfl rfl ?_); (conv => whnf); exact ⟨rfl, rfl⟩) | ((refine ldA_f hS 0 rfl rfl ?_); (conv => whnf); exact ⟨rfl, rfl⟩) | ((refine ldA_f hS 1 rfl rfl ?_); (conv => whnf); exact ⟨rfl, rfl⟩) | ((refine ldN_f hS 0 rfl (Nat.le_of_ble_eq_true rfl) ?_); (conv => whnf); exact ⟨rfl, rfl⟩) | ((refine ldN_f hS 1 rfl (Nat.le_of_ble_eq_true rfl) ?_); (conv => whnf); exact ⟨rfl, rfl⟩) | ((refine fc_m (put_c g hg _) ?_; rintro v w3 ⟨rfl, hS'⟩; replace hS := hS.call0 hS'); (conv => whnf); exact ⟨rfl, rfl⟩) | ((refine fc_m (scheckC_c f hf A c xs _ (hR.below hS.nil) (by omega) (fun x h => (hx x h).1)) ?_; rintro v w3 ⟨rfl, hS'⟩; replace hS := hS.call0 hS'); (conv => whnf); exact ⟨rfl, rfl⟩) | ((refine fc_m (hcont _ (hR.below hS.nil) (by omega) (hbad _)) ?_; rintro v w3 ⟨rfl, hS'⟩; replace hS := hS.call0 hS'); (conv => whnf); exact ⟨rfl, rfl⟩) | ((refine eqVec g zeroF ?_); (conv => whnf); exact ⟨rfl, rfl⟩) | ((refine neVec g zeroF ?_); (conv => whnf); exact ⟨rfl, rfl⟩) | ((refine eqVec f zeroF ?_); (conv => whnf); exact ⟨rfl, rfl⟩) | ((refine neVec f zeroF ?_); (conv => whnf); exact ⟨rfl, rfl⟩) | ((refine br_i (fun _ => ?_) (fun _ => ?_)); (conv => whnf); exact ⟨rfl, rfl⟩))) | (refine nw_f hS ?_; intro b w1 hS) | (refine as_i hS ?_) | (refine as_i (hS.subs (List.nil_sublist _) (by repeat (first | exact List.Sublist.refl _ | apply List.Sublist.cons_cons | apply List.Sublist.cons))) ?_) | (refine as_i (hS.subs (List.Sublist.refl _) (by repeat (first | exact List.Sublist.refl _ | apply List.Sublist.cons_cons | apply List.Sublist.cons))) ?_) | (refine bar_f hS ?_) | (refine ld_f hS 0 rfl rfl ?_) | (refine ld_f hS 1 rfl rfl ?_) | (refine ldA_f hS 0 rfl rfl ?_) | (refine ldA_f hS 1 rfl rfl ?_) | (refine stN_f hS 0 rfl (Nat.le_of_ble_eq_true rfl) rfl rfl ?_; (conv => whnf); intro w1 hS) | (refine stN_f hS 1 rfl (Nat.le_of_ble_eq_true rfl) rfl rfl ?_; (conv => whnf); intro w1 hS) | (refine stM_f hS 0 rfl (Nat.le_of_ble_eq_true rfl) rfl ?_; (conv => whnf); intro w1 hS) | (refine stM_f hS 1 rfl (Nat.le_of_ble_eq_true rfl) rfl ?_; (conv => whnf); intro w1 hS) | (refine ldN_f hS 0 rfl (Nat.le_of_ble_eq_true rfl) ?_) | (refine ldN_f hS 1 rfl (Nat.le_of_ble_eq_true rfl) ?_) | (refine fc_m (put_c g hg _) ?_; rintro v w3 ⟨rfl, hS'⟩; replace hS := hS.call0 hS') | (refine fc_m (scheckC_c f hf A c xs _ (hR.below hS.nil) (by omega) (fun x h => (hx x h).1)) ?_; rintro v w3 ⟨rfl, hS'⟩; replace hS := hS.call0 hS') | (refine fc_m (hcont _ (hR.below hS.nil) (by omega) (hbad _)) ?_; rintro v w3 ⟨rfl, hS'⟩; replace hS := hS.call0 hS') | (refine eqVec g zeroF ?_) | (refine neVec g zeroF ?_) | (refine eqVec f zeroF ?_) | (refine neVec f zeroF ?_) | (refine br_i (fun _ => ?_) (fun _ => ?_)) | (refine drawf TB_ok rfl (by kernel_rfl) (by kernel_rfl) hS (List.Sublist.refl _) (List.Sublist.refl _) ?_; intro w1 hS) | (refine br_t (by assumption) ?_) | (refine br_f (by assumption) ?_))
  all_goals first
    | exact hS.nil
    | (refine congrArg Value.bool ?_; simp only [*, Bool.not_true, Bool.not_false, Bool.and_true, Bool.true_and, Bool.false_and, Bool.and_false, if_true, if_false, Bool.false_eq_true])
theorem mmay_c (m : Mx) (ho : okM m) (hp : m.p.length ≤ 1073741824) (hl : m.xs.length ≤ 1073741824) (hv : ∀ x ∈ m.xs, x.v.length ≤ 1073741824) (A : Option Addr) (c : Nat) (w : World) (hR : Rd w A (flat encC m.xs)) :
    Fc Try.prog 25 [msgV m A c] w fun v w' => v = .bool (mayM m) ∧ St [] w w' [] :=
  mmay0_c m.a m.p m.f m.xs m.g ho.f ho.g ho.x hp hl hv A c w hR
end Go.RV
