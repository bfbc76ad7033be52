/- Contracts of the laws' functions of chapter 28: works. Conditions: none. -/
import Derived.Test.YtnhlpmnehdackaaGreatMb4
set_option maxRecDepth 20000
set_option linter.unusedVariables false
set_option linter.unusedSimpArgs false
namespace Go.RV
open Go Go.Proofs Go.RowKit

def ackM : Mx := ⟨true, [47, 97], zeroF, [], fun j => if j = 1 then 2 else 0⟩
def entM : Mx := ⟨false, [47, 97], fun j => if j = 0 then 1 else 0, [⟨0, 1, false, [104, 105]⟩], zeroF⟩
theorem parse_a : C04.parseT [47, 97] = ([[97]], 0, some [97]) := by decide +kernel
theorem named_a : namedB [47, 97] = true := by unfold namedB; rw [parse_a]; rfl
theorem ack_may : mayM ackM = true := by
  unfold mayM ackM
  simp only [named_a, if_true]
  decide +kernel
theorem ent_may : mayM entM = true := by
  unfold mayM entM
  simp only [named_a]
  decide +kernel
theorem ack_body : bodyT ackM = [2, 2, 47, 97, 2, 0, 2] := by decide +kernel
theorem ent_body : bodyT entM = [1, 2, 47, 97, 1, 0, 1, 1, 0, 0, 1, 0, 0, 2, 104, 105] := by decide +kernel
theorem ack_ok : okM ackM := by
  refine ⟨zeroF_ok, fun j hj => ?_, fun x hx => by cases hx⟩
  show 0 ≤ (if j = 1 then (2 : Int) else 0) ∧ (if j = 1 then (2 : Int) else 0) ≤ _
  split <;> decide
theorem ent_ok : okM entM := by
  refine ⟨fun j hj => ?_, zeroF_ok, fun x hx => ?_⟩
  · show 0 ≤ (if j = 0 then (1 : Int) else 0) ∧ (if j = 0 then (1 : Int) else 0) ≤ _
    split <;> decide
  · obtain rfl := List.mem_singleton.1 hx
    decide
theorem ack_few : fewM ackM := ⟨by decide, by decide, fun x hx => by cases hx⟩
theorem ent_few : fewM entM := ⟨by decide, by decide, fun x hx => by obtain rfl := List.mem_singleton.1 hx; decide⟩
theorem acked_c (w : World) : Fc Tryz.prog 18 [] w fun v w' => v = msgV ackM none 0 ∧ St [] w w' [] := by
  refine fc_i TB_ok Tryz.func18 rfl (by kernel_rfl) ?_
  have hS := Sf.refl w
  repeat ((conv => whnf); first | (apply q_i; focus (intro w1 hS; (conv => whnf); first | exact ⟨rfl, rfl⟩ | ((refine ld_f hS 0 rfl rfl ?_); (conv => whnf); exact ⟨rfl, rfl⟩) | ((refine ldA_f hS 0 rfl rfl ?_); (conv => whnf); exact ⟨rfl, rfl⟩))) | (refine nw_f hS ?_; intro b w1 hS) | (refine as_i hS ?_) | (refine as_i (hS.subs (List.nil_sublist _) (by repeat (first | exact List.Sublist.refl _ | apply List.Sublist.cons_cons | apply List.Sublist.cons))) ?_) | (refine as_i (hS.subs (List.Sublist.refl _) (by repeat (first | exact List.Sublist.refl _ | apply List.Sublist.cons_cons | apply List.Sublist.cons))) ?_) | (refine bar_f hS ?_) | (refine ld_f hS 0 rfl rfl ?_) | (refine ldA_f hS 0 rfl rfl ?_) | (refine stN_f hS 0 rfl (Nat.le_of_ble_eq_true rfl) rfl rfl ?_; (conv => whnf); intro w1 hS) | (refine stM_f hS 0 rfl (Nat.le_of_ble_eq_true rfl) rfl ?_; (conv => whnf); intro w1 hS) | (refine drawf TB_ok rfl (by kernel_rfl) (by kernel_rfl) hS (List.Sublist.refl _) (List.Sublist.refl _) ?_; intro w1 hS) | (refine br_t (by assumption) ?_) | (refine br_f (by assumption) ?_))
  exact ⟨rfl, hS.nil⟩
theorem entered_c (w : World) : Fc Tryz.prog 17 [] w fun v w' => ∃ b, v = msgV entM (some ⟨b, 0, none⟩) 1 ∧ St [] w w' [(b, .cells (encC ⟨0, 1, false, [104, 105]⟩).toArray 56 (0, 0))] := by
  refine fc_i TB_ok Tryz.func17 rfl (by kernel_rfl) ?_
  have hS := Sf.refl w
  repeat ((conv => whnf); first | (apply q_i; focus (intro w1 hS; (conv => whnf); first | exact ⟨rfl, rfl⟩ | ((refine ld_f hS 0 rfl rfl ?_); (conv => whnf); exact ⟨rfl, rfl⟩) | ((refine ld_f hS 1 rfl rfl ?_); (conv => whnf); exact ⟨rfl, rfl⟩) | ((refine ldA_f hS 0 rfl rfl ?_); (conv => whnf); exact ⟨rfl, rfl⟩) | ((refine ldA_f hS 1 rfl rfl ?_); (conv => whnf); exact ⟨rfl, rfl⟩))) | (refine nw_f hS ?_; intro b w1 hS) | (refine as_i hS ?_) | (refine as_i (hS.subs (List.nil_sublist _) (by repeat (first | exact List.Sublist.refl _ | apply List.Sublist.cons_cons | apply List.Sublist.cons))) ?_) | (refine as_i (hS.subs (List.Sublist.refl _) (by repeat (first | exact List.Sublist.refl _ | apply List.Sublist.cons_cons | apply List.Sublist.cons))) ?_) | (refine bar_f hS ?_) | (refine ld_f hS 0 rfl rfl ?_) | (refine ld_f hS 1 rfl rfl ?_) | (refine ldA_f hS 0 rfl rfl ?_) | (refine ldA_f hS 1 rfl rfl ?_) | (refine stN_f hS 0 rfl (Nat.le_of_ble_eq_true rfl) rfl rfl ?_; (conv => whnf); intro w1 hS) | (refine stN_f hS 1 rfl (Nat.le_of_ble_eq_true rfl) rfl rfl ?_; (conv => whnf); intro w1 hS) | (refine stM_f hS 0 rfl (Nat.le_of_ble_eq_true rfl) rfl ?_; (conv => whnf); intro w1 hS) | (refine stM_f hS 1 rfl (Nat.le_of_ble_eq_true rfl) rfl ?_; (conv => whnf); intro w1 hS) | (refine drawf TB_ok rfl (by kernel_rfl) (by kernel_rfl) hS (List.Sublist.refl _) (List.Sublist.refl _) ?_; intro w1 hS) | (refine br_t (by assumption) ?_) | (refine br_f (by assumption) ?_))
  exact ⟨_, rfl, hS.sub (by repeat (first | exact List.Sublist.refl _ | apply List.Sublist.cons_cons | apply List.Sublist.cons))⟩
theorem torn0 : takeM [] = (zeroM, 10) := by unfold takeM; rw [if_neg (by decide), if_pos (by decide)]
theorem sum0 : takeM [0, 0, 0, 0] = (zeroM, 9) := by
  unfold takeM
  rw [if_neg (by decide), if_neg (by decide), if_pos (by decide +kernel)]
theorem works_c (w : World) : Fc Tryz.prog 7 [] w fun v w' => v = .bool true ∧ St [] w w' [] := by
  refine fc_i TB_ok Tryz.func7 rfl (by kernel_rfl) ?_
  have hS := Sf.refl w
  have hp1 := fun w => puts_c ackM ack_ok ack_few ack_may _ ack_body none 0 w (.inl rfl)
  have hp2 := fun b w h => puts_c entM ent_ok ent_few ent_may _ ent_body (some ⟨b, 0, none⟩) 1 w h
  have hac := acked_c
  have hen := entered_c
  have hxs : encC ⟨0, 1, false, [104, 105]⟩ = flat encC entM.xs := rfl
  rw [hxs] at hen
  obtain ⟨c1, hc1⟩ : ∃ cs, cs = flat encC entM.xs := ⟨_, rfl⟩
  rw [← hc1] at hen hp2
  generalize ackM = m1 at *
  generalize entM = m2 at *
  have hf1 := fun w => fails_c [] (by decide) 10 (by rw [torn0]) (by rw [torn0]) w
  have hf2 := fun w => fails_c [0, 0, 0, 0] (by decide) 9 (by rw [sum0]) (by rw [sum0]) w
  repeat ((conv => whnf); first | (apply q_i; focus (intro w1 hS; (conv => whnf); first | exact ⟨rfl, rfl⟩ | ((refine ld_f hS 0 rfl rfl ?_); (conv => whnf); exact ⟨rfl, rfl⟩) | ((refine ldA_f hS 0 rfl rfl ?_); (conv => whnf); exact ⟨rfl, rfl⟩) | ((refine fc_m (hac _) ?_; rintro v w3 ⟨rfl, hS'⟩; replace hS := hS.call0 hS'); (conv => whnf); exact ⟨rfl, rfl⟩) | ((refine fc_m (hp1 _) ?_; rintro v w3 ⟨rfl, hS'⟩; replace hS := hS.call0 hS'); (conv => whnf); exact ⟨rfl, rfl⟩))) | (refine nw_f hS ?_; intro b w1 hS) | (refine as_i hS ?_) | (refine as_i (hS.subs (List.nil_sublist _) (by repeat (first | exact List.Sublist.refl _ | apply List.Sublist.cons_cons | apply List.Sublist.cons))) ?_) | (refine as_i (hS.subs (List.Sublist.refl _) (by repeat (first | exact List.Sublist.refl _ | apply List.Sublist.cons_cons | apply List.Sublist.cons))) ?_) | (refine bar_f hS ?_) | (refine ld_f hS 0 rfl rfl ?_) | (refine ldA_f hS 0 rfl rfl ?_) | (refine stN_f hS 0 rfl (Nat.le_of_ble_eq_true rfl) rfl rfl ?_; (conv => whnf); intro w1 hS) | (refine stM_f hS 0 rfl (Nat.le_of_ble_eq_true rfl) rfl ?_; (conv => whnf); intro w1 hS) | (refine fc_m (hac _) ?_; rintro v w3 ⟨rfl, hS'⟩; replace hS := hS.call0 hS') | (refine fc_m (hp1 _) ?_; rintro v w3 ⟨rfl, hS'⟩; replace hS := hS.call0 hS') | (refine drawf TB_ok rfl (by kernel_rfl) (by kernel_rfl) hS (List.Sublist.refl _) (List.Sublist.refl _) ?_; intro w1 hS) | (refine br_t (by assumption) ?_) | (refine br_f (by assumption) ?_))
  (conv => whnf)
  refine fc_m (hen _) ?_
  rintro v w1 ⟨b, rfl, hS'⟩
  replace hS := hS.call' hS'
  replace hS : Sf [] w w1 [] [(b, .cells c1.toArray 56 (0, 0))] := hS
  repeat ((conv => whnf); first | (apply q_i; focus (intro w1 hS; (conv => whnf); first | exact ⟨rfl, rfl⟩ | ((refine ld_f hS 0 rfl rfl ?_); (conv => whnf); exact ⟨rfl, rfl⟩) | ((refine ldA_f hS 0 rfl rfl ?_); (conv => whnf); exact ⟨rfl, rfl⟩) | ((refine fc_m (hp2 b _ (by have := hS.rd 0 rfl; simpa using this)) ?_; rintro v w3 ⟨rfl, hS'⟩; replace hS := hS.call0 hS'); (conv => whnf); exact ⟨rfl, rfl⟩) | ((refine fc_m (hf1 _) ?_; rintro v w3 ⟨rfl, hS'⟩; replace hS := hS.call0 hS'); (conv => whnf); exact ⟨rfl, rfl⟩) | ((refine fc_m (hf2 _) ?_; rintro v w3 ⟨rfl, hS'⟩; replace hS := hS.call0 hS'); (conv => whnf); exact ⟨rfl, rfl⟩))) | (refine nw_f hS ?_; intro b w1 hS) | (refine as_i hS ?_) | (refine as_i (hS.subs (List.nil_sublist _) (by repeat (first | exact List.Sublist.refl _ | apply List.Sublist.cons_cons | apply List.Sublist.cons))) ?_) | (refine as_i (hS.subs (List.Sublist.refl _) (by repeat (first | exact List.Sublist.refl _ | apply List.Sublist.cons_cons | apply List.Sublist.cons))) ?_) | (refine bar_f hS ?_) | (refine ld_f hS 0 rfl rfl ?_) | (refine ldA_f hS 0 rfl rfl ?_) | (refine stN_f hS 0 rfl (Nat.le_of_ble_eq_true rfl) rfl rfl ?_; (conv => whnf); intro w1 hS) | (refine stM_f hS 0 rfl (Nat.le_of_ble_eq_true rfl) rfl ?_; (conv => whnf); intro w1 hS) | (refine fc_m (hp2 b _ (by have := hS.rd 0 rfl; simpa using this)) ?_; rintro v w3 ⟨rfl, hS'⟩; replace hS := hS.call0 hS') | (refine fc_m (hf1 _) ?_; rintro v w3 ⟨rfl, hS'⟩; replace hS := hS.call0 hS') | (refine fc_m (hf2 _) ?_; rintro v w3 ⟨rfl, hS'⟩; replace hS := hS.call0 hS') | (refine drawf TB_ok rfl (by kernel_rfl) (by kernel_rfl) hS (List.Sublist.refl _) (List.Sublist.refl _) ?_; intro w1 hS) | (refine br_t (by assumption) ?_) | (refine br_f (by assumption) ?_))
  exact ⟨rfl, hS.nil⟩
end Go.RV
