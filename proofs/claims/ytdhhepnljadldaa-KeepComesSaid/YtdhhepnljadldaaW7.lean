/- The laws of chapter 9, walked: KeepTells. Conditions: none. -/
import Derived.Test.YtdhhepnljadldaaW6
set_option maxRecDepth 20000
set_option linter.unusedVariables false
set_option linter.unusedSimpArgs false
namespace Go.RV
open Go Go.Proofs

theorem mayP_check (p : Pol) (hk : 0 ≤ p.kind) (ha : 0 ≤ p.age) : mayP p = checkP p := by
  rw [Bool.eq_iff_iff]
  simp only [mayP, checkP, Bool.and_eq_true, Bool.or_eq_true, Bool.not_eq_true', Bool.or_eq_false_iff, Bool.and_eq_false_iff, decide_eq_true_eq, decide_eq_false_iff_not, beq_iff_eq, beq_eq_false_iff_ne]
  omega

theorem tells_c (x y : Stp) (p : Pol) (hk : 0 ≤ p.kind) (ha : 0 ≤ p.age) (now : Int) (w : World) :
    Fc Try.prog 3 [.agg #[.int .u32 x.id, .int .u32 x.tick, .int .u32 y.id, .int .u32 y.tick], polV p, .int .u32 now] w fun v w' => v = .bool true ∧ St [] w w' [] := by
  have hm := mayP_check p hk ha
  have hck : (checkP p = true ∧ mayP p = true) ∨ (checkP p = false ∧ mayP p = false) := by cases h : checkP p <;> simp [hm, h]
  have CK : ∃ k : Int, (k = 0 ∧ mayP p = true ∨ k = 4 ∧ mayP p = false) ∧ ∀ w, Fc Try.prog 13 [polV p] w fun v w' => v = .int .i64 k ∧ St [] w w' [] := by
    rcases hck with ⟨h1, h2⟩ | ⟨h1, h2⟩
    · exact ⟨0, .inl ⟨rfl, h2⟩, fun w => by have := check_c p w; rw [h1] at this; exact this⟩
    · exact ⟨4, .inr ⟨rfl, h2⟩, fun w => by have := check_c p w; rw [h1] at this; exact this⟩
  have MAY := may_c p
  obtain ⟨k, hk, CK⟩ := CK
  rcases hk with ⟨rfl, hmay⟩ | ⟨rfl, hmay⟩
  all_goals rw [hmay] at MAY
  all_goals
    refine fc_i TB_ok Try.func3 rfl (by kernel_rfl) ?_
    have hS := Sf.refl w
    repeat ((conv => whnf); first | (refine nw_f hS ?_; intro b w1 hS) | (refine ld_f hS 0 rfl rfl ?_) | (refine ld_f hS 1 rfl rfl ?_) | (refine ldA_f hS 0 rfl rfl ?_) | (refine ldA_f hS 1 rfl rfl ?_) | (refine stN_f hS 0 rfl (Nat.le_of_ble_eq_true rfl) rfl rfl ?_; (conv => whnf); intro w1 hS) | (refine stN_f hS 1 rfl (Nat.le_of_ble_eq_true rfl) rfl rfl ?_; (conv => whnf); intro w1 hS) | (refine stM_f hS 0 rfl (Nat.le_of_ble_eq_true rfl) rfl ?_; (conv => whnf); intro w1 hS) | (refine stM_f hS 1 rfl (Nat.le_of_ble_eq_true rfl) rfl ?_; (conv => whnf); intro w1 hS))
    refine drawf TB_ok rfl (by kernel_rfl) (by kernel_rfl) hS (List.Sublist.refl _) (List.Sublist.refl _) ?_
    intro w1 hS
    repeat ((conv => whnf); apply q_i; focus (intro w1 hS; (conv => whnf); first | exact ⟨rfl, rfl⟩ | (refine ld_f hS 0 rfl rfl ?_; (conv => whnf); exact ⟨rfl, rfl⟩) | (refine ld_f hS 1 rfl rfl ?_; (conv => whnf); exact ⟨rfl, rfl⟩) | (refine ldA_f hS 0 rfl rfl ?_; (conv => whnf); exact ⟨rfl, rfl⟩) | (refine ldA_f hS 1 rfl rfl ?_; (conv => whnf); exact ⟨rfl, rfl⟩) | (refine .mk ⟨by decide, by decide⟩ ?_; (conv => whnf); exact ⟨rfl, rfl⟩) | (refine ldN_f hS 1 rfl (Nat.le_of_ble_eq_true rfl) ?_; (conv => whnf); exact ⟨rfl, rfl⟩)))
    (conv => whnf)
    refine ⟨?_, ?_⟩
    all_goals
      (conv => whnf)
      refine nw_f hS ?_
      intro b1 w1 hS
      (conv => whnf)
      refine as_i (hS.subs (List.Sublist.refl _) (by repeat (first | exact List.Sublist.refl _ | apply List.Sublist.cons_cons | apply List.Sublist.cons))) ?_
      (conv => whnf)
      refine nw_f hS ?_
      intro b2 w1 hS
      (conv => whnf)
      refine as_i (hS.subs (List.Sublist.refl _) (by repeat (first | exact List.Sublist.refl _ | apply List.Sublist.cons_cons | apply List.Sublist.cons))) ?_
      (conv => whnf)
      first | (refine stM_f hS 0 rfl (Nat.le_of_ble_eq_true rfl) rfl ?_; (conv => whnf); intro w1 hS) | (refine stM_f hS 1 rfl (Nat.le_of_ble_eq_true rfl) rfl ?_; (conv => whnf); intro w1 hS)
      refine as_i (hS.subs (List.Sublist.refl _) (by repeat (first | exact List.Sublist.refl _ | apply List.Sublist.cons_cons | apply List.Sublist.cons))) ?_
      repeat ((conv => whnf); apply q_i; focus (intro w1 hS; (conv => whnf); first | exact ⟨rfl, rfl⟩ | (refine ld_f hS 0 rfl rfl ?_; (conv => whnf); exact ⟨rfl, rfl⟩) | (refine ld_f hS 1 rfl rfl ?_; (conv => whnf); exact ⟨rfl, rfl⟩) | (refine ld_f hS 2 rfl rfl ?_; (conv => whnf); exact ⟨rfl, rfl⟩) | (refine ld_f hS 3 rfl rfl ?_; (conv => whnf); exact ⟨rfl, rfl⟩) | (refine ldA_f hS 0 rfl rfl ?_; (conv => whnf); exact ⟨rfl, rfl⟩) | (refine ldA_f hS 1 rfl rfl ?_; (conv => whnf); exact ⟨rfl, rfl⟩) | (refine ldA_f hS 2 rfl rfl ?_; (conv => whnf); exact ⟨rfl, rfl⟩) | (refine ldA_f hS 3 rfl rfl ?_; (conv => whnf); exact ⟨rfl, rfl⟩)))
      (conv => whnf)
      first | (refine stM_f hS 0 rfl (Nat.le_of_ble_eq_true rfl) rfl ?_; (conv => whnf); intro w1 hS) | (refine stM_f hS 1 rfl (Nat.le_of_ble_eq_true rfl) rfl ?_; (conv => whnf); intro w1 hS)
      repeat ((conv => whnf); first | (refine nw_f hS ?_; intro b w1 hS) | (refine ld_f hS 0 rfl rfl ?_) | (refine ld_f hS 1 rfl rfl ?_) | (refine ld_f hS 2 rfl rfl ?_) | (refine ld_f hS 3 rfl rfl ?_) | (refine ldA_f hS 0 rfl rfl ?_) | (refine ldA_f hS 1 rfl rfl ?_) | (refine ldA_f hS 2 rfl rfl ?_) | (refine ldA_f hS 3 rfl rfl ?_) | (refine stN_f hS 0 rfl (Nat.le_of_ble_eq_true rfl) rfl rfl ?_; (conv => whnf); intro w1 hS) | (refine stN_f hS 1 rfl (Nat.le_of_ble_eq_true rfl) rfl rfl ?_; (conv => whnf); intro w1 hS) | (refine stN_f hS 2 rfl (Nat.le_of_ble_eq_true rfl) rfl rfl ?_; (conv => whnf); intro w1 hS) | (refine stN_f hS 3 rfl (Nat.le_of_ble_eq_true rfl) rfl rfl ?_; (conv => whnf); intro w1 hS) | (refine stM_f hS 0 rfl (Nat.le_of_ble_eq_true rfl) rfl ?_; (conv => whnf); intro w1 hS) | (refine stM_f hS 1 rfl (Nat.le_of_ble_eq_true rfl) rfl ?_; (conv => whnf); intro w1 hS) | (refine stM_f hS 2 rfl (Nat.le_of_ble_eq_true rfl) rfl ?_; (conv => whnf); intro w1 hS) | (refine stM_f hS 3 rfl (Nat.le_of_ble_eq_true rfl) rfl ?_; (conv => whnf); intro w1 hS))
      refine drawf TB_ok rfl (by kernel_rfl) (by kernel_rfl) hS (List.Sublist.refl _) (List.Sublist.refl _) ?_
      intro w1 hS
      repeat ((conv => whnf); apply q_i; focus (intro w1 hS; (conv => whnf); first | exact ⟨rfl, rfl⟩ | (refine ld_f hS 0 rfl rfl ?_; (conv => whnf); exact ⟨rfl, rfl⟩) | (refine ld_f hS 1 rfl rfl ?_; (conv => whnf); exact ⟨rfl, rfl⟩) | (refine ld_f hS 2 rfl rfl ?_; (conv => whnf); exact ⟨rfl, rfl⟩) | (refine ld_f hS 3 rfl rfl ?_; (conv => whnf); exact ⟨rfl, rfl⟩) | (refine ldA_f hS 0 rfl rfl ?_; (conv => whnf); exact ⟨rfl, rfl⟩) | (refine ldA_f hS 1 rfl rfl ?_; (conv => whnf); exact ⟨rfl, rfl⟩) | (refine ldA_f hS 2 rfl rfl ?_; (conv => whnf); exact ⟨rfl, rfl⟩) | (refine ldA_f hS 3 rfl rfl ?_; (conv => whnf); exact ⟨rfl, rfl⟩)))
      (conv => whnf)
      refine fc_m (newer_c x y _) ?_
      rintro v w1 ⟨rfl, hS'⟩
      replace hS := hS.call0 hS'
      (conv => whnf)
      refine as_i hS ?_
      repeat ((conv => whnf); apply q_i; focus (intro w1 hS; (conv => whnf); first | exact ⟨rfl, rfl⟩ | (refine ld_f hS 0 rfl rfl ?_; (conv => whnf); exact ⟨rfl, rfl⟩) | (refine ld_f hS 1 rfl rfl ?_; (conv => whnf); exact ⟨rfl, rfl⟩) | (refine ld_f hS 2 rfl rfl ?_; (conv => whnf); exact ⟨rfl, rfl⟩) | (refine ld_f hS 3 rfl rfl ?_; (conv => whnf); exact ⟨rfl, rfl⟩) | (refine ldA_f hS 0 rfl rfl ?_; (conv => whnf); exact ⟨rfl, rfl⟩) | (refine ldA_f hS 1 rfl rfl ?_; (conv => whnf); exact ⟨rfl, rfl⟩) | (refine ldA_f hS 2 rfl rfl ?_; (conv => whnf); exact ⟨rfl, rfl⟩) | (refine ldA_f hS 3 rfl rfl ?_; (conv => whnf); exact ⟨rfl, rfl⟩)))
      (conv => whnf)
      refine fc_m (rnewer_c x y _) ?_
      rintro v w1 ⟨rfl, hS'⟩
      replace hS := hS.call0 hS'
      (conv => whnf)
      refine as_i hS ?_
      repeat ((conv => whnf); apply q_i; focus (intro w1 hS; (conv => whnf); first | exact ⟨rfl, rfl⟩ | (refine ld_f hS 0 rfl rfl ?_; (conv => whnf); exact ⟨rfl, rfl⟩) | (refine ld_f hS 1 rfl rfl ?_; (conv => whnf); exact ⟨rfl, rfl⟩) | (refine ld_f hS 2 rfl rfl ?_; (conv => whnf); exact ⟨rfl, rfl⟩) | (refine ld_f hS 3 rfl rfl ?_; (conv => whnf); exact ⟨rfl, rfl⟩) | (refine ldA_f hS 0 rfl rfl ?_; (conv => whnf); exact ⟨rfl, rfl⟩) | (refine ldA_f hS 1 rfl rfl ?_; (conv => whnf); exact ⟨rfl, rfl⟩) | (refine ldA_f hS 2 rfl rfl ?_; (conv => whnf); exact ⟨rfl, rfl⟩) | (refine ldA_f hS 3 rfl rfl ?_; (conv => whnf); exact ⟨rfl, rfl⟩)))
      (conv => whnf)
      refine br_i (fun _ => ?_) (fun h => absurd h (by simp))
      repeat ((conv => whnf); apply q_i; focus (intro w1 hS; (conv => whnf); first | exact ⟨rfl, rfl⟩ | (refine ld_f hS 0 rfl rfl ?_; (conv => whnf); exact ⟨rfl, rfl⟩) | (refine ld_f hS 1 rfl rfl ?_; (conv => whnf); exact ⟨rfl, rfl⟩) | (refine ld_f hS 2 rfl rfl ?_; (conv => whnf); exact ⟨rfl, rfl⟩) | (refine ld_f hS 3 rfl rfl ?_; (conv => whnf); exact ⟨rfl, rfl⟩) | (refine ldA_f hS 0 rfl rfl ?_; (conv => whnf); exact ⟨rfl, rfl⟩) | (refine ldA_f hS 1 rfl rfl ?_; (conv => whnf); exact ⟨rfl, rfl⟩) | (refine ldA_f hS 2 rfl rfl ?_; (conv => whnf); exact ⟨rfl, rfl⟩) | (refine ldA_f hS 3 rfl rfl ?_; (conv => whnf); exact ⟨rfl, rfl⟩)))
      (conv => whnf)
      refine fc_m (age_c x now _) ?_
      rintro v w1 ⟨rfl, hS'⟩
      replace hS := hS.call0 hS'
      (conv => whnf)
      refine as_i hS ?_
      repeat ((conv => whnf); apply q_i; focus (intro w1 hS; (conv => whnf); first | exact ⟨rfl, rfl⟩ | (refine ld_f hS 0 rfl rfl ?_; (conv => whnf); exact ⟨rfl, rfl⟩) | (refine ld_f hS 1 rfl rfl ?_; (conv => whnf); exact ⟨rfl, rfl⟩) | (refine ld_f hS 2 rfl rfl ?_; (conv => whnf); exact ⟨rfl, rfl⟩) | (refine ld_f hS 3 rfl rfl ?_; (conv => whnf); exact ⟨rfl, rfl⟩) | (refine ldA_f hS 0 rfl rfl ?_; (conv => whnf); exact ⟨rfl, rfl⟩) | (refine ldA_f hS 1 rfl rfl ?_; (conv => whnf); exact ⟨rfl, rfl⟩) | (refine ldA_f hS 2 rfl rfl ?_; (conv => whnf); exact ⟨rfl, rfl⟩) | (refine ldA_f hS 3 rfl rfl ?_; (conv => whnf); exact ⟨rfl, rfl⟩)))
      (conv => whnf)
      refine fc_m (rage_c x now _) ?_
      rintro v w1 ⟨rfl, hS'⟩
      replace hS := hS.call0 hS'
      (conv => whnf)
      refine as_i hS ?_
      repeat ((conv => whnf); apply q_i; focus (intro w1 hS; (conv => whnf); first | exact ⟨rfl, rfl⟩ | (refine ld_f hS 0 rfl rfl ?_; (conv => whnf); exact ⟨rfl, rfl⟩) | (refine ld_f hS 1 rfl rfl ?_; (conv => whnf); exact ⟨rfl, rfl⟩) | (refine ld_f hS 2 rfl rfl ?_; (conv => whnf); exact ⟨rfl, rfl⟩) | (refine ld_f hS 3 rfl rfl ?_; (conv => whnf); exact ⟨rfl, rfl⟩) | (refine ldA_f hS 0 rfl rfl ?_; (conv => whnf); exact ⟨rfl, rfl⟩) | (refine ldA_f hS 1 rfl rfl ?_; (conv => whnf); exact ⟨rfl, rfl⟩) | (refine ldA_f hS 2 rfl rfl ?_; (conv => whnf); exact ⟨rfl, rfl⟩) | (refine ldA_f hS 3 rfl rfl ?_; (conv => whnf); exact ⟨rfl, rfl⟩)))
      (conv => whnf)
      refine br_i (fun _ => ?_) (fun h => absurd h (by simp))
      repeat ((conv => whnf); apply q_i; focus (intro w1 hS; (conv => whnf); first | exact ⟨rfl, rfl⟩ | (refine ld_f hS 0 rfl rfl ?_; (conv => whnf); exact ⟨rfl, rfl⟩) | (refine ld_f hS 1 rfl rfl ?_; (conv => whnf); exact ⟨rfl, rfl⟩) | (refine ld_f hS 2 rfl rfl ?_; (conv => whnf); exact ⟨rfl, rfl⟩) | (refine ld_f hS 3 rfl rfl ?_; (conv => whnf); exact ⟨rfl, rfl⟩) | (refine ldA_f hS 0 rfl rfl ?_; (conv => whnf); exact ⟨rfl, rfl⟩) | (refine ldA_f hS 1 rfl rfl ?_; (conv => whnf); exact ⟨rfl, rfl⟩) | (refine ldA_f hS 2 rfl rfl ?_; (conv => whnf); exact ⟨rfl, rfl⟩) | (refine ldA_f hS 3 rfl rfl ?_; (conv => whnf); exact ⟨rfl, rfl⟩)))
      (conv => whnf)
      refine fc_m (CK _) ?_
      rintro v w1 ⟨rfl, hS'⟩
      replace hS := hS.call0 hS'
      (conv => whnf)
      refine as_i hS ?_
      repeat ((conv => whnf); apply q_i; focus (intro w1 hS; (conv => whnf); first | exact ⟨rfl, rfl⟩ | (refine ld_f hS 0 rfl rfl ?_; (conv => whnf); exact ⟨rfl, rfl⟩) | (refine ld_f hS 1 rfl rfl ?_; (conv => whnf); exact ⟨rfl, rfl⟩) | (refine ld_f hS 2 rfl rfl ?_; (conv => whnf); exact ⟨rfl, rfl⟩) | (refine ld_f hS 3 rfl rfl ?_; (conv => whnf); exact ⟨rfl, rfl⟩) | (refine ldA_f hS 0 rfl rfl ?_; (conv => whnf); exact ⟨rfl, rfl⟩) | (refine ldA_f hS 1 rfl rfl ?_; (conv => whnf); exact ⟨rfl, rfl⟩) | (refine ldA_f hS 2 rfl rfl ?_; (conv => whnf); exact ⟨rfl, rfl⟩) | (refine ldA_f hS 3 rfl rfl ?_; (conv => whnf); exact ⟨rfl, rfl⟩)))
      (conv => whnf)
      refine fc_m (MAY _) ?_
      rintro v w1 ⟨rfl, hS'⟩
      replace hS := hS.call0 hS'
      (conv => whnf)
      refine as_i hS ?_
      repeat ((conv => whnf); apply q_i; focus (intro w1 hS; (conv => whnf); first | exact ⟨rfl, rfl⟩ | (refine ld_f hS 0 rfl rfl ?_; (conv => whnf); exact ⟨rfl, rfl⟩) | (refine ld_f hS 1 rfl rfl ?_; (conv => whnf); exact ⟨rfl, rfl⟩) | (refine ld_f hS 2 rfl rfl ?_; (conv => whnf); exact ⟨rfl, rfl⟩) | (refine ld_f hS 3 rfl rfl ?_; (conv => whnf); exact ⟨rfl, rfl⟩) | (refine ldA_f hS 0 rfl rfl ?_; (conv => whnf); exact ⟨rfl, rfl⟩) | (refine ldA_f hS 1 rfl rfl ?_; (conv => whnf); exact ⟨rfl, rfl⟩) | (refine ldA_f hS 2 rfl rfl ?_; (conv => whnf); exact ⟨rfl, rfl⟩) | (refine ldA_f hS 3 rfl rfl ?_; (conv => whnf); exact ⟨rfl, rfl⟩)))
      (conv => whnf)
      refine fc_m (CK _) ?_
      rintro v w1 ⟨rfl, hS'⟩
      replace hS := hS.call0 hS'
      (conv => whnf)
      refine as_i hS ?_
      repeat ((conv => whnf); apply q_i; focus (intro w1 hS; (conv => whnf); first | exact ⟨rfl, rfl⟩ | (refine ld_f hS 0 rfl rfl ?_; (conv => whnf); exact ⟨rfl, rfl⟩) | (refine ld_f hS 1 rfl rfl ?_; (conv => whnf); exact ⟨rfl, rfl⟩) | (refine ld_f hS 2 rfl rfl ?_; (conv => whnf); exact ⟨rfl, rfl⟩) | (refine ld_f hS 3 rfl rfl ?_; (conv => whnf); exact ⟨rfl, rfl⟩) | (refine ldA_f hS 0 rfl rfl ?_; (conv => whnf); exact ⟨rfl, rfl⟩) | (refine ldA_f hS 1 rfl rfl ?_; (conv => whnf); exact ⟨rfl, rfl⟩) | (refine ldA_f hS 2 rfl rfl ?_; (conv => whnf); exact ⟨rfl, rfl⟩) | (refine ldA_f hS 3 rfl rfl ?_; (conv => whnf); exact ⟨rfl, rfl⟩)))
      (conv => whnf)
      first
        | skip
          refine fc_m (CK _) ?_
          rintro v w1 ⟨rfl, hS'⟩
          replace hS := hS.call0 hS'
          (conv => whnf)
          refine as_i hS ?_
          repeat ((conv => whnf); apply q_i; focus (intro w1 hS; (conv => whnf); first | exact ⟨rfl, rfl⟩ | (refine ld_f hS 0 rfl rfl ?_; (conv => whnf); exact ⟨rfl, rfl⟩) | (refine ld_f hS 1 rfl rfl ?_; (conv => whnf); exact ⟨rfl, rfl⟩) | (refine ld_f hS 2 rfl rfl ?_; (conv => whnf); exact ⟨rfl, rfl⟩) | (refine ld_f hS 3 rfl rfl ?_; (conv => whnf); exact ⟨rfl, rfl⟩) | (refine ldA_f hS 0 rfl rfl ?_; (conv => whnf); exact ⟨rfl, rfl⟩) | (refine ldA_f hS 1 rfl rfl ?_; (conv => whnf); exact ⟨rfl, rfl⟩) | (refine ldA_f hS 2 rfl rfl ?_; (conv => whnf); exact ⟨rfl, rfl⟩) | (refine ldA_f hS 3 rfl rfl ?_; (conv => whnf); exact ⟨rfl, rfl⟩)))
          (conv => whnf)
        | skip
      refine fc_m (awake_c _) ?_
      rintro v w1 ⟨rfl, hS'⟩
      replace hS := hS.call0 hS'
      (conv => whnf)
      refine as_i hS ?_
      repeat ((conv => whnf); apply q_i; focus (intro w1 hS; (conv => whnf); first | exact ⟨rfl, rfl⟩ | (refine ld_f hS 0 rfl rfl ?_; (conv => whnf); exact ⟨rfl, rfl⟩) | (refine ld_f hS 1 rfl rfl ?_; (conv => whnf); exact ⟨rfl, rfl⟩) | (refine ld_f hS 2 rfl rfl ?_; (conv => whnf); exact ⟨rfl, rfl⟩) | (refine ld_f hS 3 rfl rfl ?_; (conv => whnf); exact ⟨rfl, rfl⟩) | (refine ldA_f hS 0 rfl rfl ?_; (conv => whnf); exact ⟨rfl, rfl⟩) | (refine ldA_f hS 1 rfl rfl ?_; (conv => whnf); exact ⟨rfl, rfl⟩) | (refine ldA_f hS 2 rfl rfl ?_; (conv => whnf); exact ⟨rfl, rfl⟩) | (refine ldA_f hS 3 rfl rfl ?_; (conv => whnf); exact ⟨rfl, rfl⟩)))
      (conv => whnf)
      repeat ((conv => whnf); first | (refine nw_f hS ?_; intro b w1 hS) | (refine ld_f hS 0 rfl rfl ?_) | (refine ld_f hS 1 rfl rfl ?_) | (refine ld_f hS 2 rfl rfl ?_) | (refine ld_f hS 3 rfl rfl ?_) | (refine ldA_f hS 0 rfl rfl ?_) | (refine ldA_f hS 1 rfl rfl ?_) | (refine ldA_f hS 2 rfl rfl ?_) | (refine ldA_f hS 3 rfl rfl ?_) | (refine stN_f hS 0 rfl (Nat.le_of_ble_eq_true rfl) rfl rfl ?_; (conv => whnf); intro w1 hS) | (refine stN_f hS 1 rfl (Nat.le_of_ble_eq_true rfl) rfl rfl ?_; (conv => whnf); intro w1 hS) | (refine stN_f hS 2 rfl (Nat.le_of_ble_eq_true rfl) rfl rfl ?_; (conv => whnf); intro w1 hS) | (refine stN_f hS 3 rfl (Nat.le_of_ble_eq_true rfl) rfl rfl ?_; (conv => whnf); intro w1 hS) | (refine stM_f hS 0 rfl (Nat.le_of_ble_eq_true rfl) rfl ?_; (conv => whnf); intro w1 hS) | (refine stM_f hS 1 rfl (Nat.le_of_ble_eq_true rfl) rfl ?_; (conv => whnf); intro w1 hS) | (refine stM_f hS 2 rfl (Nat.le_of_ble_eq_true rfl) rfl ?_; (conv => whnf); intro w1 hS) | (refine stM_f hS 3 rfl (Nat.le_of_ble_eq_true rfl) rfl ?_; (conv => whnf); intro w1 hS))
      exact ⟨rfl, hS.nil⟩
end Go.RV
