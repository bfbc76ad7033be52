/- The laws of chapter 9, walked: KeepThins. Conditions: none. -/
import Derived.Test.YtdhhepnljadldaaW11
set_option maxRecDepth 20000
set_option linter.unusedVariables false
set_option linter.unusedSimpArgs false
namespace Go.RV
open Go Go.Proofs

theorem br_t {c : Bool} {A B : Prop} (h : c = true) (k : A) : brK c A B := br_i (fun _ => k) (fun h' => absurd (h.symm.trans h') (by decide))
theorem br_f {c : Bool} {A B : Prop} (h : c = false) (k : B) : brK c A B := br_i (fun h' => absurd (h.symm.trans h') (by decide)) (fun _ => k)

def Thin (w a b s t : Int) : Prop := decide (w ≤ a) = false ∨ (decide (w ≤ a) = true ∧ decide (w ≤ b) = false) ∨ (decide (w ≤ a) = true ∧ decide (w ≤ b) = true ∧ (IntKind.u32.wrap (s.tdiv w) == IntKind.u32.wrap (t.tdiv w)) = false)
theorem thin_of {w a b s t : Int} (h : w ≤ a → w ≤ b → IntKind.u32.wrap (s.tdiv w) = IntKind.u32.wrap (t.tdiv w) → False) : Thin w a b s t := by
  unfold Thin
  by_cases h1 : w ≤ a
  · by_cases h2 : w ≤ b
    · right; right
      refine ⟨decide_eq_true h1, decide_eq_true h2, ?_⟩
      rw [beq_eq_false_iff_ne]
      exact fun e => h h1 h2 e
    · right; left; exact ⟨decide_eq_true h1, decide_eq_false h2⟩
  · left; exact decide_eq_false h1
theorem thin_facts {xs : List Stp} (hx : Ticked xs) {now : Int} {s t : Stp} (hs : s ∈ kept ⟨1, 0, 0⟩ xs now) (ht : t ∈ kept ⟨1, 0, 0⟩ xs now) (hne : s ≠ t) :
    Thin 8 (ageP s now) (ageP t now) s.tick t.tick ∧ Thin 64 (ageP s now) (ageP t now) s.tick t.tick ∧ decide (512 ≤ ageP s now) = false := by
  obtain ⟨hs1, hs2⟩ := List.mem_filter.1 hs
  obtain ⟨ht1, ht2⟩ := List.mem_filter.1 ht
  have gs := hx s hs1
  have gt := hx t ht1
  have ks := ((keepOne_iff _ hx gs now).1 hs2).2 rfl
  have kt := ((keepOne_iff _ hx gt now).1 ht2).2 rfl
  have hd : Nw9 s t ∨ Nw9 t s := by
    unfold Nw9
    have : ¬ (s.id = t.id ∧ s.tick = t.tick) := fun h => hne (by cases s; cases t; simp_all)
    omega
  have e8 : IntKind.u32.wrap (s.tick.tdiv 8) = IntKind.u32.wrap (t.tick.tdiv 8) → Same 8 s t := by
    rw [Int.tdiv_eq_ediv_of_nonneg gs.1, Int.tdiv_eq_ediv_of_nonneg gt.1]
    simp only [wrap_u32_mod]
    unfold Same
    omega
  have e64 : IntKind.u32.wrap (s.tick.tdiv 64) = IntKind.u32.wrap (t.tick.tdiv 64) → Same 64 s t := by
    rw [Int.tdiv_eq_ediv_of_nonneg gs.1, Int.tdiv_eq_ediv_of_nonneg gt.1]
    simp only [wrap_u32_mod]
    unfold Same
    omega
  refine ⟨thin_of fun ha hb e => ?_, thin_of fun ha hb e => ?_, decide_eq_false ?_⟩
  · have sm := e8 e
    rcases hd with hd | hd
    · rcases kt with h | ⟨_, h⟩ | ⟨_, _, h⟩
      · omega
      · exact h s hs1 sm hd
      · exact h s hs1 (same64 sm) hd
    · rcases ks with h | ⟨_, h⟩ | ⟨_, _, h⟩
      · omega
      · exact h t ht1 sm.symm hd
      · exact h t ht1 (same64 sm.symm) hd
  · have sm := e64 e
    rcases hd with hd | hd
    · rcases kt with h | ⟨_, h⟩ | ⟨_, _, h⟩
      · omega
      · omega
      · exact h s hs1 sm hd
    · rcases ks with h | ⟨_, h⟩ | ⟨_, _, h⟩
      · omega
      · omega
      · exact h t ht1 sm.symm hd
  · rcases ks with h | ⟨h, _⟩ | ⟨_, h, _⟩ <;> omega
theorem newest_kept {xs : List Stp} (hx : Ticked xs) {now : Int} {s : Stp} (hs : s ∈ xs) (h1 : ∀ x ∈ xs, K9.newer x s = false) (h2 : ageP s now < 512) : s ∈ kept ⟨1, 0, 0⟩ xs now := by
  refine List.mem_filter.2 ⟨hs, ?_⟩
  rw [keepOne_iff _ hx (hx s hs)]
  have h3 : ∀ x ∈ xs, ¬ Nw9 x s := fun x hm hn => by
    have := (newer_iff x s).2 hn
    rw [h1 x hm] at this
    cases this
  refine ⟨fun h => absurd h (by decide), fun _ => ?_⟩
  by_cases h8 : ageP s now < 8
  · left; exact h8
  · by_cases h64 : ageP s now < 64
    · right; left; exact ⟨h64, fun x hm _ => h3 x hm⟩
    · right; right; exact ⟨by omega, h2, fun x hm _ => h3 x hm⟩

set_option maxHeartbeats 1600000 in
theorem thins_c (A : Option Addr) (c : Nat) (xs : List Stp) (hx : Ticked xs) (now : Int) (g : 0 ≤ now ∧ now ≤ 4294967295) (w : World) (hR : Rd w A (flat encS xs)) :
    Fc Try.prog 7 [.slice A xs.length c, .int .u32 now] w fun v w' => v = .bool true ∧ St [] w w' [] := by
  refine fc_i TB_ok Try.func7 rfl (by kernel_rfl) ?_
  have hS := Sf.refl w
  repeat ((conv => whnf); first | (refine nw_f hS ?_; intro b w1 hS) | (refine ld_f hS 0 rfl rfl ?_) | (refine ld_f hS 1 rfl rfl ?_) | (refine ldA_f hS 0 rfl rfl ?_) | (refine ldA_f hS 1 rfl rfl ?_) | (refine stN_f hS 0 rfl (Nat.le_of_ble_eq_true rfl) rfl rfl ?_; (conv => whnf); intro w1 hS) | (refine stN_f hS 1 rfl (Nat.le_of_ble_eq_true rfl) rfl rfl ?_; (conv => whnf); intro w1 hS) | (refine stM_f hS 0 rfl (Nat.le_of_ble_eq_true rfl) rfl ?_; (conv => whnf); intro w1 hS) | (refine stM_f hS 1 rfl (Nat.le_of_ble_eq_true rfl) rfl ?_; (conv => whnf); intro w1 hS))
  refine br_i (fun hb => ?_) (fun hb => ?_)
  · repeat ((conv => whnf); first | (refine nw_f hS ?_; intro b w1 hS) | (refine ld_f hS 0 rfl rfl ?_) | (refine ldA_f hS 0 rfl rfl ?_) | (refine stN_f hS 0 rfl (Nat.le_of_ble_eq_true rfl) rfl rfl ?_; (conv => whnf); intro w1 hS) | (refine stM_f hS 0 rfl (Nat.le_of_ble_eq_true rfl) rfl ?_; (conv => whnf); intro w1 hS))
    refine fc_m (awake_c _) ?_
    rintro v w1 ⟨rfl, hS'⟩
    replace hS := hS.call0 hS'
    repeat ((conv => whnf); first | (refine nw_f hS ?_; intro b w1 hS) | (refine ld_f hS 0 rfl rfl ?_) | (refine ldA_f hS 0 rfl rfl ?_) | (refine stN_f hS 0 rfl (Nat.le_of_ble_eq_true rfl) rfl rfl ?_; (conv => whnf); intro w1 hS) | (refine stM_f hS 0 rfl (Nat.le_of_ble_eq_true rfl) rfl ?_; (conv => whnf); intro w1 hS))
    exact ⟨rfl, hS.nil⟩
  have hn : xs.length ≤ 100 := by simp at hb; omega
  repeat ((conv => whnf); first | (refine nw_f hS ?_; intro b w1 hS) | (refine ld_f hS 0 rfl rfl ?_) | (refine ld_f hS 1 rfl rfl ?_) | (refine ldA_f hS 0 rfl rfl ?_) | (refine ldA_f hS 1 rfl rfl ?_) | (refine stN_f hS 0 rfl (Nat.le_of_ble_eq_true rfl) rfl rfl ?_; (conv => whnf); intro w1 hS) | (refine stN_f hS 1 rfl (Nat.le_of_ble_eq_true rfl) rfl rfl ?_; (conv => whnf); intro w1 hS) | (refine stM_f hS 0 rfl (Nat.le_of_ble_eq_true rfl) rfl ?_; (conv => whnf); intro w1 hS) | (refine stM_f hS 1 rfl (Nat.le_of_ble_eq_true rfl) rfl ?_; (conv => whnf); intro w1 hS))
  refine fc_m (stages_c _) ?_
  rintro v w1 ⟨rfl, hS'⟩
  replace hS := hS.call0 hS'
  repeat ((conv => whnf); first | (refine nw_f hS ?_; intro b w1 hS) | (refine ld_f hS 0 rfl rfl ?_) | (refine ld_f hS 1 rfl rfl ?_) | (refine ldA_f hS 0 rfl rfl ?_) | (refine ldA_f hS 1 rfl rfl ?_) | (refine stN_f hS 0 rfl (Nat.le_of_ble_eq_true rfl) rfl rfl ?_; (conv => whnf); intro w1 hS) | (refine stN_f hS 1 rfl (Nat.le_of_ble_eq_true rfl) rfl rfl ?_; (conv => whnf); intro w1 hS) | (refine stM_f hS 0 rfl (Nat.le_of_ble_eq_true rfl) rfl ?_; (conv => whnf); intro w1 hS) | (refine stM_f hS 1 rfl (Nat.le_of_ble_eq_true rfl) rfl ?_; (conv => whnf); intro w1 hS))
  refine fc_m (kept_c ⟨1, 0, 0⟩ A c xs now _ (hR.below hS.nil) (by omega)) ?_
  have hlk : (kept ⟨1, 0, 0⟩ xs now).length ≤ xs.length := List.length_filter_le _ _
  generalize hke : kept ⟨1, 0, 0⟩ xs now = ks at *
  rintro v w1 ⟨L1, h1, hS'⟩
  replace hS := hS.callF hS'
  obtain ⟨A1, c1, rfl, h1⟩ := h1.open
  have m1 : ∀ x ∈ L1, x ∈ L1 ++ [] := fun x hx => by simp [hx]
  repeat ((conv => whnf); first | (refine nw_f hS ?_; intro b w1 hS) | (refine ld_f hS 0 rfl rfl ?_) | (refine ld_f hS 1 rfl rfl ?_) | (refine ldA_f hS 0 rfl rfl ?_) | (refine ldA_f hS 1 rfl rfl ?_) | (refine stN_f hS 0 rfl (Nat.le_of_ble_eq_true rfl) rfl rfl ?_; (conv => whnf); intro w1 hS) | (refine stN_f hS 1 rfl (Nat.le_of_ble_eq_true rfl) rfl rfl ?_; (conv => whnf); intro w1 hS) | (refine stM_f hS 0 rfl (Nat.le_of_ble_eq_true rfl) rfl ?_; (conv => whnf); intro w1 hS) | (refine stM_f hS 1 rfl (Nat.le_of_ble_eq_true rfl) rfl ?_; (conv => whnf); intro w1 hS))
  refine loop_i TB_ok (fun i : Nat => [(6, .int .i64 i)]) (fun i w' => i ≤ ks.length ∧ Sf [] w w' (L1 ++ []) []) (fun i => ks.length - i) 0 rfl ⟨Nat.zero_le _, hS⟩ ?_
  rintro i us w2 ⟨hi, hS⟩
  (conv => whnf)
  refine br_i (fun hb => ?_) (fun hb => ?_)
  · have hlt : i < ks.length := by simpa using hb
    repeat ((conv => whnf); first | (refine nw_f hS ?_; intro b w1 hS) | (refine ld_f hS 0 rfl rfl ?_) | (refine ld_f hS 1 rfl rfl ?_) | (refine ldA_f hS 0 rfl rfl ?_) | (refine ldA_f hS 1 rfl rfl ?_) | (refine stN_f hS 0 rfl (Nat.le_of_ble_eq_true rfl) rfl rfl ?_; (conv => whnf); intro w1 hS) | (refine stN_f hS 1 rfl (Nat.le_of_ble_eq_true rfl) rfl rfl ?_; (conv => whnf); intro w1 hS) | (refine stM_f hS 0 rfl (Nat.le_of_ble_eq_true rfl) rfl ?_; (conv => whnf); intro w1 hS) | (refine stM_f hS 1 rfl (Nat.le_of_ble_eq_true rfl) rfl ?_; (conv => whnf); intro w1 hS))
    refine loop_i TB_ok (fun k : Nat => [(7, .int .i64 k)]) (fun k w' => k ≤ ks.length ∧ Sf [] w w' (L1 ++ []) []) (fun k => ks.length - k) 0 rfl ⟨Nat.zero_le _, hS⟩ ?_
    rintro k us w3 ⟨hk, hS⟩
    (conv => whnf)
    refine br_i (fun hb => ?_) (fun hb => ?_)
    · have hkt : k < ks.length := by simpa using hb
      obtain ⟨b1, o1, rfl⟩ := (h1.rdM hS m1).form (flat_ne encS_len (by omega) hlt)
      repeat ((conv => whnf); first | (refine nw_f hS ?_; intro b w1 hS) | (refine ld_f hS 0 rfl rfl ?_) | (refine ld_f hS 1 rfl rfl ?_) | (refine ldA_f hS 0 rfl rfl ?_) | (refine ldA_f hS 1 rfl rfl ?_) | (refine stN_f hS 0 rfl (Nat.le_of_ble_eq_true rfl) rfl rfl ?_; (conv => whnf); intro w1 hS) | (refine stN_f hS 1 rfl (Nat.le_of_ble_eq_true rfl) rfl rfl ?_; (conv => whnf); intro w1 hS) | (refine stM_f hS 0 rfl (Nat.le_of_ble_eq_true rfl) rfl ?_; (conv => whnf); intro w1 hS) | (refine stM_f hS 1 rfl (Nat.le_of_ble_eq_true rfl) rfl ?_; (conv => whnf); intro w1 hS))
      refine drawf TB_ok rfl (by kernel_rfl) (by kernel_rfl) hS (List.Sublist.refl _) (List.Sublist.refl _) ?_
      intro w1 hS
      repeat ((conv => whnf); apply q_i; focus (intro w1 hS; (conv => whnf); first | exact ⟨rfl, rfl⟩ | (refine ld_f hS 0 rfl rfl ?_; (conv => whnf); exact ⟨rfl, rfl⟩) | (refine ld_f hS 1 rfl rfl ?_; (conv => whnf); exact ⟨rfl, rfl⟩) | (refine ldA_f hS 0 rfl rfl ?_; (conv => whnf); exact ⟨rfl, rfl⟩) | (refine ldA_f hS 1 rfl rfl ?_; (conv => whnf); exact ⟨rfl, rfl⟩) | (refine .mk ⟨by omega, by omega⟩ ?_; refine ix_i rfl ?_; (conv => whnf); exact ⟨rfl, rfl⟩) | (refine ldN_el encS_len (h1.rdM hS m1).at hlt rfl rfl ?_; (conv => whnf); exact ⟨rfl, rfl⟩) | (refine ldN_el encS_len (h1.rdM hS m1).at hkt rfl rfl ?_; (conv => whnf); exact ⟨rfl, rfl⟩) | (refine eqStp_i ks[i] ks[k] ?_; (conv => whnf); exact ⟨rfl, rfl⟩)))
      (conv => whnf)
      refine fc_m (age_c ks[i] now _) ?_
      rintro v w4 ⟨rfl, hS'⟩
      replace hS := hS.call0 hS'
      (conv => whnf)
      refine as_i hS ?_
      repeat ((conv => whnf); apply q_i; focus (intro w1 hS; (conv => whnf); first | exact ⟨rfl, rfl⟩ | (refine ld_f hS 0 rfl rfl ?_; (conv => whnf); exact ⟨rfl, rfl⟩) | (refine ld_f hS 1 rfl rfl ?_; (conv => whnf); exact ⟨rfl, rfl⟩) | (refine ldA_f hS 0 rfl rfl ?_; (conv => whnf); exact ⟨rfl, rfl⟩) | (refine ldA_f hS 1 rfl rfl ?_; (conv => whnf); exact ⟨rfl, rfl⟩) | (refine .mk ⟨by omega, by omega⟩ ?_; refine ix_i rfl ?_; (conv => whnf); exact ⟨rfl, rfl⟩) | (refine ldN_el encS_len (h1.rdM hS m1).at hlt rfl rfl ?_; (conv => whnf); exact ⟨rfl, rfl⟩) | (refine ldN_el encS_len (h1.rdM hS m1).at hkt rfl rfl ?_; (conv => whnf); exact ⟨rfl, rfl⟩) | (refine eqStp_i ks[i] ks[k] ?_; (conv => whnf); exact ⟨rfl, rfl⟩)))
      (conv => whnf)
      refine fc_m (age_c ks[k] now _) ?_
      rintro v w4 ⟨rfl, hS'⟩
      replace hS := hS.call0 hS'
      (conv => whnf)
      refine as_i hS ?_
      repeat ((conv => whnf); apply q_i; focus (intro w1 hS; (conv => whnf); first | exact ⟨rfl, rfl⟩ | (refine ld_f hS 0 rfl rfl ?_; (conv => whnf); exact ⟨rfl, rfl⟩) | (refine ld_f hS 1 rfl rfl ?_; (conv => whnf); exact ⟨rfl, rfl⟩) | (refine ldA_f hS 0 rfl rfl ?_; (conv => whnf); exact ⟨rfl, rfl⟩) | (refine ldA_f hS 1 rfl rfl ?_; (conv => whnf); exact ⟨rfl, rfl⟩) | (refine .mk ⟨by omega, by omega⟩ ?_; refine ix_i rfl ?_; (conv => whnf); exact ⟨rfl, rfl⟩) | (refine ldN_el encS_len (h1.rdM hS m1).at hlt rfl rfl ?_; (conv => whnf); exact ⟨rfl, rfl⟩) | (refine ldN_el encS_len (h1.rdM hS m1).at hkt rfl rfl ?_; (conv => whnf); exact ⟨rfl, rfl⟩) | (refine eqStp_i ks[i] ks[k] ?_; (conv => whnf); exact ⟨rfl, rfl⟩)))
      repeat ((conv => whnf); first | (refine nw_f hS ?_; intro b w1 hS) | (refine ld_f hS 0 rfl rfl ?_) | (refine ld_f hS 1 rfl rfl ?_) | (refine ldA_f hS 0 rfl rfl ?_) | (refine ldA_f hS 1 rfl rfl ?_) | (refine stN_f hS 0 rfl (Nat.le_of_ble_eq_true rfl) rfl rfl ?_; (conv => whnf); intro w1 hS) | (refine stN_f hS 1 rfl (Nat.le_of_ble_eq_true rfl) rfl rfl ?_; (conv => whnf); intro w1 hS) | (refine stM_f hS 0 rfl (Nat.le_of_ble_eq_true rfl) rfl ?_; (conv => whnf); intro w1 hS) | (refine stM_f hS 1 rfl (Nat.le_of_ble_eq_true rfl) rfl ?_; (conv => whnf); intro w1 hS))
      refine drawf TB_ok rfl (by kernel_rfl) (by kernel_rfl) hS (List.Sublist.refl _) (List.Sublist.refl _) ?_
      intro w1 hS
      repeat ((conv => whnf); apply q_i; focus (intro w1 hS; (conv => whnf); first | exact ⟨rfl, rfl⟩ | (refine ld_f hS 0 rfl rfl ?_; (conv => whnf); exact ⟨rfl, rfl⟩) | (refine ld_f hS 1 rfl rfl ?_; (conv => whnf); exact ⟨rfl, rfl⟩) | (refine ldA_f hS 0 rfl rfl ?_; (conv => whnf); exact ⟨rfl, rfl⟩) | (refine ldA_f hS 1 rfl rfl ?_; (conv => whnf); exact ⟨rfl, rfl⟩) | (refine .mk ⟨by omega, by omega⟩ ?_; refine ix_i rfl ?_; (conv => whnf); exact ⟨rfl, rfl⟩) | (refine ldN_el encS_len (h1.rdM hS m1).at hlt rfl rfl ?_; (conv => whnf); exact ⟨rfl, rfl⟩) | (refine ldN_el encS_len (h1.rdM hS m1).at hkt rfl rfl ?_; (conv => whnf); exact ⟨rfl, rfl⟩) | (refine eqStp_i ks[i] ks[k] ?_; (conv => whnf); exact ⟨rfl, rfl⟩)))
      (conv => whnf)
      refine br_i (fun hq => ?_) (fun hq => ?_)
      · repeat ((conv => whnf); first | (refine nw_f hS ?_; intro b w1 hS) | (refine ld_f hS 0 rfl rfl ?_) | (refine ld_f hS 1 rfl rfl ?_) | (refine ldA_f hS 0 rfl rfl ?_) | (refine ldA_f hS 1 rfl rfl ?_) | (refine stN_f hS 0 rfl (Nat.le_of_ble_eq_true rfl) rfl rfl ?_; (conv => whnf); intro w1 hS) | (refine stN_f hS 1 rfl (Nat.le_of_ble_eq_true rfl) rfl rfl ?_; (conv => whnf); intro w1 hS) | (refine stM_f hS 0 rfl (Nat.le_of_ble_eq_true rfl) rfl ?_; (conv => whnf); intro w1 hS) | (refine stM_f hS 1 rfl (Nat.le_of_ble_eq_true rfl) rfl ?_; (conv => whnf); intro w1 hS))
        refine ⟨rfl, k + 1, ?_, ⟨by omega, hS⟩, by omega⟩
        rw [wi hkt (by omega)]
        rfl
      · repeat ((conv => whnf); first | (refine nw_f hS ?_; intro b w1 hS) | (refine ld_f hS 0 rfl rfl ?_) | (refine ld_f hS 1 rfl rfl ?_) | (refine ldA_f hS 0 rfl rfl ?_) | (refine ldA_f hS 1 rfl rfl ?_) | (refine stN_f hS 0 rfl (Nat.le_of_ble_eq_true rfl) rfl rfl ?_; (conv => whnf); intro w1 hS) | (refine stN_f hS 1 rfl (Nat.le_of_ble_eq_true rfl) rfl rfl ?_; (conv => whnf); intro w1 hS) | (refine stM_f hS 0 rfl (Nat.le_of_ble_eq_true rfl) rfl ?_; (conv => whnf); intro w1 hS) | (refine stM_f hS 1 rfl (Nat.le_of_ble_eq_true rfl) rfl ?_; (conv => whnf); intro w1 hS))
        refine drawf TB_ok rfl (by kernel_rfl) (by kernel_rfl) hS (List.Sublist.refl _) (List.Sublist.refl _) ?_
        intro w1 hS
        have hmi : ks[i] ∈ kept ⟨1, 0, 0⟩ xs now := by rw [hke]; exact List.getElem_mem hlt
        have hmk : ks[k] ∈ kept ⟨1, 0, 0⟩ xs now := by rw [hke]; exact List.getElem_mem hkt
        obtain ⟨f8, f64, f512⟩ := thin_facts hx hmi hmk (of_decide_eq_false hq)
        rcases f8 with f1 | ⟨f1, f2⟩ | ⟨f1, f2, f3⟩
        all_goals rcases f64 with f4 | ⟨f4, f5⟩ | ⟨f4, f5, f6⟩
        all_goals
          repeat' ((conv => whnf); first | (apply q_i; focus (intro w1 hS; (conv => whnf); first | exact ⟨rfl, rfl⟩ | (refine ld_f hS 0 rfl rfl ?_; (conv => whnf); exact ⟨rfl, rfl⟩) | (refine ld_f hS 1 rfl rfl ?_; (conv => whnf); exact ⟨rfl, rfl⟩) | (refine ldA_f hS 0 rfl rfl ?_; (conv => whnf); exact ⟨rfl, rfl⟩) | (refine ldA_f hS 1 rfl rfl ?_; (conv => whnf); exact ⟨rfl, rfl⟩) | (refine .mk ⟨by omega, by omega⟩ ?_; refine ix_i rfl ?_; (conv => whnf); exact ⟨rfl, rfl⟩) | (refine ld_el encS_len (h1.rdM hS m1).at (k := 1) hlt (by omega) rfl (v := .int .u32 ks[i].tick) rfl ?_; (conv => whnf); exact ⟨rfl, rfl⟩) | (refine ld_el encS_len (h1.rdM hS m1).at (k := 1) hkt (by omega) rfl (v := .int .u32 ks[k].tick) rfl ?_; (conv => whnf); exact ⟨rfl, rfl⟩) | (refine .mk (by decide) ?_; (conv => whnf); exact ⟨rfl, rfl⟩))) | (refine br_t (by assumption) ?_) | (refine br_f (by assumption) ?_))
          repeat ((conv => whnf); first | (refine nw_f hS ?_; intro b w1 hS) | (refine ld_f hS 0 rfl rfl ?_) | (refine ld_f hS 1 rfl rfl ?_) | (refine ldA_f hS 0 rfl rfl ?_) | (refine ldA_f hS 1 rfl rfl ?_) | (refine stN_f hS 0 rfl (Nat.le_of_ble_eq_true rfl) rfl rfl ?_; (conv => whnf); intro w1 hS) | (refine stN_f hS 1 rfl (Nat.le_of_ble_eq_true rfl) rfl rfl ?_; (conv => whnf); intro w1 hS) | (refine stM_f hS 0 rfl (Nat.le_of_ble_eq_true rfl) rfl ?_; (conv => whnf); intro w1 hS) | (refine stM_f hS 1 rfl (Nat.le_of_ble_eq_true rfl) rfl ?_; (conv => whnf); intro w1 hS))
          refine ⟨rfl, k + 1, ?_, ⟨by omega, hS⟩, by omega⟩
          rw [wi hkt (by omega)]
          rfl
    · repeat ((conv => whnf); first | (refine nw_f hS ?_; intro b w1 hS) | (refine ld_f hS 0 rfl rfl ?_) | (refine ld_f hS 1 rfl rfl ?_) | (refine ldA_f hS 0 rfl rfl ?_) | (refine ldA_f hS 1 rfl rfl ?_) | (refine stN_f hS 0 rfl (Nat.le_of_ble_eq_true rfl) rfl rfl ?_; (conv => whnf); intro w1 hS) | (refine stN_f hS 1 rfl (Nat.le_of_ble_eq_true rfl) rfl rfl ?_; (conv => whnf); intro w1 hS) | (refine stM_f hS 0 rfl (Nat.le_of_ble_eq_true rfl) rfl ?_; (conv => whnf); intro w1 hS) | (refine stM_f hS 1 rfl (Nat.le_of_ble_eq_true rfl) rfl ?_; (conv => whnf); intro w1 hS))
      refine ⟨rfl, i + 1, ?_, ⟨by omega, hS⟩, by omega⟩
      rw [wi hlt (by omega)]
      rfl
  · repeat ((conv => whnf); first | (refine nw_f hS ?_; intro b w1 hS) | (refine ld_f hS 0 rfl rfl ?_) | (refine ld_f hS 1 rfl rfl ?_) | (refine ldA_f hS 0 rfl rfl ?_) | (refine ldA_f hS 1 rfl rfl ?_) | (refine stN_f hS 0 rfl (Nat.le_of_ble_eq_true rfl) rfl rfl ?_; (conv => whnf); intro w1 hS) | (refine stN_f hS 1 rfl (Nat.le_of_ble_eq_true rfl) rfl rfl ?_; (conv => whnf); intro w1 hS) | (refine stM_f hS 0 rfl (Nat.le_of_ble_eq_true rfl) rfl ?_; (conv => whnf); intro w1 hS) | (refine stM_f hS 1 rfl (Nat.le_of_ble_eq_true rfl) rfl ?_; (conv => whnf); intro w1 hS))
    refine loop_i TB_ok (fun i : Nat => [(10, .int .i64 i)]) (fun i w' => i ≤ xs.length ∧ Sf [] w w' (L1 ++ []) []) (fun i => xs.length - i) 0 rfl ⟨Nat.zero_le _, hS⟩ ?_
    rintro i us w5 ⟨hi, hS⟩
    (conv => whnf)
    refine br_i (fun hb => ?_) (fun hb => ?_)
    · have hit : i < xs.length := by simpa using hb
      obtain ⟨b0, o0, rfl, hc⟩ := hR.cells (flat_ne encS_len (by omega) hit)
      repeat ((conv => whnf); first | (refine nw_f hS ?_; intro b w1 hS) | (refine ld_f hS 0 rfl rfl ?_) | (refine ld_f hS 1 rfl rfl ?_) | (refine ldA_f hS 0 rfl rfl ?_) | (refine ldA_f hS 1 rfl rfl ?_) | (refine stN_f hS 0 rfl (Nat.le_of_ble_eq_true rfl) rfl rfl ?_; (conv => whnf); intro w1 hS) | (refine stN_f hS 1 rfl (Nat.le_of_ble_eq_true rfl) rfl rfl ?_; (conv => whnf); intro w1 hS) | (refine stM_f hS 0 rfl (Nat.le_of_ble_eq_true rfl) rfl ?_; (conv => whnf); intro w1 hS) | (refine stM_f hS 1 rfl (Nat.le_of_ble_eq_true rfl) rfl ?_; (conv => whnf); intro w1 hS))
      refine loop_i TB_ok (fun k : Nat => [(12, .int .i64 k), (11, .bool ((xs.take k).all fun x => !K9.newer x xs[i]))]) (fun k w' => k ≤ xs.length ∧ Sf [] w w' (L1 ++ []) []) (fun k => xs.length - k) 0 rfl ⟨Nat.zero_le _, hS⟩ ?_
      rintro k us w6 ⟨hk, hS⟩
      (conv => whnf)
      refine br_i (fun hb => ?_) (fun hb => ?_)
      · have hkt : k < xs.length := by simpa using hb
        have hstep : ((xs.take (k+1)).all fun x => !K9.newer x xs[i]) = (((xs.take k).all fun x => !K9.newer x xs[i]) && !K9.newer xs[k] xs[i]) := by
          rw [List.take_succ_eq_append_getElem hkt, List.all_append]
          simp
        repeat ((conv => whnf); first | (refine nw_f hS ?_; intro b w1 hS) | (refine ld_f hS 0 rfl rfl ?_) | (refine ld_f hS 1 rfl rfl ?_) | (refine ldA_f hS 0 rfl rfl ?_) | (refine ldA_f hS 1 rfl rfl ?_) | (refine stN_f hS 0 rfl (Nat.le_of_ble_eq_true rfl) rfl rfl ?_; (conv => whnf); intro w1 hS) | (refine stN_f hS 1 rfl (Nat.le_of_ble_eq_true rfl) rfl rfl ?_; (conv => whnf); intro w1 hS) | (refine stM_f hS 0 rfl (Nat.le_of_ble_eq_true rfl) rfl ?_; (conv => whnf); intro w1 hS) | (refine stM_f hS 1 rfl (Nat.le_of_ble_eq_true rfl) rfl ?_; (conv => whnf); intro w1 hS))
        refine drawf TB_ok rfl (by kernel_rfl) (by kernel_rfl) hS (List.Sublist.refl _) (List.Sublist.refl _) ?_
        intro w1 hS
        repeat ((conv => whnf); apply q_i; focus (intro w1 hS; (conv => whnf); first | exact ⟨rfl, rfl⟩ | (refine ld_f hS 0 rfl rfl ?_; (conv => whnf); exact ⟨rfl, rfl⟩) | (refine ld_f hS 1 rfl rfl ?_; (conv => whnf); exact ⟨rfl, rfl⟩) | (refine ldA_f hS 0 rfl rfl ?_; (conv => whnf); exact ⟨rfl, rfl⟩) | (refine ldA_f hS 1 rfl rfl ?_; (conv => whnf); exact ⟨rfl, rfl⟩) | (refine .mk ⟨by omega, by omega⟩ ?_; refine ix_i rfl ?_; (conv => whnf); exact ⟨rfl, rfl⟩) | (refine ldN_el encS_len (hc _ hS.nil) hit rfl rfl ?_; (conv => whnf); exact ⟨rfl, rfl⟩) | (refine ldN_el encS_len (hc _ hS.nil) hkt rfl rfl ?_; (conv => whnf); exact ⟨rfl, rfl⟩)))
        (conv => whnf)
        refine br_i (fun hq => ?_) (fun hq => ?_)
        · repeat ((conv => whnf); apply q_i; focus (intro w1 hS; (conv => whnf); first | exact ⟨rfl, rfl⟩ | (refine ld_f hS 0 rfl rfl ?_; (conv => whnf); exact ⟨rfl, rfl⟩) | (refine ld_f hS 1 rfl rfl ?_; (conv => whnf); exact ⟨rfl, rfl⟩) | (refine ldA_f hS 0 rfl rfl ?_; (conv => whnf); exact ⟨rfl, rfl⟩) | (refine ldA_f hS 1 rfl rfl ?_; (conv => whnf); exact ⟨rfl, rfl⟩) | (refine .mk ⟨by omega, by omega⟩ ?_; refine ix_i rfl ?_; (conv => whnf); exact ⟨rfl, rfl⟩) | (refine ldN_el encS_len (hc _ hS.nil) hit rfl rfl ?_; (conv => whnf); exact ⟨rfl, rfl⟩) | (refine ldN_el encS_len (hc _ hS.nil) hkt rfl rfl ?_; (conv => whnf); exact ⟨rfl, rfl⟩)))
          (conv => whnf)
          refine fc_m (newer_c xs[k] xs[i] _) ?_
          rintro v w4 ⟨rfl, hS'⟩
          replace hS := hS.call0 hS'
          (conv => whnf)
          refine as_i hS ?_
          repeat ((conv => whnf); apply q_i; focus (intro w1 hS; (conv => whnf); first | exact ⟨rfl, rfl⟩ | (refine ld_f hS 0 rfl rfl ?_; (conv => whnf); exact ⟨rfl, rfl⟩) | (refine ld_f hS 1 rfl rfl ?_; (conv => whnf); exact ⟨rfl, rfl⟩) | (refine ldA_f hS 0 rfl rfl ?_; (conv => whnf); exact ⟨rfl, rfl⟩) | (refine ldA_f hS 1 rfl rfl ?_; (conv => whnf); exact ⟨rfl, rfl⟩)))
          repeat ((conv => whnf); first | (refine nw_f hS ?_; intro b w1 hS) | (refine ld_f hS 0 rfl rfl ?_) | (refine ld_f hS 1 rfl rfl ?_) | (refine ldA_f hS 0 rfl rfl ?_) | (refine ldA_f hS 1 rfl rfl ?_) | (refine stN_f hS 0 rfl (Nat.le_of_ble_eq_true rfl) rfl rfl ?_; (conv => whnf); intro w1 hS) | (refine stN_f hS 1 rfl (Nat.le_of_ble_eq_true rfl) rfl rfl ?_; (conv => whnf); intro w1 hS) | (refine stM_f hS 0 rfl (Nat.le_of_ble_eq_true rfl) rfl ?_; (conv => whnf); intro w1 hS) | (refine stM_f hS 1 rfl (Nat.le_of_ble_eq_true rfl) rfl ?_; (conv => whnf); intro w1 hS))
          refine ⟨rfl, k + 1, ?_, ⟨by omega, hS⟩, by omega⟩
          rw [wi hkt (by omega), hstep, hq, Bool.true_and]
          rfl
        · repeat ((conv => whnf); apply q_i; focus (intro w1 hS; (conv => whnf); first | exact ⟨rfl, rfl⟩ | (refine ld_f hS 0 rfl rfl ?_; (conv => whnf); exact ⟨rfl, rfl⟩) | (refine ld_f hS 1 rfl rfl ?_; (conv => whnf); exact ⟨rfl, rfl⟩) | (refine ldA_f hS 0 rfl rfl ?_; (conv => whnf); exact ⟨rfl, rfl⟩) | (refine ldA_f hS 1 rfl rfl ?_; (conv => whnf); exact ⟨rfl, rfl⟩)))
          repeat ((conv => whnf); first | (refine nw_f hS ?_; intro b w1 hS) | (refine ld_f hS 0 rfl rfl ?_) | (refine ld_f hS 1 rfl rfl ?_) | (refine ldA_f hS 0 rfl rfl ?_) | (refine ldA_f hS 1 rfl rfl ?_) | (refine stN_f hS 0 rfl (Nat.le_of_ble_eq_true rfl) rfl rfl ?_; (conv => whnf); intro w1 hS) | (refine stN_f hS 1 rfl (Nat.le_of_ble_eq_true rfl) rfl rfl ?_; (conv => whnf); intro w1 hS) | (refine stM_f hS 0 rfl (Nat.le_of_ble_eq_true rfl) rfl ?_; (conv => whnf); intro w1 hS) | (refine stM_f hS 1 rfl (Nat.le_of_ble_eq_true rfl) rfl ?_; (conv => whnf); intro w1 hS))
          refine ⟨rfl, k + 1, ?_, ⟨by omega, hS⟩, by omega⟩
          rw [wi hkt (by omega), hstep, hq, Bool.false_and]
          rfl
      · have hge : k = xs.length := by simp at hb; omega
        subst hge
        repeat ((conv => whnf); first | (refine nw_f hS ?_; intro b w1 hS) | (refine ld_f hS 0 rfl rfl ?_) | (refine ld_f hS 1 rfl rfl ?_) | (refine ldA_f hS 0 rfl rfl ?_) | (refine ldA_f hS 1 rfl rfl ?_) | (refine stN_f hS 0 rfl (Nat.le_of_ble_eq_true rfl) rfl rfl ?_; (conv => whnf); intro w1 hS) | (refine stN_f hS 1 rfl (Nat.le_of_ble_eq_true rfl) rfl rfl ?_; (conv => whnf); intro w1 hS) | (refine stM_f hS 0 rfl (Nat.le_of_ble_eq_true rfl) rfl ?_; (conv => whnf); intro w1 hS) | (refine stM_f hS 1 rfl (Nat.le_of_ble_eq_true rfl) rfl ?_; (conv => whnf); intro w1 hS))
        refine br_i (fun hq => ?_) (fun hq => ?_)
        · have hno : ∀ x ∈ xs, K9.newer x xs[i] = false := by simpa using hq
          repeat ((conv => whnf); first | (refine nw_f hS ?_; intro b w1 hS) | (refine ld_f hS 0 rfl rfl ?_) | (refine ld_f hS 1 rfl rfl ?_) | (refine ldA_f hS 0 rfl rfl ?_) | (refine ldA_f hS 1 rfl rfl ?_) | (refine stN_f hS 0 rfl (Nat.le_of_ble_eq_true rfl) rfl rfl ?_; (conv => whnf); intro w1 hS) | (refine stN_f hS 1 rfl (Nat.le_of_ble_eq_true rfl) rfl rfl ?_; (conv => whnf); intro w1 hS) | (refine stM_f hS 0 rfl (Nat.le_of_ble_eq_true rfl) rfl ?_; (conv => whnf); intro w1 hS) | (refine stM_f hS 1 rfl (Nat.le_of_ble_eq_true rfl) rfl ?_; (conv => whnf); intro w1 hS) | (refine .mk ⟨by omega, by omega⟩ ?_; refine ix_i rfl ?_) | (refine ldN_el encS_len (hc _ hS.nil) hit rfl rfl ?_))
          refine fc_m (age_c xs[i] now _) ?_
          rintro v w4 ⟨rfl, hS'⟩
          replace hS := hS.call0 hS'
          repeat ((conv => whnf); first | (refine nw_f hS ?_; intro b w1 hS) | (refine ld_f hS 0 rfl rfl ?_) | (refine ld_f hS 1 rfl rfl ?_) | (refine ldA_f hS 0 rfl rfl ?_) | (refine ldA_f hS 1 rfl rfl ?_) | (refine stN_f hS 0 rfl (Nat.le_of_ble_eq_true rfl) rfl rfl ?_; (conv => whnf); intro w1 hS) | (refine stN_f hS 1 rfl (Nat.le_of_ble_eq_true rfl) rfl rfl ?_; (conv => whnf); intro w1 hS) | (refine stM_f hS 0 rfl (Nat.le_of_ble_eq_true rfl) rfl ?_; (conv => whnf); intro w1 hS) | (refine stM_f hS 1 rfl (Nat.le_of_ble_eq_true rfl) rfl ?_; (conv => whnf); intro w1 hS))
          refine br_i (fun ha => ?_) (fun ha => ?_)
          · have hmem : xs[i] ∈ ks := by rw [← hke]; exact newest_kept hx (List.getElem_mem hit) hno (of_decide_eq_true ha)
            repeat ((conv => whnf); first | (refine nw_f hS ?_; intro b w1 hS) | (refine ld_f hS 0 rfl rfl ?_) | (refine ld_f hS 1 rfl rfl ?_) | (refine ldA_f hS 0 rfl rfl ?_) | (refine ldA_f hS 1 rfl rfl ?_) | (refine stN_f hS 0 rfl (Nat.le_of_ble_eq_true rfl) rfl rfl ?_; (conv => whnf); intro w1 hS) | (refine stN_f hS 1 rfl (Nat.le_of_ble_eq_true rfl) rfl rfl ?_; (conv => whnf); intro w1 hS) | (refine stM_f hS 0 rfl (Nat.le_of_ble_eq_true rfl) rfl ?_; (conv => whnf); intro w1 hS) | (refine stM_f hS 1 rfl (Nat.le_of_ble_eq_true rfl) rfl ?_; (conv => whnf); intro w1 hS) | (refine .mk ⟨by omega, by omega⟩ ?_; refine ix_i rfl ?_) | (refine ldN_el encS_len (hc _ hS.nil) hit rfl rfl ?_))
            refine fc_m (has_c A1 c1 ks xs[i] _ (h1.rdM hS m1) (by omega)) ?_
            rintro v w4 ⟨rfl, hS'⟩
            replace hS := hS.call0 hS'
            rw [decide_eq_true hmem]
            repeat ((conv => whnf); first | (refine nw_f hS ?_; intro b w1 hS) | (refine ld_f hS 0 rfl rfl ?_) | (refine ld_f hS 1 rfl rfl ?_) | (refine ldA_f hS 0 rfl rfl ?_) | (refine ldA_f hS 1 rfl rfl ?_) | (refine stN_f hS 0 rfl (Nat.le_of_ble_eq_true rfl) rfl rfl ?_; (conv => whnf); intro w1 hS) | (refine stN_f hS 1 rfl (Nat.le_of_ble_eq_true rfl) rfl rfl ?_; (conv => whnf); intro w1 hS) | (refine stM_f hS 0 rfl (Nat.le_of_ble_eq_true rfl) rfl ?_; (conv => whnf); intro w1 hS) | (refine stM_f hS 1 rfl (Nat.le_of_ble_eq_true rfl) rfl ?_; (conv => whnf); intro w1 hS))
            refine ⟨rfl, i + 1, ?_, ⟨by omega, hS⟩, by omega⟩
            rw [wi hit (by omega)]
            rfl
          · repeat ((conv => whnf); first | (refine nw_f hS ?_; intro b w1 hS) | (refine ld_f hS 0 rfl rfl ?_) | (refine ld_f hS 1 rfl rfl ?_) | (refine ldA_f hS 0 rfl rfl ?_) | (refine ldA_f hS 1 rfl rfl ?_) | (refine stN_f hS 0 rfl (Nat.le_of_ble_eq_true rfl) rfl rfl ?_; (conv => whnf); intro w1 hS) | (refine stN_f hS 1 rfl (Nat.le_of_ble_eq_true rfl) rfl rfl ?_; (conv => whnf); intro w1 hS) | (refine stM_f hS 0 rfl (Nat.le_of_ble_eq_true rfl) rfl ?_; (conv => whnf); intro w1 hS) | (refine stM_f hS 1 rfl (Nat.le_of_ble_eq_true rfl) rfl ?_; (conv => whnf); intro w1 hS))
            refine ⟨rfl, i + 1, ?_, ⟨by omega, hS⟩, by omega⟩
            rw [wi hit (by omega)]
            rfl
        · repeat ((conv => whnf); first | (refine nw_f hS ?_; intro b w1 hS) | (refine ld_f hS 0 rfl rfl ?_) | (refine ld_f hS 1 rfl rfl ?_) | (refine ldA_f hS 0 rfl rfl ?_) | (refine ldA_f hS 1 rfl rfl ?_) | (refine stN_f hS 0 rfl (Nat.le_of_ble_eq_true rfl) rfl rfl ?_; (conv => whnf); intro w1 hS) | (refine stN_f hS 1 rfl (Nat.le_of_ble_eq_true rfl) rfl rfl ?_; (conv => whnf); intro w1 hS) | (refine stM_f hS 0 rfl (Nat.le_of_ble_eq_true rfl) rfl ?_; (conv => whnf); intro w1 hS) | (refine stM_f hS 1 rfl (Nat.le_of_ble_eq_true rfl) rfl ?_; (conv => whnf); intro w1 hS))
          refine ⟨rfl, i + 1, ?_, ⟨by omega, hS⟩, by omega⟩
          rw [wi hit (by omega)]
          rfl
    · repeat ((conv => whnf); first | (refine nw_f hS ?_; intro b w1 hS) | (refine ld_f hS 0 rfl rfl ?_) | (refine ld_f hS 1 rfl rfl ?_) | (refine ldA_f hS 0 rfl rfl ?_) | (refine ldA_f hS 1 rfl rfl ?_) | (refine stN_f hS 0 rfl (Nat.le_of_ble_eq_true rfl) rfl rfl ?_; (conv => whnf); intro w1 hS) | (refine stN_f hS 1 rfl (Nat.le_of_ble_eq_true rfl) rfl rfl ?_; (conv => whnf); intro w1 hS) | (refine stM_f hS 0 rfl (Nat.le_of_ble_eq_true rfl) rfl ?_; (conv => whnf); intro w1 hS) | (refine stM_f hS 1 rfl (Nat.le_of_ble_eq_true rfl) rfl ?_; (conv => whnf); intro w1 hS))
      refine fc_m (awake_c _) ?_
      rintro v w1 ⟨rfl, hS'⟩
      replace hS := hS.call0 hS'
      repeat ((conv => whnf); first | (refine nw_f hS ?_; intro b w1 hS) | (refine ld_f hS 0 rfl rfl ?_) | (refine ldA_f hS 0 rfl rfl ?_) | (refine stN_f hS 0 rfl (Nat.le_of_ble_eq_true rfl) rfl rfl ?_; (conv => whnf); intro w1 hS) | (refine stM_f hS 0 rfl (Nat.le_of_ble_eq_true rfl) rfl ?_; (conv => whnf); intro w1 hS))
      exact ⟨rfl, hS.nil⟩
end Go.RV
