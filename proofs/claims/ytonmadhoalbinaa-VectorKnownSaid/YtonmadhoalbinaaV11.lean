/- Contracts of functions of chapter 1: the document's reader. Conditions: none. -/
import Derived.Test.YtonmadhoalbinaaV10
set_option maxRecDepth 20000
set_option linter.unusedVariables false
set_option linter.unusedSimpArgs false
namespace Go.RV
open Go Go.Proofs

theorem wrap_u64 {x : Int} (h0 : 0 ≤ x) (h1 : x ≤ 18446744073709551615) : IntKind.u64.wrap x = x := by
  show x.emod 18446744073709551616 = x
  exact Int.emod_eq_of_lt h0 (by omega)
theorem fixedR_err {s : RS} (h : s.e ≠ 0) (n : Int) : fixedR s n = ([], s) := by rw [fixedR, if_pos (.inl h)]
theorem accB {n : Int} {x k : Nat} (h0 : 0 ≤ n) (h1 : n < 2 ^ (7 * k)) (hk : k ≤ 3) (hx : x < 128) : 0 ≤ n + (x : Int) * 2 ^ (7 * k) ∧ n + (x : Int) * 2 ^ (7 * k) < 2 ^ (7 * (k + 1)) := by
  have hk5 : k = 0 ∨ k = 1 ∨ k = 2 ∨ k = 3 := by omega
  rcases hk5 with rfl | rfl | rfl | rfl <;> simp at h1 ⊢ <;> omega
theorem over4 {n : Int} {x k : Nat} (h0 : 0 ≤ n) (h1 : n < 2 ^ (7 * k)) (hk : k ≤ 4) (hx : x < 128) : 4294967295 < n + (x : Int) * 2 ^ (7 * k) ↔ k = 4 ∧ 15 < x := by
  have hk5 : k = 0 ∨ k = 1 ∨ k = 2 ∨ k = 3 ∨ k = 4 := by omega
  rcases hk5 with rfl | rfl | rfl | rfl | rfl <;> simp at h1 ⊢ <;> omega
theorem accW {n : Int} {x k : Nat} (h0 : 0 ≤ n) (h1 : n < 2 ^ (7 * k)) (hk : k ≤ 4) (hx : x < 128) : IntKind.u64.wrap (n + IntKind.u64.wrap ((x : Int) * 2 ^ (7 * k))) = n + (x : Int) * 2 ^ (7 * k) := by
  have hk5 : k = 0 ∨ k = 1 ∨ k = 2 ∨ k = 3 ∨ k = 4 := by omega
  have h : 0 ≤ (x : Int) * 2 ^ (7 * k) ∧ (x : Int) * 2 ^ (7 * k) ≤ 1152921504606846976 ∧ n ≤ 1152921504606846976 := by
    rcases hk5 with rfl | rfl | rfl | rfl | rfl <;> simp at h1 ⊢ <;> omega
  rw [wrap_u64 h.1 (by omega), wrap_u64 (by omega) (by omega)]

theorem qvar_c (b : Nat) (S : List UInt8) (s : RS) (L : LM) (hQ : QR b S s L) (hs : S.length ≤ 4611686018427387904) (w : World) (hS : St (keys L) w w L) :
    Fc Try.prog 44 [.pointer (some ⟨b, 0, none⟩)] w fun v w' => v = .int .u32 (varR s).1 ∧ ∃ L', QR b S (varR s).2 L' ∧ St (keys L) w w' L' := by
  refine fc_i TB_ok Try.func44 rfl (by kernel_rfl) ?_
  have hS : Sf (keys L) w w (L ++ []) [] := ⟨by simpa using hS⟩
  repeat ((conv => whnf); first | (refine nw_f hS ?_; intro b w1 hS) | (refine ld_f hS 0 rfl rfl ?_) | (refine ldA_f hS 0 rfl rfl ?_) | (refine stN_f hS 0 rfl (Nat.le_of_ble_eq_true rfl) rfl rfl ?_; (conv => whnf); intro w1 hS) | (refine stM_f hS 0 rfl (Nat.le_of_ble_eq_true rfl) rfl ?_; (conv => whnf); intro w1 hS))
  refine loop_i TB_ok (fun t : Nat × Int × RS => [(5, .int .i64 (t.1 : Int)), (3, .int .u64 t.2.1), (4, .int .u64 (2 ^ (7 * t.1)))]) (fun t w' => t.1 ≤ 4 ∧ (0 ≤ t.2.1 ∧ t.2.1 < 2 ^ (7 * t.1)) ∧ varRF (5 - t.1) t.1 t.2.1 t.2.2 = varR s ∧ ∃ L', QR b S t.2.2 L' ∧ Sf (keys L) w w' (L' ++ []) []) (fun t => 5 - t.1) (0, 0, s) rfl ⟨Nat.zero_le _, by simp, rfl, L, hQ, hS⟩ ?_
  rintro ⟨k, n, st⟩ us w2 ⟨hk, hn, hv, L1, hQ1, hS⟩
  simp only at hk hn hv hQ1
  obtain ⟨f, hf⟩ : ∃ f, 5 - k = f + 1 := ⟨4 - k, by omega⟩
  rw [hf, varRF] at hv
  (conv => whnf)
  refine br_t (by show decide ((k : Int) < 5) = true; simp; omega) ?_
  repeat ((conv => whnf); first | (refine nw_f hS ?_; intro b w1 hS) | (refine ld_f hS 0 rfl rfl ?_) | (refine ldA_f hS 0 rfl rfl ?_) | (refine stN_f hS 0 rfl (Nat.le_of_ble_eq_true rfl) rfl rfl ?_; (conv => whnf); intro w1 hS) | (refine stM_f hS 0 rfl (Nat.le_of_ble_eq_true rfl) rfl ?_; (conv => whnf); intro w1 hS))
  refine fc_m (qnumber_c b S st L1 hQ1 hs 1 (by decide) _ hS.ownF) ?_
  rintro v w3 ⟨rfl, L2, hQ2, hS'⟩
  replace hS := hS.callW hS'
  obtain ⟨a, rfl, ha, hr0, hr1⟩ := hQ2.out
  replace hS : Sf (keys L) w w3 [] [(b, .cells #[.string (strY S), .int .i64 a, .int .i64 (fixedR st 1).2.e] 60 (0, 0))] := ⟨by simpa [qdO] using hS.st⟩
  by_cases he : st.e = 0
  · rw [if_neg (by simp [he])] at hv
    cases hr : st.rest with
    | nil =>
      rw [hr] at hv
      simp only at hv
      have ef : fixedR st ((1 : Nat) : Int) = _ := fixedR_one_nil he hr
      rw [fixedR_one_nil he hr] at hS
      rw [ef] at hQ2 ⊢
      repeat ((conv => whnf); first | (refine nw_f hS ?_; intro b w1 hS) | (refine as_i hS ?_) | (refine as_i (hS.subs (List.nil_sublist _) (by repeat (first | exact List.Sublist.refl _ | apply List.Sublist.cons_cons | apply List.Sublist.cons))) ?_) | (refine bar_f hS ?_) | (refine ld_f hS 0 rfl rfl ?_) | (refine ldA_f hS 0 rfl rfl ?_) | (refine stN_f hS 0 rfl (Nat.le_of_ble_eq_true rfl) rfl rfl ?_; (conv => whnf); intro w1 hS) | (refine stM_f hS 0 rfl (Nat.le_of_ble_eq_true rfl) rfl ?_; (conv => whnf); intro w1 hS) | (refine drawf TB_ok rfl (by kernel_rfl) (by kernel_rfl) hS (List.Sublist.refl _) (List.Sublist.refl _) ?_; intro w1 hS) | (refine br_t (by assumption) ?_) | (refine br_f (by assumption) ?_) | (apply q_i; focus (intro w1 hS; (conv => whnf); first | exact ⟨rfl, rfl⟩ | ((refine ld_f hS 0 rfl rfl ?_); (conv => whnf); exact ⟨rfl, rfl⟩) | ((refine ldA_f hS 0 rfl rfl ?_); (conv => whnf); exact ⟨rfl, rfl⟩))))
      rw [← hv]
      exact ⟨rfl, _, hQ2, hS.st⟩
    | cons c t =>
      rw [hr] at hv
      simp only at hv
      have ef : fixedR st ((1 : Nat) : Int) = _ := fixedR_one_cons he hr
      rw [fixedR_one_cons he hr] at hS
      rw [ef] at hQ2 ⊢
      have hc := c.toNat_lt
      have en : numF 0 [c] = (c.toNat : Int) := by simp [numF]
      have ew : IntKind.u64.wrap (numF 0 [c]) = (c.toNat : Int) := by rw [en, wrap_u64 (by omega) (by omega)]
      have et : (IntKind.u64.wrap (numF 0 [c])).tmod 128 = ((c.toNat % 128 : Nat) : Int) := by rw [ew, Int.tmod_eq_emod_of_nonneg (by omega)]; rfl
      have ea : IntKind.u64.wrap (n + IntKind.u64.wrap ((IntKind.u64.wrap (numF 0 [c])).tmod 128 * 2 ^ (7 * k))) = n + (c.toNat % 128 : Nat) * 2 ^ (7 * k) := by rw [et]; exact accW hn.1 hn.2 hk (by omega)
      have ho := over4 hn.1 hn.2 hk (show c.toNat % 128 < 128 by omega)
      have hab := @accB n (c.toNat % 128) k hn.1 hn.2
      repeat ((conv => whnf); first | (refine nw_f hS ?_; intro b w1 hS) | (refine as_i hS ?_) | (refine as_i (hS.subs (List.nil_sublist _) (by repeat (first | exact List.Sublist.refl _ | apply List.Sublist.cons_cons | apply List.Sublist.cons))) ?_) | (refine bar_f hS ?_) | (refine ld_f hS 0 rfl rfl ?_) | (refine ldA_f hS 0 rfl rfl ?_) | (refine stN_f hS 0 rfl (Nat.le_of_ble_eq_true rfl) rfl rfl ?_; (conv => whnf); intro w1 hS) | (refine stM_f hS 0 rfl (Nat.le_of_ble_eq_true rfl) rfl ?_; (conv => whnf); intro w1 hS) | (refine .mk (by decide) ?_) | (refine drawf TB_ok rfl (by kernel_rfl) (by kernel_rfl) hS (List.Sublist.refl _) (List.Sublist.refl _) ?_; intro w1 hS) | (refine br_t (by assumption) ?_) | (refine br_f (by assumption) ?_) | (apply q_i; focus (intro w1 hS; (conv => whnf); first | exact ⟨rfl, rfl⟩ | ((refine ld_f hS 0 rfl rfl ?_); (conv => whnf); exact ⟨rfl, rfl⟩) | ((refine ldA_f hS 0 rfl rfl ?_); (conv => whnf); exact ⟨rfl, rfl⟩) | ((refine .mk (by decide) ?_); (conv => whnf); exact ⟨rfl, rfl⟩))))
      have ea2 : IntKind.u64.wrap (n + IntKind.u64.wrap ((c.toNat : Int).tmod 128 * 2 ^ (7 * k))) = n + (c.toNat % 128 : Nat) * 2 ^ (7 * k) := by rw [← ew]; exact ea
      by_cases hB : (k = 4 ∧ 15 < c.toNat) ∨ (0 < k ∧ c.toNat = 0)
      · rw [if_pos hB] at hv
        repeat' ((conv => whnf); first | (refine nw_f hS ?_; intro b w1 hS) | (refine ld_f hS 0 rfl rfl ?_) | (refine ldA_f hS 0 rfl rfl ?_) | (refine stN_f hS 0 rfl (Nat.le_of_ble_eq_true rfl) rfl rfl ?_; (conv => whnf); intro w1 hS) | (refine stM_f hS 0 rfl (Nat.le_of_ble_eq_true rfl) rfl ?_; (conv => whnf); intro w1 hS) | (refine br_i (fun _ => ?_) (fun _ => ?_)))
        all_goals first
          | (exfalso; simp only [ew, ea2, beq_iff_eq, decide_eq_true_eq, decide_eq_false_iff_not, beq_eq_false_iff_ne, ho] at *; omega)
          | (repeat ((conv => whnf); first | (refine nw_f hS ?_; intro b w1 hS) | (refine ld_f hS 0 rfl rfl ?_) | (refine ldA_f hS 0 rfl rfl ?_) | (refine stN_f hS 0 rfl (Nat.le_of_ble_eq_true rfl) rfl rfl ?_; (conv => whnf); intro w1 hS) | (refine stM_f hS 0 rfl (Nat.le_of_ble_eq_true rfl) rfl ?_; (conv => whnf); intro w1 hS))
             rw [← hv]
             exact ⟨rfl, _, ⟨a, rfl, ha, fun h => absurd h (show (4 : Int) ≠ 0 by decide), fun _ => rfl⟩, hS.st⟩)
      · rw [if_neg hB] at hv
        repeat' ((conv => whnf); first | (refine nw_f hS ?_; intro b w1 hS) | (refine ld_f hS 0 rfl rfl ?_) | (refine ldA_f hS 0 rfl rfl ?_) | (refine stN_f hS 0 rfl (Nat.le_of_ble_eq_true rfl) rfl rfl ?_; (conv => whnf); intro w1 hS) | (refine stM_f hS 0 rfl (Nat.le_of_ble_eq_true rfl) rfl ?_; (conv => whnf); intro w1 hS) | (refine br_i (fun _ => ?_) (fun _ => ?_)))
        all_goals first
          | (exfalso; simp only [ew, ea2, beq_iff_eq, decide_eq_true_eq, decide_eq_false_iff_not, beq_eq_false_iff_ne, ho] at *; omega)
          | (have hd : c.toNat < 128 := by
               have h := ‹decide (IntKind.u64.wrap (numF 0 ([c], (⟨t, 0⟩ : RS)).fst) < 128) = true›
               replace h : decide (IntKind.u64.wrap (numF 0 [c]) < 128) = true := h
               rw [ew] at h
               have := of_decide_eq_true h
               omega
             rw [if_pos hd] at hv
             repeat ((conv => whnf); first | (refine nw_f hS ?_; intro b w1 hS) | (refine ld_f hS 0 rfl rfl ?_) | (refine ldA_f hS 0 rfl rfl ?_) | (refine stN_f hS 0 rfl (Nat.le_of_ble_eq_true rfl) rfl rfl ?_; (conv => whnf); intro w1 hS) | (refine stM_f hS 0 rfl (Nat.le_of_ble_eq_true rfl) rfl ?_; (conv => whnf); intro w1 hS))
             rw [← hv]
             refine ⟨congrArg (Value.int .u32) ?_, _, hQ2, hS.st⟩
             show IntKind.u32.wrap (IntKind.u64.wrap (n + IntKind.u64.wrap ((IntKind.u64.wrap (numF 0 [c])).tmod 128 * 2 ^ (7 * k)))) = _
             rw [ea, wrap_u32 (Int.add_nonneg hn.1 (Int.mul_nonneg (Int.natCast_nonneg _) (Int.pow_nonneg (by decide)))) (by omega)])
          | (have hd : ¬ c.toNat < 128 := by
               have h := ‹decide (IntKind.u64.wrap (numF 0 ([c], (⟨t, 0⟩ : RS)).fst) < 128) = false›
               replace h : decide (IntKind.u64.wrap (numF 0 [c]) < 128) = false := h
               rw [ew] at h
               have := of_decide_eq_false h
               omega
             rw [if_neg hd] at hv
             have hk3 : k ≤ 3 := by omega
             repeat ((conv => whnf); first | (refine nw_f hS ?_; intro b w1 hS) | (refine ld_f hS 0 rfl rfl ?_) | (refine ldA_f hS 0 rfl rfl ?_) | (refine stN_f hS 0 rfl (Nat.le_of_ble_eq_true rfl) rfl rfl ?_; (conv => whnf); intro w1 hS) | (refine stM_f hS 0 rfl (Nat.le_of_ble_eq_true rfl) rfl ?_; (conv => whnf); intro w1 hS) | (refine .mk (by decide) ?_))
             refine ⟨rfl, (k + 1, n + (c.toNat % 128 : Nat) * 2 ^ (7 * k), ⟨t, 0⟩), ?_, ⟨by simp only; omega, hab hk3 (by omega), ?_, _, hQ2, ⟨by simpa [qdO] using hS.st⟩⟩, by simp only; omega⟩
             · have e7 : IntKind.i64.wrap ((((k, n, st).1 : Nat) : Int) + 1) = ((k + 1 : Nat) : Int) := by
                 show IntKind.i64.wrap ((k : Int) + 1) = _
                 rw [wrap_i64 (by omega) (by omega)]
                 omega
               have e8 : IntKind.u64.wrap (2 ^ (7 * (k, n, st).1) * 128) = 2 ^ (7 * (k + 1)) := by
                 show IntKind.u64.wrap (2 ^ (7 * k) * 128) = _
                 have hk5 : k = 0 ∨ k = 1 ∨ k = 2 ∨ k = 3 := by omega
                 rcases hk5 with rfl | rfl | rfl | rfl <;> decide
               rw [e7, e8, ← ea]
               rfl
             · show varRF (5 - (k + 1)) _ _ _ = _
               rw [show 5 - (k + 1) = f from by omega, hv])
  · rw [if_pos (by simpa using he)] at hv
    have ef : fixedR st ((1 : Nat) : Int) = _ := fixedR_err he _
    have ef' : fixedR st (1 : Int) = _ := fixedR_err he _
    rw [ef'] at hS
    rw [ef] at hQ2 ⊢
    have hne : (st.e != 0) = true := by simpa using he
    repeat ((conv => whnf); first | (refine nw_f hS ?_; intro b w1 hS) | (refine as_i hS ?_) | (refine as_i (hS.subs (List.nil_sublist _) (by repeat (first | exact List.Sublist.refl _ | apply List.Sublist.cons_cons | apply List.Sublist.cons))) ?_) | (refine bar_f hS ?_) | (refine ld_f hS 0 rfl rfl ?_) | (refine ldA_f hS 0 rfl rfl ?_) | (refine stN_f hS 0 rfl (Nat.le_of_ble_eq_true rfl) rfl rfl ?_; (conv => whnf); intro w1 hS) | (refine stM_f hS 0 rfl (Nat.le_of_ble_eq_true rfl) rfl ?_; (conv => whnf); intro w1 hS) | (refine drawf TB_ok rfl (by kernel_rfl) (by kernel_rfl) hS (List.Sublist.refl _) (List.Sublist.refl _) ?_; intro w1 hS) | (refine br_t (by assumption) ?_) | (refine br_f (by assumption) ?_) | (apply q_i; focus (intro w1 hS; (conv => whnf); first | exact ⟨rfl, rfl⟩ | ((refine ld_f hS 0 rfl rfl ?_); (conv => whnf); exact ⟨rfl, rfl⟩) | ((refine ldA_f hS 0 rfl rfl ?_); (conv => whnf); exact ⟨rfl, rfl⟩))))
    rw [← hv]
    exact ⟨rfl, _, hQ2, hS.st⟩
end Go.RV
