/- Contracts of functions of chapter 1: a var number that is read. Conditions: none. -/
import Derived.Test.YtonmadhoalbinaaV8
set_option maxRecDepth 20000
set_option linter.unusedVariables false
set_option linter.unusedSimpArgs false
namespace Go.RV
open Go Go.Proofs

def varRF : Nat → Nat → Int → RS → Int × RS
  | 0, _, _, s => (0, s)
  | f+1, k, n, s => if s.e ≠ 0 then (0, s) else match s.rest with
    | [] => (0, ⟨[], 10⟩)
    | c :: t => if (k = 4 ∧ 15 < c.toNat) ∨ (0 < k ∧ c.toNat = 0) then (0, ⟨[], 4⟩) else
      if c.toNat < 128 then (n + (c.toNat % 128 : Nat) * 2 ^ (7 * k), ⟨t, 0⟩) else varRF f (k+1) (n + (c.toNat % 128 : Nat) * 2 ^ (7 * k)) ⟨t, 0⟩
def varR (s : RS) : Int × RS := varRF 5 0 0 s

theorem fixedR_one_nil {s : RS} (h : s.e = 0) (hr : s.rest = []) : fixedR s 1 = ([], ⟨[], 10⟩) := by
  rw [fixedR, if_neg (by simp [h]), if_pos (by simp [hr])]
theorem fixedR_one_cons {s : RS} {c : UInt8} {t : List UInt8} (h : s.e = 0) (hr : s.rest = c :: t) : fixedR s 1 = ([c], ⟨t, 0⟩) := by
  rw [fixedR, if_neg (by simp [h]), if_neg (by simp [hr]; omega)]
  simp [hr, h]
theorem numF_one (c : UInt8) : IntKind.u8.wrap (numF 0 [c]) = (c.toNat : Int) := by
  have hc := c.toNat_lt
  simp only [numF, List.foldl_cons, List.foldl_nil]
  rw [wrap_u8 (by omega) (by omega)]
  omega
theorem orShift {n : Int} {x k : Nat} (h0 : 0 ≤ n) (h1 : n < 2 ^ (7 * k)) (hk : k ≤ 4) (hx : x < 128) (hx4 : k = 4 → x < 16) : bOr .u32 n (bShl .u32 (x : Int) ((7 * k : Nat) : Int)) = n + (x : Int) * 2 ^ (7 * k) := by
  obtain ⟨m, rfl⟩ := Int.eq_ofNat_of_zero_le h0
  have hm : m < 2 ^ (7 * k) := by exact_mod_cast h1
  have hb : IntKind.u32.bits = 32 := rfl
  have hlt : x * 2 ^ (7 * k) + m < 4294967296 := by
    have hk5 : k = 0 ∨ k = 1 ∨ k = 2 ∨ k = 3 ∨ k = 4 := by omega
    rcases hk5 with rfl | rfl | rfl | rfl | rfl <;> simp at hm ⊢ <;> first | omega | (have := hx4 rfl; omega)
  have e8 : bShl .u32 (x : Int) ((7 * k : Nat) : Int) = ((x * 2 ^ (7 * k) : Nat) : Int) := by
    unfold bShl
    rw [hb, Int.toNat_natCast, Nat.min_eq_left (by omega)]
    have : ((x : Int) * 2 ^ (7 * k)) = ((x * 2 ^ (7 * k) : Nat) : Int) := by simp
    rw [this, wrap_u32 (by omega) (by omega)]
  rw [e8]
  unfold bOr
  rw [hb]
  have e1 : BitVec.ofInt 32 ((m : Nat) : Int) = BitVec.ofNat 32 m := BitVec.ofInt_natCast 32 _
  have e2 : BitVec.ofInt 32 ((x * 2 ^ (7 * k) : Nat) : Int) = BitVec.ofNat 32 (x * 2 ^ (7 * k)) := BitVec.ofInt_natCast 32 _
  rw [e1, e2, BitVec.toNat_or, BitVec.toNat_ofNat, BitVec.toNat_ofNat, Nat.mod_eq_of_lt (by omega), Nat.mod_eq_of_lt (by omega)]
  have e3 : m ||| x * 2 ^ (7 * k) = x * 2 ^ (7 * k) + m := by
    rw [Nat.or_comm, ← Nat.shiftLeft_eq]
    exact (Nat.shiftLeft_add_eq_or_of_lt hm x).symm
  rw [e3, wrap_u32 (by omega) (by omega)]
  simp
  omega

theorem rvarR_c (b : Nat) (s : RS) (w : World) (hS : St [b] w w [(b, rdO s)]) :
    Fc Try.prog 41 [.pointer (some ⟨b, 0, none⟩)] w fun v w' => v = .int .u32 (varR s).1 ∧ St [b] w w' [(b, rdO (varR s).2)] := by
  refine fc_i TB_ok Try.func41 rfl (by kernel_rfl) ?_
  have hS : Sf [b] w w ([(b, rdO s)] ++ []) [] := ⟨hS⟩
  repeat ((conv => whnf); first | (refine nw_f hS ?_; intro b w1 hS) | (refine ld_f hS 0 rfl rfl ?_) | (refine ldA_f hS 0 rfl rfl ?_) | (refine stN_f hS 0 rfl (Nat.le_of_ble_eq_true rfl) rfl rfl ?_; (conv => whnf); intro w1 hS) | (refine stM_f hS 0 rfl (Nat.le_of_ble_eq_true rfl) rfl ?_; (conv => whnf); intro w1 hS))
  refine loop_i TB_ok (fun t : Nat × Int × RS => [(4, .int .i64 ((7 * t.1 : Nat) : Int)), (3, .int .u32 t.2.1)]) (fun t w' => t.1 ≤ 4 ∧ (0 ≤ t.2.1 ∧ t.2.1 < 2 ^ (7 * t.1)) ∧ varRF (5 - t.1) t.1 t.2.1 t.2.2 = varR s ∧ Sf [b] w w' ([(b, rdO t.2.2)] ++ []) []) (fun t => 5 - t.1) (0, 0, s) rfl ⟨Nat.zero_le _, by simp, rfl, hS⟩ ?_
  rintro ⟨k, n, st⟩ us w2 ⟨hk, hn, hv, hS⟩
  simp only at hk hn hv hS
  obtain ⟨f, hf⟩ : ∃ f, 5 - k = f + 1 := ⟨4 - k, by omega⟩
  rw [hf, varRF] at hv
  (conv => whnf)
  refine fc_m (rerr_c b st _ hS.ownF) ?_
  rintro v w3 ⟨rfl, hS'⟩
  replace hS := hS.call0 hS'
  repeat ((conv => whnf); first | (refine nw_f hS ?_; intro b w1 hS) | (refine ld_f hS 0 rfl rfl ?_) | (refine ldA_f hS 0 rfl rfl ?_) | (refine stN_f hS 0 rfl (Nat.le_of_ble_eq_true rfl) rfl rfl ?_; (conv => whnf); intro w1 hS) | (refine stM_f hS 0 rfl (Nat.le_of_ble_eq_true rfl) rfl ?_; (conv => whnf); intro w1 hS))
  refine br_i (fun h0 => ?_) (fun h0 => ?_)
  · have he : st.e = 0 := by simpa using h0
    rw [if_neg (by simp [he])] at hv
    repeat ((conv => whnf); first | (refine nw_f hS ?_; intro b w1 hS) | (refine ld_f hS 0 rfl rfl ?_) | (refine ldA_f hS 0 rfl rfl ?_) | (refine stN_f hS 0 rfl (Nat.le_of_ble_eq_true rfl) rfl rfl ?_; (conv => whnf); intro w1 hS) | (refine stM_f hS 0 rfl (Nat.le_of_ble_eq_true rfl) rfl ?_; (conv => whnf); intro w1 hS))
    refine fc_m (r8_c b st _ hS.ownF) ?_
    rintro v w4 ⟨rfl, hS'⟩
    replace hS := hS.callW hS'
    cases hr : st.rest with
    | nil =>
      rw [hr] at hv
      simp only at hv
      rw [fixedR_one_nil he hr] at hS ⊢
      repeat ((conv => whnf); first | (refine nw_f hS ?_; intro b w1 hS) | (refine ld_f hS 0 rfl rfl ?_) | (refine ldA_f hS 0 rfl rfl ?_) | (refine stN_f hS 0 rfl (Nat.le_of_ble_eq_true rfl) rfl rfl ?_; (conv => whnf); intro w1 hS) | (refine stM_f hS 0 rfl (Nat.le_of_ble_eq_true rfl) rfl ?_; (conv => whnf); intro w1 hS))
      refine fc_m (rerr_c b _ _ hS.ownF) ?_
      rintro v w5 ⟨rfl, hS'⟩
      replace hS := hS.call0 hS'
      repeat ((conv => whnf); first | (refine nw_f hS ?_; intro b w1 hS) | (refine ld_f hS 0 rfl rfl ?_) | (refine ldA_f hS 0 rfl rfl ?_) | (refine stN_f hS 0 rfl (Nat.le_of_ble_eq_true rfl) rfl rfl ?_; (conv => whnf); intro w1 hS) | (refine stM_f hS 0 rfl (Nat.le_of_ble_eq_true rfl) rfl ?_; (conv => whnf); intro w1 hS))
      rw [← hv]
      exact ⟨rfl, by simpa using hS.fr (List.Sublist.refl _)⟩
    | cons c t =>
      rw [hr] at hv
      simp only at hv
      rw [fixedR_one_cons he hr] at hS ⊢
      rw [numF_one]
      have hc := c.toNat_lt
      repeat ((conv => whnf); first | (refine nw_f hS ?_; intro b w1 hS) | (refine ld_f hS 0 rfl rfl ?_) | (refine ldA_f hS 0 rfl rfl ?_) | (refine stN_f hS 0 rfl (Nat.le_of_ble_eq_true rfl) rfl rfl ?_; (conv => whnf); intro w1 hS) | (refine stM_f hS 0 rfl (Nat.le_of_ble_eq_true rfl) rfl ?_; (conv => whnf); intro w1 hS))
      refine fc_m (rerr_c b _ _ hS.ownF) ?_
      rintro v w5 ⟨rfl, hS'⟩
      replace hS := hS.call0 hS'
      repeat ((conv => whnf); first | (refine nw_f hS ?_; intro b w1 hS) | (refine ld_f hS 0 rfl rfl ?_) | (refine ldA_f hS 0 rfl rfl ?_) | (refine stN_f hS 0 rfl (Nat.le_of_ble_eq_true rfl) rfl rfl ?_; (conv => whnf); intro w1 hS) | (refine stM_f hS 0 rfl (Nat.le_of_ble_eq_true rfl) rfl ?_; (conv => whnf); intro w1 hS))
      have ew : IntKind.u32.wrap (c.toNat : Int) = (c.toNat : Int) := wrap_u32 (by omega) (by omega)
      by_cases hB : (k = 4 ∧ 15 < c.toNat) ∨ (0 < k ∧ c.toNat = 0)
      · rw [if_pos hB] at hv
        repeat' ((conv => whnf); first | (refine nw_f hS ?_; intro b w1 hS) | (refine ld_f hS 0 rfl rfl ?_) | (refine ldA_f hS 0 rfl rfl ?_) | (refine stN_f hS 0 rfl (Nat.le_of_ble_eq_true rfl) rfl rfl ?_; (conv => whnf); intro w1 hS) | (refine stM_f hS 0 rfl (Nat.le_of_ble_eq_true rfl) rfl ?_; (conv => whnf); intro w1 hS) | (refine br_i (fun _ => ?_) (fun _ => ?_)))
        all_goals first
          | (exfalso; simp [ew] at *; omega)
          | (refine fc_m (rfail_c b _ 4 _ hS.ownF) ?_
             rintro v w6 hS'
             replace hS := hS.callW hS'
             repeat ((conv => whnf); first | (refine nw_f hS ?_; intro b w1 hS) | (refine ld_f hS 0 rfl rfl ?_) | (refine ldA_f hS 0 rfl rfl ?_) | (refine stN_f hS 0 rfl (Nat.le_of_ble_eq_true rfl) rfl rfl ?_; (conv => whnf); intro w1 hS) | (refine stM_f hS 0 rfl (Nat.le_of_ble_eq_true rfl) rfl ?_; (conv => whnf); intro w1 hS))
             rw [← hv]
             exact ⟨rfl, by simpa using hS.fr (List.Sublist.refl _)⟩)
      · rw [if_neg hB] at hv
        have ev : bOr .u32 n (bShl .u32 ((IntKind.u32.wrap (c.toNat : Int)).tmod 128) ((7 * k : Nat) : Int)) = n + (c.toNat % 128 : Nat) * 2 ^ (7 * k) := by
          rw [ew, show ((c.toNat : Int).tmod 128) = ((c.toNat % 128 : Nat) : Int) from by rw [Int.tmod_eq_emod_of_nonneg (by omega)]; rfl]
          exact orShift hn.1 hn.2 hk (by omega) (by omega)
        repeat' ((conv => whnf); first | (refine nw_f hS ?_; intro b w1 hS) | (refine ld_f hS 0 rfl rfl ?_) | (refine ldA_f hS 0 rfl rfl ?_) | (refine stN_f hS 0 rfl (Nat.le_of_ble_eq_true rfl) rfl rfl ?_; (conv => whnf); intro w1 hS) | (refine stM_f hS 0 rfl (Nat.le_of_ble_eq_true rfl) rfl ?_; (conv => whnf); intro w1 hS) | (refine .mk (by decide) ?_) | (refine .mk (by show (0 : Int) ≤ ((7 * k : Nat) : Int); omega) ?_) | (refine br_i (fun _ => ?_) (fun _ => ?_)))
        all_goals first
          | (exfalso; simp [ew] at *; omega)
          | (have hd : c.toNat < 128 := by
               have h := ‹decide (IntKind.u32.wrap (c.toNat : Int) < 128) = true›
               rw [ew] at h
               have := of_decide_eq_true h
               omega
             rw [if_pos hd] at hv
             repeat ((conv => whnf); first | (refine nw_f hS ?_; intro b w1 hS) | (refine ld_f hS 0 rfl rfl ?_) | (refine ldA_f hS 0 rfl rfl ?_) | (refine stN_f hS 0 rfl (Nat.le_of_ble_eq_true rfl) rfl rfl ?_; (conv => whnf); intro w1 hS) | (refine stM_f hS 0 rfl (Nat.le_of_ble_eq_true rfl) rfl ?_; (conv => whnf); intro w1 hS))
             rw [← hv]
             exact ⟨congrArg (Value.int .u32) ev, by simpa using hS.fr (List.Sublist.refl _)⟩)
          | (have hd : ¬ c.toNat < 128 := by
               have h := ‹decide (IntKind.u32.wrap (c.toNat : Int) < 128) = false›
               rw [ew] at h
               have := of_decide_eq_false h
               omega
             rw [if_neg hd] at hv
             have hk3 : k ≤ 3 := by omega
             repeat ((conv => whnf); first | (refine nw_f hS ?_; intro b w1 hS) | (refine ld_f hS 0 rfl rfl ?_) | (refine ldA_f hS 0 rfl rfl ?_) | (refine stN_f hS 0 rfl (Nat.le_of_ble_eq_true rfl) rfl rfl ?_; (conv => whnf); intro w1 hS) | (refine stM_f hS 0 rfl (Nat.le_of_ble_eq_true rfl) rfl ?_; (conv => whnf); intro w1 hS) | (refine .mk (by decide) ?_))
             refine ⟨rfl, (k + 1, n + (c.toNat % 128 : Nat) * 2 ^ (7 * k), ⟨t, 0⟩), ?_, ⟨by simp only; omega, ?_, ?_, hS⟩, by simp only; omega⟩
             · have e7 : IntKind.i64.wrap (((7 * (k, n, st).1 : Nat) : Int) + 7) = ((7 * (k + 1) : Nat) : Int) := by
                 show IntKind.i64.wrap (((7 * k : Nat) : Int) + 7) = _
                 rw [wrap_i64 (by omega) (by omega)]
                 omega
               rw [e7, ← ev]
               rfl
             · refine ⟨Int.add_nonneg hn.1 (Int.mul_nonneg (Int.natCast_nonneg _) (Int.pow_nonneg (by decide))), ?_⟩
               simp only
               rw [show 7 * (k + 1) = 7 * k + 7 from by omega, Int.pow_add]
               have h7 : (2 : Int) ^ 7 = 128 := by decide
               rw [h7]
               have hp := hn.2
               generalize (2 : Int) ^ (7 * k) = p at *
               have hle : (c.toNat % 128 : Nat) ≤ (127 : Int) := by omega
               have := Int.mul_le_mul_of_nonneg_right hle (show 0 ≤ p by omega)
               omega
             · show varRF (5 - (k + 1)) _ _ _ = _
               rw [show 5 - (k + 1) = f from by omega, hv])
  · have he : st.e ≠ 0 := by simpa using h0
    rw [if_pos he] at hv
    repeat ((conv => whnf); first | (refine nw_f hS ?_; intro b w1 hS) | (refine ld_f hS 0 rfl rfl ?_) | (refine ldA_f hS 0 rfl rfl ?_) | (refine stN_f hS 0 rfl (Nat.le_of_ble_eq_true rfl) rfl rfl ?_; (conv => whnf); intro w1 hS) | (refine stM_f hS 0 rfl (Nat.le_of_ble_eq_true rfl) rfl ?_; (conv => whnf); intro w1 hS))
    rw [← hv]
    exact ⟨rfl, by simpa using hS.fr (List.Sublist.refl _)⟩
end Go.RV
