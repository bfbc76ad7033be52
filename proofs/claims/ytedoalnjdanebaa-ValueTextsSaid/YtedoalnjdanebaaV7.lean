/- Contracts of functions of chapter 1: the reader's numbers. Conditions: none. -/
import Derived.Test.YtedoalnjdanebaaV6
set_option maxRecDepth 20000
set_option linter.unusedVariables false
set_option linter.unusedSimpArgs false
namespace Go.RV
open Go Go.Proofs

def numF (n : Int) (l : List UInt8) : Int := l.foldl (fun n c => n * 256 + (c.toNat : Int)) n
theorem or_add {n c : Nat} (hc : c < 256) : (n * 256) ||| c = n * 256 + c := by
  rw [show n * 256 = n <<< 8 from by rw [Nat.shiftLeft_eq]]
  exact (Nat.shiftLeft_add_eq_or_of_lt hc n).symm
theorem orv {n : Int} {c : Nat} (h0 : 0 ≤ n) (h1 : n < 16777216) (hc : c < 256) : bOr .u32 (bShl .u32 n 8) (c : Int) = n * 256 + c := by
  obtain ⟨m, rfl⟩ := Int.eq_ofNat_of_zero_le h0
  have e8 : bShl .u32 (m : Int) 8 = ((m * 256 : Nat) : Int) := by
    unfold bShl
    have e : min (8 : Int).toNat IntKind.u32.bits = 8 := rfl
    rw [e]
    show IntKind.u32.wrap ((m : Int) * 256) = _
    rw [wrap_u32 (by omega) (by omega)]
    omega
  rw [e8]
  unfold bOr
  have hb : IntKind.u32.bits = 32 := rfl
  rw [hb]
  have e1 : BitVec.ofInt 32 ((m * 256 : Nat) : Int) = BitVec.ofNat 32 (m * 256) := BitVec.ofInt_natCast 32 _
  have e2 : BitVec.ofInt 32 ((c : Nat) : Int) = BitVec.ofNat 32 c := BitVec.ofInt_natCast 32 _
  rw [e1, e2, BitVec.toNat_or, BitVec.toNat_ofNat, BitVec.toNat_ofNat, Nat.mod_eq_of_lt (by omega), Nat.mod_eq_of_lt (by omega), or_add hc, wrap_u32 (by omega) (by omega)]
  omega
theorem numF_bound : ∀ (l : List UInt8) (n : Int), 0 ≤ n → 0 ≤ numF n l ∧ numF n l < (n + 1) * 256 ^ l.length
  | [], n, h => by simp [numF]; omega
  | c :: l, n, h => by
    have hc : c.toNat < 256 := c.toNat_lt
    have ih := numF_bound l (n * 256 + c.toNat) (by omega)
    refine ⟨ih.1, Int.lt_of_lt_of_le ih.2 ?_⟩
    rw [List.length_cons, Int.pow_succ, Int.mul_comm (256 ^ l.length) 256, ← Int.mul_assoc]
    exact Int.mul_le_mul_of_nonneg_right (by omega) (Int.pow_nonneg (by decide))
theorem fixedR_len (s : RS) (W : Nat) : (fixedR s W).1.length ≤ W := by
  unfold fixedR
  split
  · simp
  · split
    · simp
    · simp; omega

theorem get8_c (b : Nat) (s : RS) (W : Nat) (hW : W ≤ 4) (w : World) (hS : St [b] w w [(b, rdO s)]) :
    Fc Try.prog 73 [.pointer (some ⟨b, 0, none⟩), .int .i64 W] w fun v w' => v = .int .u8 (IntKind.u8.wrap (numF 0 (fixedR s W).1)) ∧ St [b] w w' [(b, rdO (fixedR s W).2)] := by
  refine fc_i TB_ok Try.func73 rfl (by kernel_rfl) ?_
  have hS : Sf [b] w w ([(b, rdO s)] ++ []) [] := ⟨hS⟩
  repeat ((conv => whnf); first | (refine nw_f hS ?_; intro b w1 hS) | (refine ld_f hS 0 rfl rfl ?_) | (refine ldA_f hS 0 rfl rfl ?_) | (refine stN_f hS 0 rfl (Nat.le_of_ble_eq_true rfl) rfl rfl ?_; (conv => whnf); intro w1 hS) | (refine stM_f hS 0 rfl (Nat.le_of_ble_eq_true rfl) rfl ?_; (conv => whnf); intro w1 hS))
  refine fc_m (rfixed0_c b s W _ hS.ownF) ?_
  rintro v w1 ⟨rfl, hS'⟩
  replace hS := hS.callW hS'
  have hl := fixedR_len s W
  generalize (fixedR s W).1 = bs at *
  generalize (fixedR s W).2 = s2 at *
  (conv => whnf)
  refine sBytes_i Try.underlying9 Try.underlying69 Try.underlying5 hS ?_
  intro br cap C w1 hcap hrow hS
  have hsz : (strY bs).size = bs.length := strY_size bs
  have hd : (strY bs).data.toList = bs := by simp [strY]
  rw [hd] at hrow
  rw [hsz]
  repeat ((conv => whnf); first | (refine nw_f hS ?_; intro b w1 hS) | (refine ld_f hS 0 rfl rfl ?_) | (refine ldA_f hS 0 rfl rfl ?_) | (refine stN_f hS 0 rfl (Nat.le_of_ble_eq_true rfl) rfl rfl ?_; (conv => whnf); intro w1 hS) | (refine stM_f hS 0 rfl (Nat.le_of_ble_eq_true rfl) rfl ?_; (conv => whnf); intro w1 hS))
  refine loop_i TB_ok (fun i : Nat => [(13, .int .i64 i), (5, .int .u32 (numF 0 (bs.take i)))]) (fun i w' => i ≤ bs.length ∧ Sf [b] w w' ([(b, rdO s2)] ++ []) [(br, _)]) (fun i => bs.length - i) 0 rfl ⟨Nat.zero_le _, hS⟩ ?_
  rintro i us w3 ⟨hi, hS⟩
  (conv => whnf)
  refine br_i (fun hb => ?_) (fun hb => ?_)
  · have hlt : i < bs.length := by simpa using hb
    have hR := hrow.rd hS
    have hstep : numF 0 (bs.take (i+1)) = numF 0 (bs.take i) * 256 + (bs[i].toNat : Int) := by
      unfold numF
      rw [List.take_succ_eq_append_getElem hlt, List.foldl_append]
      rfl
    repeat ((conv => whnf); first | (refine nw_f hS ?_; intro b w1 hS) | (refine ld_f hS 0 rfl rfl ?_) | (refine ldA_f hS 0 rfl rfl ?_) | (refine stN_f hS 0 rfl (Nat.le_of_ble_eq_true rfl) rfl rfl ?_; (conv => whnf); intro w1 hS) | (refine stM_f hS 0 rfl (Nat.le_of_ble_eq_true rfl) rfl ?_; (conv => whnf); intro w1 hS) | (refine .mk ⟨by omega, by omega⟩ ?_; refine ix_i rfl ?_) | (refine ld_el encY_len hR.at (i := i) (k := 0) hlt (by omega) rfl (v := .int .u8 (bs[i].toNat : Int)) rfl ?_) | (refine .mk (by decide) ?_))
    have hbd := numF_bound (bs.take i) 0 (by decide)
    have hpow : (256 : Int) ^ (bs.take i).length ≤ 256 ^ 3 := by
      rw [List.length_take]
      have : min i bs.length ≤ 3 := by omega
      exact_mod_cast Nat.pow_le_pow_right (by decide) this
    have h24 : (256 : Int) ^ 3 = 16777216 := by decide
    refine ⟨rfl, i + 1, ?_, ⟨by omega, hS⟩, by omega⟩
    have hc := bs[i].toNat_lt
    have ev : bOr .u32 (bShl .u32 (numF 0 (bs.take i)) 8) (IntKind.u32.wrap (bs[i].toNat : Int)) = numF 0 (bs.take i) * 256 + (bs[i].toNat : Int) := by
      rw [wrap_u32 (by omega) (by omega)]
      exact orv hbd.1 (by omega) hc
    rw [wi hlt (by omega), hstep, ← ev]
    rfl
  · have hge : i = bs.length := by simp at hb; omega
    subst hge
    repeat ((conv => whnf); first | (refine nw_f hS ?_; intro b w1 hS) | (refine ld_f hS 0 rfl rfl ?_) | (refine ldA_f hS 0 rfl rfl ?_) | (refine stN_f hS 0 rfl (Nat.le_of_ble_eq_true rfl) rfl rfl ?_; (conv => whnf); intro w1 hS) | (refine stM_f hS 0 rfl (Nat.le_of_ble_eq_true rfl) rfl ?_; (conv => whnf); intro w1 hS))
    rw [List.take_length]
    exact ⟨rfl, by simpa using hS.fr (List.Sublist.refl _)⟩
theorem get16_c (b : Nat) (s : RS) (W : Nat) (hW : W ≤ 4) (w : World) (hS : St [b] w w [(b, rdO s)]) :
    Fc Try.prog 74 [.pointer (some ⟨b, 0, none⟩), .int .i64 W] w fun v w' => v = .int .u16 (IntKind.u16.wrap (numF 0 (fixedR s W).1)) ∧ St [b] w w' [(b, rdO (fixedR s W).2)] := by
  refine fc_i TB_ok Try.func74 rfl (by kernel_rfl) ?_
  have hS : Sf [b] w w ([(b, rdO s)] ++ []) [] := ⟨hS⟩
  repeat ((conv => whnf); first | (refine nw_f hS ?_; intro b w1 hS) | (refine ld_f hS 0 rfl rfl ?_) | (refine ldA_f hS 0 rfl rfl ?_) | (refine stN_f hS 0 rfl (Nat.le_of_ble_eq_true rfl) rfl rfl ?_; (conv => whnf); intro w1 hS) | (refine stM_f hS 0 rfl (Nat.le_of_ble_eq_true rfl) rfl ?_; (conv => whnf); intro w1 hS))
  refine fc_m (rfixed0_c b s W _ hS.ownF) ?_
  rintro v w1 ⟨rfl, hS'⟩
  replace hS := hS.callW hS'
  have hl := fixedR_len s W
  generalize (fixedR s W).1 = bs at *
  generalize (fixedR s W).2 = s2 at *
  (conv => whnf)
  refine sBytes_i Try.underlying9 Try.underlying69 Try.underlying5 hS ?_
  intro br cap C w1 hcap hrow hS
  have hsz : (strY bs).size = bs.length := strY_size bs
  have hd : (strY bs).data.toList = bs := by simp [strY]
  rw [hd] at hrow
  rw [hsz]
  repeat ((conv => whnf); first | (refine nw_f hS ?_; intro b w1 hS) | (refine ld_f hS 0 rfl rfl ?_) | (refine ldA_f hS 0 rfl rfl ?_) | (refine stN_f hS 0 rfl (Nat.le_of_ble_eq_true rfl) rfl rfl ?_; (conv => whnf); intro w1 hS) | (refine stM_f hS 0 rfl (Nat.le_of_ble_eq_true rfl) rfl ?_; (conv => whnf); intro w1 hS))
  refine loop_i TB_ok (fun i : Nat => [(13, .int .i64 i), (5, .int .u32 (numF 0 (bs.take i)))]) (fun i w' => i ≤ bs.length ∧ Sf [b] w w' ([(b, rdO s2)] ++ []) [(br, _)]) (fun i => bs.length - i) 0 rfl ⟨Nat.zero_le _, hS⟩ ?_
  rintro i us w3 ⟨hi, hS⟩
  (conv => whnf)
  refine br_i (fun hb => ?_) (fun hb => ?_)
  · have hlt : i < bs.length := by simpa using hb
    have hR := hrow.rd hS
    have hstep : numF 0 (bs.take (i+1)) = numF 0 (bs.take i) * 256 + (bs[i].toNat : Int) := by
      unfold numF
      rw [List.take_succ_eq_append_getElem hlt, List.foldl_append]
      rfl
    repeat ((conv => whnf); first | (refine nw_f hS ?_; intro b w1 hS) | (refine ld_f hS 0 rfl rfl ?_) | (refine ldA_f hS 0 rfl rfl ?_) | (refine stN_f hS 0 rfl (Nat.le_of_ble_eq_true rfl) rfl rfl ?_; (conv => whnf); intro w1 hS) | (refine stM_f hS 0 rfl (Nat.le_of_ble_eq_true rfl) rfl ?_; (conv => whnf); intro w1 hS) | (refine .mk ⟨by omega, by omega⟩ ?_; refine ix_i rfl ?_) | (refine ld_el encY_len hR.at (i := i) (k := 0) hlt (by omega) rfl (v := .int .u8 (bs[i].toNat : Int)) rfl ?_) | (refine .mk (by decide) ?_))
    have hbd := numF_bound (bs.take i) 0 (by decide)
    have hpow : (256 : Int) ^ (bs.take i).length ≤ 256 ^ 3 := by
      rw [List.length_take]
      have : min i bs.length ≤ 3 := by omega
      exact_mod_cast Nat.pow_le_pow_right (by decide) this
    have h24 : (256 : Int) ^ 3 = 16777216 := by decide
    refine ⟨rfl, i + 1, ?_, ⟨by omega, hS⟩, by omega⟩
    have hc := bs[i].toNat_lt
    have ev : bOr .u32 (bShl .u32 (numF 0 (bs.take i)) 8) (IntKind.u32.wrap (bs[i].toNat : Int)) = numF 0 (bs.take i) * 256 + (bs[i].toNat : Int) := by
      rw [wrap_u32 (by omega) (by omega)]
      exact orv hbd.1 (by omega) hc
    rw [wi hlt (by omega), hstep, ← ev]
    rfl
  · have hge : i = bs.length := by simp at hb; omega
    subst hge
    repeat ((conv => whnf); first | (refine nw_f hS ?_; intro b w1 hS) | (refine ld_f hS 0 rfl rfl ?_) | (refine ldA_f hS 0 rfl rfl ?_) | (refine stN_f hS 0 rfl (Nat.le_of_ble_eq_true rfl) rfl rfl ?_; (conv => whnf); intro w1 hS) | (refine stM_f hS 0 rfl (Nat.le_of_ble_eq_true rfl) rfl ?_; (conv => whnf); intro w1 hS))
    rw [List.take_length]
    exact ⟨rfl, by simpa using hS.fr (List.Sublist.refl _)⟩
theorem get32_c (b : Nat) (s : RS) (W : Nat) (hW : W ≤ 4) (w : World) (hS : St [b] w w [(b, rdO s)]) :
    Fc Try.prog 64 [.pointer (some ⟨b, 0, none⟩), .int .i64 W] w fun v w' => v = .int .u32 (numF 0 (fixedR s W).1) ∧ St [b] w w' [(b, rdO (fixedR s W).2)] := by
  refine fc_i TB_ok Try.func64 rfl (by kernel_rfl) ?_
  have hS : Sf [b] w w ([(b, rdO s)] ++ []) [] := ⟨hS⟩
  repeat ((conv => whnf); first | (refine nw_f hS ?_; intro b w1 hS) | (refine ld_f hS 0 rfl rfl ?_) | (refine ldA_f hS 0 rfl rfl ?_) | (refine stN_f hS 0 rfl (Nat.le_of_ble_eq_true rfl) rfl rfl ?_; (conv => whnf); intro w1 hS) | (refine stM_f hS 0 rfl (Nat.le_of_ble_eq_true rfl) rfl ?_; (conv => whnf); intro w1 hS))
  refine fc_m (rfixed0_c b s W _ hS.ownF) ?_
  rintro v w1 ⟨rfl, hS'⟩
  replace hS := hS.callW hS'
  have hl := fixedR_len s W
  generalize (fixedR s W).1 = bs at *
  generalize (fixedR s W).2 = s2 at *
  (conv => whnf)
  refine sBytes_i Try.underlying9 Try.underlying69 Try.underlying5 hS ?_
  intro br cap C w1 hcap hrow hS
  have hsz : (strY bs).size = bs.length := strY_size bs
  have hd : (strY bs).data.toList = bs := by simp [strY]
  rw [hd] at hrow
  rw [hsz]
  repeat ((conv => whnf); first | (refine nw_f hS ?_; intro b w1 hS) | (refine ld_f hS 0 rfl rfl ?_) | (refine ldA_f hS 0 rfl rfl ?_) | (refine stN_f hS 0 rfl (Nat.le_of_ble_eq_true rfl) rfl rfl ?_; (conv => whnf); intro w1 hS) | (refine stM_f hS 0 rfl (Nat.le_of_ble_eq_true rfl) rfl ?_; (conv => whnf); intro w1 hS))
  refine loop_i TB_ok (fun i : Nat => [(13, .int .i64 i), (5, .int .u32 (numF 0 (bs.take i)))]) (fun i w' => i ≤ bs.length ∧ Sf [b] w w' ([(b, rdO s2)] ++ []) [(br, _)]) (fun i => bs.length - i) 0 rfl ⟨Nat.zero_le _, hS⟩ ?_
  rintro i us w3 ⟨hi, hS⟩
  (conv => whnf)
  refine br_i (fun hb => ?_) (fun hb => ?_)
  · have hlt : i < bs.length := by simpa using hb
    have hR := hrow.rd hS
    have hstep : numF 0 (bs.take (i+1)) = numF 0 (bs.take i) * 256 + (bs[i].toNat : Int) := by
      unfold numF
      rw [List.take_succ_eq_append_getElem hlt, List.foldl_append]
      rfl
    repeat ((conv => whnf); first | (refine nw_f hS ?_; intro b w1 hS) | (refine ld_f hS 0 rfl rfl ?_) | (refine ldA_f hS 0 rfl rfl ?_) | (refine stN_f hS 0 rfl (Nat.le_of_ble_eq_true rfl) rfl rfl ?_; (conv => whnf); intro w1 hS) | (refine stM_f hS 0 rfl (Nat.le_of_ble_eq_true rfl) rfl ?_; (conv => whnf); intro w1 hS) | (refine .mk ⟨by omega, by omega⟩ ?_; refine ix_i rfl ?_) | (refine ld_el encY_len hR.at (i := i) (k := 0) hlt (by omega) rfl (v := .int .u8 (bs[i].toNat : Int)) rfl ?_) | (refine .mk (by decide) ?_))
    have hbd := numF_bound (bs.take i) 0 (by decide)
    have hpow : (256 : Int) ^ (bs.take i).length ≤ 256 ^ 3 := by
      rw [List.length_take]
      have : min i bs.length ≤ 3 := by omega
      exact_mod_cast Nat.pow_le_pow_right (by decide) this
    have h24 : (256 : Int) ^ 3 = 16777216 := by decide
    refine ⟨rfl, i + 1, ?_, ⟨by omega, hS⟩, by omega⟩
    have hc := bs[i].toNat_lt
    have ev : bOr .u32 (bShl .u32 (numF 0 (bs.take i)) 8) (IntKind.u32.wrap (bs[i].toNat : Int)) = numF 0 (bs.take i) * 256 + (bs[i].toNat : Int) := by
      rw [wrap_u32 (by omega) (by omega)]
      exact orv hbd.1 (by omega) hc
    rw [wi hlt (by omega), hstep, ← ev]
    rfl
  · have hge : i = bs.length := by simp at hb; omega
    subst hge
    repeat ((conv => whnf); first | (refine nw_f hS ?_; intro b w1 hS) | (refine ld_f hS 0 rfl rfl ?_) | (refine ldA_f hS 0 rfl rfl ?_) | (refine stN_f hS 0 rfl (Nat.le_of_ble_eq_true rfl) rfl rfl ?_; (conv => whnf); intro w1 hS) | (refine stM_f hS 0 rfl (Nat.le_of_ble_eq_true rfl) rfl ?_; (conv => whnf); intro w1 hS))
    rw [List.take_length]
    exact ⟨rfl, by simpa using hS.fr (List.Sublist.refl _)⟩
end Go.RV
