/- Texts of mine, packed for a claim (bundle.py). Conditions: none. -/
import Derived.Test.YtlebdkdjjegpgaaGreatK5x1
import Derived.Laws.MakeOwn
import Derived.Laws.IdiomCopy
import Derived.Laws.CopyRow
import Derived.ChangeKeysEq
set_option maxRecDepth 20000
set_option linter.unusedVariables false
set_option linter.unusedSimpArgs false
namespace Go.RV
open Go Go.Proofs

def numF (n : Int) (l : List UInt8) : Int := l.foldl (fun n c => n * 256 + (c.toNat : Int)) n
theorem or_add {n c : Nat} (hc : c < 256) : (n * 256) ||| c = n * 256 + c := by
  rw [show n * 256 = n <<< 8 from by rw [Nat.shiftLeft_eq]]
  exact (Nat.shiftLeft_add_eq_or_of_lt hc n).symm
theorem orv {n : Int} {c : Nat} (h0 : 0 ≤ n) (h1 : n < 16777216) (hc : c < 256) : bOr .u32 (bShl .u32 n 8) (c : Int) = n * 256 + c := by
  obtain ⟨m, rfl⟩ := Int.eq_ofNat_of_zero_le h0
  have e8 : bShl .u32 (m : Int) 8 = ((m * 256 : Nat) : Int) := by
    unfold bShl
    have e : min (8 : Int).toNat IntKind.u32.bits = 8 := rfl
    rw [e]
    show IntKind.u32.wrap ((m : Int) * 256) = _
    rw [wrap_u32 (by omega) (by omega)]
    omega
  rw [e8]
  unfold bOr
  have hb : IntKind.u32.bits = 32 := rfl
  rw [hb]
  have e1 : BitVec.ofInt 32 ((m * 256 : Nat) : Int) = BitVec.ofNat 32 (m * 256) := BitVec.ofInt_natCast 32 _
  have e2 : BitVec.ofInt 32 ((c : Nat) : Int) = BitVec.ofNat 32 c := BitVec.ofInt_natCast 32 _
  rw [e1, e2, BitVec.toNat_or, BitVec.toNat_ofNat, BitVec.toNat_ofNat, Nat.mod_eq_of_lt (by omega), Nat.mod_eq_of_lt (by omega), or_add hc, wrap_u32 (by omega) (by omega)]
  omega
theorem numF_bound : ∀ (l : List UInt8) (n : Int), 0 ≤ n → 0 ≤ numF n l ∧ numF n l < (n + 1) * 256 ^ l.length
  | [], n, h => by simp [numF]; omega
  | c :: l, n, h => by
    have hc : c.toNat < 256 := c.toNat_lt
    have ih := numF_bound l (n * 256 + c.toNat) (by omega)
    refine ⟨ih.1, Int.lt_of_lt_of_le ih.2 ?_⟩
    rw [List.length_cons, Int.pow_succ, Int.mul_comm (256 ^ l.length) 256, ← Int.mul_assoc]
    exact Int.mul_le_mul_of_nonneg_right (by omega) (Int.pow_nonneg (by decide))
theorem fixedR_len (s : RS) (W : Nat) : (fixedR s W).1.length ≤ W := by
  unfold fixedR
  split
  · simp
  · split
    · simp
    · simp; omega

theorem get8_c (b : Nat) (s : RS) (W : Nat) (hW : W ≤ 4) (w : World) (hS : St [b] w w [(b, rdO s)]) :
    Fc Tryz.prog 107 [.pointer (some ⟨b, 0, none⟩), .int .i64 W] w fun v w' => v = .int .u8 (IntKind.u8.wrap (numF 0 (fixedR s W).1)) ∧ St [b] w w' [(b, rdO (fixedR s W).2)] := by
  refine fc_i TB_ok Tryz.func107 rfl (by kernel_rfl) ?_
  have hS : Sf [b] w w ([(b, rdO s)] ++ []) [] := ⟨hS⟩
  repeat ((conv => whnf); first | (refine nw_f hS ?_; intro b w1 hS) | refine ld_f hS 0 rfl rfl ?_ | refine ldA_f hS 0 rfl rfl ?_ | ((first | refine stN_f hS 0 rfl (lb9 rfl) rfl rfl ?_ | refine stM_f hS 0 rfl (lb9 rfl) rfl ?_); (conv => whnf); intro w1 hS))
  refine fc_m (rfixed0_c b s W _ hS.ownF) ?_
  rintro v w1 ⟨rfl, hS'⟩
  replace hS := hS.callW hS'
  have hl := fixedR_len s W
  generalize (fixedR s W).1 = bs at *
  generalize (fixedR s W).2 = s2 at *
  (conv => whnf)
  refine sBytes_i Tryz.underlying9 Tryz.underlying96 Tryz.underlying5 hS ?_
  intro br cap C w1 hcap hrow hS
  have hsz : (strY bs).size = bs.length := strY_size bs
  have hd : (strY bs).data.toList = bs := by simp [strY]
  rw [hd] at hrow
  rw [hsz]
  repeat ((conv => whnf); first | (refine nw_f hS ?_; intro b w1 hS) | refine ld_f hS 0 rfl rfl ?_ | refine ldA_f hS 0 rfl rfl ?_ | ((first | refine stN_f hS 0 rfl (lb9 rfl) rfl rfl ?_ | refine stM_f hS 0 rfl (lb9 rfl) rfl ?_); (conv => whnf); intro w1 hS))
  refine loop_i TB_ok (fun i : Nat => [(13, .int .i64 i), (5, .int .u32 (numF 0 (bs.take i)))]) (fun i w' => i ≤ bs.length ∧ Sf [b] w w' ([(b, rdO s2)] ++ []) [(br, _)]) (fun i => bs.length - i) 0 rfl ⟨Nat.zero_le _, hS⟩ ?_
  rintro i us w3 ⟨hi, hS⟩
  (conv => whnf)
  refine br_i (fun hb => ?_) (fun hb => ?_)
  · have hlt : i < bs.length := by simpa using hb
    have hR := hrow.rd hS
    have hstep : numF 0 (bs.take (i+1)) = numF 0 (bs.take i) * 256 + (bs[i].toNat : Int) := by
      unfold numF
      rw [List.take_succ_eq_append_getElem hlt, List.foldl_append]
      rfl
    repeat ((conv => whnf); first | (refine nw_f hS ?_; intro b w1 hS) | refine ld_f hS 0 rfl rfl ?_ | refine ldA_f hS 0 rfl rfl ?_ | ((first | refine stN_f hS 0 rfl (lb9 rfl) rfl rfl ?_ | refine stM_f hS 0 rfl (lb9 rfl) rfl ?_); (conv => whnf); intro w1 hS) | (refine .mk ⟨by omega, by omega⟩ ?_; refine ix_i rfl ?_) | refine ld_el encY_len hR.at (i := i) (k := 0) hlt (by omega) rfl (v := .int .u8 (bs[i].toNat : Int)) rfl ?_ | (refine .mk (by decide) ?_))
    have hbd := numF_bound (bs.take i) 0 (by decide)
    have hpow : (256 : Int) ^ (bs.take i).length ≤ 256 ^ 3 := by
      rw [List.length_take]
      have : min i bs.length ≤ 3 := by omega
      exact_mod_cast Nat.pow_le_pow_right (by decide) this
    have h24 : (256 : Int) ^ 3 = 16777216 := by decide
    refine ⟨rfl, i + 1, ?_, ⟨by omega, hS⟩, by omega⟩
    have hc := bs[i].toNat_lt
    have ev : bOr .u32 (bShl .u32 (numF 0 (bs.take i)) 8) (IntKind.u32.wrap (bs[i].toNat : Int)) = numF 0 (bs.take i) * 256 + (bs[i].toNat : Int) := by
      rw [wrap_u32 (by omega) (by omega)]
      exact orv hbd.1 (by omega) hc
    rw [wi hlt (by omega), hstep, ← ev]
    rfl
  · have hge : i = bs.length := by simp at hb; omega
    subst hge
    repeat ((conv => whnf); first | (refine nw_f hS ?_; intro b w1 hS) | refine ld_f hS 0 rfl rfl ?_ | refine ldA_f hS 0 rfl rfl ?_ | ((first | refine stN_f hS 0 rfl (lb9 rfl) rfl rfl ?_ | refine stM_f hS 0 rfl (lb9 rfl) rfl ?_); (conv => whnf); intro w1 hS))
    rw [List.take_length]
    exact ⟨rfl, by simpa using hS.fr (List.Sublist.refl _)⟩
theorem get16_c (b : Nat) (s : RS) (W : Nat) (hW : W ≤ 4) (w : World) (hS : St [b] w w [(b, rdO s)]) :
    Fc Tryz.prog 108 [.pointer (some ⟨b, 0, none⟩), .int .i64 W] w fun v w' => v = .int .u16 (IntKind.u16.wrap (numF 0 (fixedR s W).1)) ∧ St [b] w w' [(b, rdO (fixedR s W).2)] := by
  refine fc_i TB_ok Tryz.func108 rfl (by kernel_rfl) ?_
  have hS : Sf [b] w w ([(b, rdO s)] ++ []) [] := ⟨hS⟩
  repeat ((conv => whnf); first | (refine nw_f hS ?_; intro b w1 hS) | refine ld_f hS 0 rfl rfl ?_ | refine ldA_f hS 0 rfl rfl ?_ | ((first | refine stN_f hS 0 rfl (lb9 rfl) rfl rfl ?_ | refine stM_f hS 0 rfl (lb9 rfl) rfl ?_); (conv => whnf); intro w1 hS))
  refine fc_m (rfixed0_c b s W _ hS.ownF) ?_
  rintro v w1 ⟨rfl, hS'⟩
  replace hS := hS.callW hS'
  have hl := fixedR_len s W
  generalize (fixedR s W).1 = bs at *
  generalize (fixedR s W).2 = s2 at *
  (conv => whnf)
  refine sBytes_i Tryz.underlying9 Tryz.underlying96 Tryz.underlying5 hS ?_
  intro br cap C w1 hcap hrow hS
  have hsz : (strY bs).size = bs.length := strY_size bs
  have hd : (strY bs).data.toList = bs := by simp [strY]
  rw [hd] at hrow
  rw [hsz]
  repeat ((conv => whnf); first | (refine nw_f hS ?_; intro b w1 hS) | refine ld_f hS 0 rfl rfl ?_ | refine ldA_f hS 0 rfl rfl ?_ | ((first | refine stN_f hS 0 rfl (lb9 rfl) rfl rfl ?_ | refine stM_f hS 0 rfl (lb9 rfl) rfl ?_); (conv => whnf); intro w1 hS))
  refine loop_i TB_ok (fun i : Nat => [(13, .int .i64 i), (5, .int .u32 (numF 0 (bs.take i)))]) (fun i w' => i ≤ bs.length ∧ Sf [b] w w' ([(b, rdO s2)] ++ []) [(br, _)]) (fun i => bs.length - i) 0 rfl ⟨Nat.zero_le _, hS⟩ ?_
  rintro i us w3 ⟨hi, hS⟩
  (conv => whnf)
  refine br_i (fun hb => ?_) (fun hb => ?_)
  · have hlt : i < bs.length := by simpa using hb
    have hR := hrow.rd hS
    have hstep : numF 0 (bs.take (i+1)) = numF 0 (bs.take i) * 256 + (bs[i].toNat : Int) := by
      unfold numF
      rw [List.take_succ_eq_append_getElem hlt, List.foldl_append]
      rfl
    repeat ((conv => whnf); first | (refine nw_f hS ?_; intro b w1 hS) | refine ld_f hS 0 rfl rfl ?_ | refine ldA_f hS 0 rfl rfl ?_ | ((first | refine stN_f hS 0 rfl (lb9 rfl) rfl rfl ?_ | refine stM_f hS 0 rfl (lb9 rfl) rfl ?_); (conv => whnf); intro w1 hS) | (refine .mk ⟨by omega, by omega⟩ ?_; refine ix_i rfl ?_) | refine ld_el encY_len hR.at (i := i) (k := 0) hlt (by omega) rfl (v := .int .u8 (bs[i].toNat : Int)) rfl ?_ | (refine .mk (by decide) ?_))
    have hbd := numF_bound (bs.take i) 0 (by decide)
    have hpow : (256 : Int) ^ (bs.take i).length ≤ 256 ^ 3 := by
      rw [List.length_take]
      have : min i bs.length ≤ 3 := by omega
      exact_mod_cast Nat.pow_le_pow_right (by decide) this
    have h24 : (256 : Int) ^ 3 = 16777216 := by decide
    refine ⟨rfl, i + 1, ?_, ⟨by omega, hS⟩, by omega⟩
    have hc := bs[i].toNat_lt
    have ev : bOr .u32 (bShl .u32 (numF 0 (bs.take i)) 8) (IntKind.u32.wrap (bs[i].toNat : Int)) = numF 0 (bs.take i) * 256 + (bs[i].toNat : Int) := by
      rw [wrap_u32 (by omega) (by omega)]
      exact orv hbd.1 (by omega) hc
    rw [wi hlt (by omega), hstep, ← ev]
    rfl
  · have hge : i = bs.length := by simp at hb; omega
    subst hge
    repeat ((conv => whnf); first | (refine nw_f hS ?_; intro b w1 hS) | refine ld_f hS 0 rfl rfl ?_ | refine ldA_f hS 0 rfl rfl ?_ | ((first | refine stN_f hS 0 rfl (lb9 rfl) rfl rfl ?_ | refine stM_f hS 0 rfl (lb9 rfl) rfl ?_); (conv => whnf); intro w1 hS))
    rw [List.take_length]
    exact ⟨rfl, by simpa using hS.fr (List.Sublist.refl _)⟩
theorem get32_c (b : Nat) (s : RS) (W : Nat) (hW : W ≤ 4) (w : World) (hS : St [b] w w [(b, rdO s)]) :
    Fc Tryz.prog 109 [.pointer (some ⟨b, 0, none⟩), .int .i64 W] w fun v w' => v = .int .u32 (numF 0 (fixedR s W).1) ∧ St [b] w w' [(b, rdO (fixedR s W).2)] := by
  refine fc_i TB_ok Tryz.func109 rfl (by kernel_rfl) ?_
  have hS : Sf [b] w w ([(b, rdO s)] ++ []) [] := ⟨hS⟩
  repeat ((conv => whnf); first | (refine nw_f hS ?_; intro b w1 hS) | refine ld_f hS 0 rfl rfl ?_ | refine ldA_f hS 0 rfl rfl ?_ | ((first | refine stN_f hS 0 rfl (lb9 rfl) rfl rfl ?_ | refine stM_f hS 0 rfl (lb9 rfl) rfl ?_); (conv => whnf); intro w1 hS))
  refine fc_m (rfixed0_c b s W _ hS.ownF) ?_
  rintro v w1 ⟨rfl, hS'⟩
  replace hS := hS.callW hS'
  have hl := fixedR_len s W
  generalize (fixedR s W).1 = bs at *
  generalize (fixedR s W).2 = s2 at *
  (conv => whnf)
  refine sBytes_i Tryz.underlying9 Tryz.underlying96 Tryz.underlying5 hS ?_
  intro br cap C w1 hcap hrow hS
  have hsz : (strY bs).size = bs.length := strY_size bs
  have hd : (strY bs).data.toList = bs := by simp [strY]
  rw [hd] at hrow
  rw [hsz]
  repeat ((conv => whnf); first | (refine nw_f hS ?_; intro b w1 hS) | refine ld_f hS 0 rfl rfl ?_ | refine ldA_f hS 0 rfl rfl ?_ | ((first | refine stN_f hS 0 rfl (lb9 rfl) rfl rfl ?_ | refine stM_f hS 0 rfl (lb9 rfl) rfl ?_); (conv => whnf); intro w1 hS))
  refine loop_i TB_ok (fun i : Nat => [(13, .int .i64 i), (5, .int .u32 (numF 0 (bs.take i)))]) (fun i w' => i ≤ bs.length ∧ Sf [b] w w' ([(b, rdO s2)] ++ []) [(br, _)]) (fun i => bs.length - i) 0 rfl ⟨Nat.zero_le _, hS⟩ ?_
  rintro i us w3 ⟨hi, hS⟩
  (conv => whnf)
  refine br_i (fun hb => ?_) (fun hb => ?_)
  · have hlt : i < bs.length := by simpa using hb
    have hR := hrow.rd hS
    have hstep : numF 0 (bs.take (i+1)) = numF 0 (bs.take i) * 256 + (bs[i].toNat : Int) := by
      unfold numF
      rw [List.take_succ_eq_append_getElem hlt, List.foldl_append]
      rfl
    repeat ((conv => whnf); first | (refine nw_f hS ?_; intro b w1 hS) | refine ld_f hS 0 rfl rfl ?_ | refine ldA_f hS 0 rfl rfl ?_ | ((first | refine stN_f hS 0 rfl (lb9 rfl) rfl rfl ?_ | refine stM_f hS 0 rfl (lb9 rfl) rfl ?_); (conv => whnf); intro w1 hS) | (refine .mk ⟨by omega, by omega⟩ ?_; refine ix_i rfl ?_) | refine ld_el encY_len hR.at (i := i) (k := 0) hlt (by omega) rfl (v := .int .u8 (bs[i].toNat : Int)) rfl ?_ | (refine .mk (by decide) ?_))
    have hbd := numF_bound (bs.take i) 0 (by decide)
    have hpow : (256 : Int) ^ (bs.take i).length ≤ 256 ^ 3 := by
      rw [List.length_take]
      have : min i bs.length ≤ 3 := by omega
      exact_mod_cast Nat.pow_le_pow_right (by decide) this
    have h24 : (256 : Int) ^ 3 = 16777216 := by decide
    refine ⟨rfl, i + 1, ?_, ⟨by omega, hS⟩, by omega⟩
    have hc := bs[i].toNat_lt
    have ev : bOr .u32 (bShl .u32 (numF 0 (bs.take i)) 8) (IntKind.u32.wrap (bs[i].toNat : Int)) = numF 0 (bs.take i) * 256 + (bs[i].toNat : Int) := by
      rw [wrap_u32 (by omega) (by omega)]
      exact orv hbd.1 (by omega) hc
    rw [wi hlt (by omega), hstep, ← ev]
    rfl
  · have hge : i = bs.length := by simp at hb; omega
    subst hge
    repeat ((conv => whnf); first | (refine nw_f hS ?_; intro b w1 hS) | refine ld_f hS 0 rfl rfl ?_ | refine ldA_f hS 0 rfl rfl ?_ | ((first | refine stN_f hS 0 rfl (lb9 rfl) rfl rfl ?_ | refine stM_f hS 0 rfl (lb9 rfl) rfl ?_); (conv => whnf); intro w1 hS))
    rw [List.take_length]
    exact ⟨rfl, by simpa using hS.fr (List.Sublist.refl _)⟩
end Go.RV


set_option maxRecDepth 20000
set_option linter.unusedVariables false
set_option linter.unusedSimpArgs false
namespace Go.RV
open Go Go.Proofs

theorem streq_strY (a b : List UInt8) : streq (strY a) (strY b) = decide (a = b) := by
  unfold streq
  rw [ByteArray.toList_eq, ByteArray.toList_eq]
  show ((⟨a.toArray⟩ : ByteArray).data.toList == (⟨b.toArray⟩ : ByteArray).data.toList) = _
  rw [Bool.eq_iff_iff]
  simp
theorem r8_c (b : Nat) (s : RS) (w : World) (hS : St [b] w w [(b, rdO s)]) :
    Fc Tryz.prog 81 [.pointer (some ⟨b, 0, none⟩)] w fun v w' => v = .int .u8 (IntKind.u8.wrap (numF 0 (fixedR s 1).1)) ∧ St [b] w w' [(b, rdO (fixedR s 1).2)] := by
  refine fc_i TB_ok Tryz.func81 rfl (by kernel_rfl) ?_
  have hS : Sf [b] w w ([(b, rdO s)] ++ []) [] := ⟨hS⟩
  repeat ((conv => whnf); first | (refine nw_f hS ?_; intro b w1 hS) | refine ld_f hS 0 rfl rfl ?_ | refine ldA_f hS 0 rfl rfl ?_ | ((first | refine stN_f hS 0 rfl (lb9 rfl) rfl rfl ?_ | refine stM_f hS 0 rfl (lb9 rfl) rfl ?_); (conv => whnf); intro w1 hS))
  refine fc_m (get8_c b s 1 (by decide) _ hS.ownF) ?_
  rintro v w1 ⟨rfl, hS'⟩
  replace hS := hS.callW hS'
  repeat ((conv => whnf); first | (refine nw_f hS ?_; intro b w1 hS) | refine ld_f hS 0 rfl rfl ?_ | refine ldA_f hS 0 rfl rfl ?_ | ((first | refine stN_f hS 0 rfl (lb9 rfl) rfl rfl ?_ | refine stM_f hS 0 rfl (lb9 rfl) rfl ?_); (conv => whnf); intro w1 hS))
  exact ⟨rfl, by simpa using hS.fr (List.Sublist.refl _)⟩
theorem r16_c (b : Nat) (s : RS) (w : World) (hS : St [b] w w [(b, rdO s)]) :
    Fc Tryz.prog 82 [.pointer (some ⟨b, 0, none⟩)] w fun v w' => v = .int .u16 (IntKind.u16.wrap (numF 0 (fixedR s 2).1)) ∧ St [b] w w' [(b, rdO (fixedR s 2).2)] := by
  refine fc_i TB_ok Tryz.func82 rfl (by kernel_rfl) ?_
  have hS : Sf [b] w w ([(b, rdO s)] ++ []) [] := ⟨hS⟩
  repeat ((conv => whnf); first | (refine nw_f hS ?_; intro b w1 hS) | refine ld_f hS 0 rfl rfl ?_ | refine ldA_f hS 0 rfl rfl ?_ | ((first | refine stN_f hS 0 rfl (lb9 rfl) rfl rfl ?_ | refine stM_f hS 0 rfl (lb9 rfl) rfl ?_); (conv => whnf); intro w1 hS))
  refine fc_m (get16_c b s 2 (by decide) _ hS.ownF) ?_
  rintro v w1 ⟨rfl, hS'⟩
  replace hS := hS.callW hS'
  repeat ((conv => whnf); first | (refine nw_f hS ?_; intro b w1 hS) | refine ld_f hS 0 rfl rfl ?_ | refine ldA_f hS 0 rfl rfl ?_ | ((first | refine stN_f hS 0 rfl (lb9 rfl) rfl rfl ?_ | refine stM_f hS 0 rfl (lb9 rfl) rfl ?_); (conv => whnf); intro w1 hS))
  exact ⟨rfl, by simpa using hS.fr (List.Sublist.refl _)⟩
theorem r32_c (b : Nat) (s : RS) (w : World) (hS : St [b] w w [(b, rdO s)]) :
    Fc Tryz.prog 83 [.pointer (some ⟨b, 0, none⟩)] w fun v w' => v = .int .u32 (numF 0 (fixedR s 4).1) ∧ St [b] w w' [(b, rdO (fixedR s 4).2)] := by
  refine fc_i TB_ok Tryz.func83 rfl (by kernel_rfl) ?_
  have hS : Sf [b] w w ([(b, rdO s)] ++ []) [] := ⟨hS⟩
  repeat ((conv => whnf); first | (refine nw_f hS ?_; intro b w1 hS) | refine ld_f hS 0 rfl rfl ?_ | refine ldA_f hS 0 rfl rfl ?_ | ((first | refine stN_f hS 0 rfl (lb9 rfl) rfl rfl ?_ | refine stM_f hS 0 rfl (lb9 rfl) rfl ?_); (conv => whnf); intro w1 hS))
  refine fc_m (get32_c b s 4 (by decide) _ hS.ownF) ?_
  rintro v w1 ⟨rfl, hS'⟩
  replace hS := hS.callW hS'
  repeat ((conv => whnf); first | (refine nw_f hS ?_; intro b w1 hS) | refine ld_f hS 0 rfl rfl ?_ | refine ldA_f hS 0 rfl rfl ?_ | ((first | refine stN_f hS 0 rfl (lb9 rfl) rfl rfl ?_ | refine stM_f hS 0 rfl (lb9 rfl) rfl ?_); (conv => whnf); intro w1 hS))
  exact ⟨rfl, by simpa using hS.fr (List.Sublist.refl _)⟩
end Go.RV


set_option maxRecDepth 20000
set_option linter.unusedVariables false
set_option linter.unusedSimpArgs false
namespace Go.RV
open Go Go.Proofs

/-- the document's reader: of this text, in this state -/
def qdO (S : List UInt8) (a : Nat) (e : Int) : Obj := .cells #[.string (strY S), .int .i64 a, .int .i64 e] 86 (0, 0)
structure QR (b : Nat) (S : List UInt8) (s : RS) (L : LM) : Prop where
  out : ∃ a : Nat, L = [(b, qdO S a s.e)] ∧ a ≤ S.length ∧ (s.e = 0 → s.rest = S.drop a) ∧ (s.e ≠ 0 → s.rest = [])
theorem qfixed_c (b : Nat) (S : List UInt8) (s : RS) (L : LM) (hQ : QR b S s L) (hs : S.length ≤ 4611686018427387904) (n : Int) (w : World) (hS : St (keys L) w w L) :
    Fc Tryz.prog 112 [.pointer (some ⟨b, 0, none⟩), .int .i64 n] w fun v w' => v = .string (strY (fixedR s n).1) ∧ ∃ L', QR b S (fixedR s n).2 L' ∧ St (keys L) w w' L' := by
  refine fc_i TB_ok Tryz.func112 rfl (by kernel_rfl) ?_
  obtain ⟨a, rfl, ha, hr0, hr1⟩ := hQ.out
  have hS : Sf (keys [(b, qdO S a s.e)]) w w [] [(b, .cells #[.string (strY S), .int .i64 a, .int .i64 s.e] 86 (0, 0))] := ⟨hS⟩
  have hsz := strY_size S
  have ed : IntKind.i64.wrap (((strY S).size : Int) - (a : Int)) = ((S.length - a : Nat) : Int) := by rw [hsz, wrap_i64 (by omega) (by omega)]; omega
  by_cases hc : s.e ≠ 0 ∨ n ≤ 0
  · rw [fixedR, if_pos hc]
    repeat' ((conv => whnf); first | (refine nw_f hS ?_; intro b w1 hS) | refine ld_f hS 0 rfl rfl ?_ | refine ldA_f hS 0 rfl rfl ?_ | ((first | refine stN_f hS 0 rfl (lb9 rfl) rfl rfl ?_ | refine stM_f hS 0 rfl (lb9 rfl) rfl ?_); (conv => whnf); intro w1 hS) | (refine br_i (fun _ => ?_) (fun _ => ?_)))
    all_goals first
      | exact ⟨rfl, _, hQ, hS.st⟩
      | (exfalso; simp at *; omega)
  · have he : s.e = 0 := by omega
    have hn : 0 < n := by omega
    have hrl : s.rest.length = S.length - a := by rw [hr0 he]; simp
    repeat ((conv => whnf); first | (refine nw_f hS ?_; intro b w1 hS) | refine ld_f hS 0 rfl rfl ?_ | refine ldA_f hS 0 rfl rfl ?_ | ((first | refine stN_f hS 0 rfl (lb9 rfl) rfl rfl ?_ | refine stM_f hS 0 rfl (lb9 rfl) rfl ?_); (conv => whnf); intro w1 hS))
    refine br_f (by simp [he]) ?_
    repeat ((conv => whnf); first | (refine nw_f hS ?_; intro b w1 hS) | refine ld_f hS 0 rfl rfl ?_ | refine ldA_f hS 0 rfl rfl ?_ | ((first | refine stN_f hS 0 rfl (lb9 rfl) rfl rfl ?_ | refine stM_f hS 0 rfl (lb9 rfl) rfl ?_); (conv => whnf); intro w1 hS))
    refine br_f (by simpa using hn) ?_
    repeat ((conv => whnf); first | (apply q_i; focus (intro w1 hS; (conv => whnf); first | exact ⟨rfl, rfl⟩ | ((first | refine ld_f hS 0 rfl rfl ?_ | refine ldA_f hS 0 rfl rfl ?_); (conv => whnf); exact ⟨rfl, rfl⟩))) | (refine nw_f hS ?_; intro b w1 hS) | refine as_i hS ?_ | refine as_i (hS.subs (List.nil_sublist _) sb9) ?_ | refine as_i (hS.subs (List.Sublist.refl _) sb9) ?_ | refine bar_f hS ?_ | refine ld_f hS 0 rfl rfl ?_ | refine ldA_f hS 0 rfl rfl ?_ | ((first | refine stN_f hS 0 rfl (lb9 rfl) rfl rfl ?_ | refine stM_f hS 0 rfl (lb9 rfl) rfl ?_); (conv => whnf); intro w1 hS) | (refine dr9 hS ?_; intro w1 hS) | refine br_t (by assumption) ?_ | refine br_f (by assumption) ?_)
    refine br_i (fun h2 => ?_) (fun h2 => ?_)
    · have h2' : (s.rest.length : Int) < n := by have := of_decide_eq_true h2; omega
      rw [fixedR, if_neg hc, if_pos h2']
      repeat ((conv => whnf); first | (apply q_i; focus (intro w1 hS; (conv => whnf); first | exact ⟨rfl, rfl⟩ | ((first | refine ld_f hS 0 rfl rfl ?_ | refine ldA_f hS 0 rfl rfl ?_); (conv => whnf); exact ⟨rfl, rfl⟩))) | (refine nw_f hS ?_; intro b w1 hS) | refine as_i hS ?_ | refine as_i (hS.subs (List.nil_sublist _) sb9) ?_ | refine as_i (hS.subs (List.Sublist.refl _) sb9) ?_ | refine bar_f hS ?_ | refine ld_f hS 0 rfl rfl ?_ | refine ldA_f hS 0 rfl rfl ?_ | ((first | refine stN_f hS 0 rfl (lb9 rfl) rfl rfl ?_ | refine stM_f hS 0 rfl (lb9 rfl) rfl ?_); (conv => whnf); intro w1 hS) | (refine dr9 hS ?_; intro w1 hS) | refine br_t (by assumption) ?_ | refine br_f (by assumption) ?_)
      exact ⟨rfl, _, ⟨a, rfl, ha, fun h => absurd h (by decide), fun _ => rfl⟩, hS.st⟩
    · have h2' : ¬ (s.rest.length : Int) < n := by have := of_decide_eq_false h2; omega
      rw [fixedR, if_neg hc, if_neg h2']
      have ea : IntKind.i64.wrap ((a : Int) + n) = ((a + n.toNat : Nat) : Int) := by rw [wrap_i64 (by omega) (by omega)]; omega
      have eb : IntKind.i64.wrap (IntKind.i64.wrap ((a : Int) + n) - n) = (a : Int) := by rw [ea, wrap_i64 (by omega) (by omega)]; omega
      have e3 : (strY S).extract (IntKind.i64.wrap (IntKind.i64.wrap ((a : Int) + n) - n)).toNat (IntKind.i64.wrap ((a : Int) + n)).toNat = strY (s.rest.take n.toNat) := by
        rw [eb, ea, strY_extract, hr0 he, List.drop_take]
        simp only [Int.toNat_natCast]
        rw [show a + n.toNat - a = n.toNat from by omega]
      repeat ((conv => whnf); first | (apply q_i; focus (intro w1 hS; (conv => whnf); first | exact ⟨rfl, rfl⟩ | ((first | refine ld_f hS 0 rfl rfl ?_ | refine ldA_f hS 0 rfl rfl ?_); (conv => whnf); exact ⟨rfl, rfl⟩) | ((refine .mk ⟨by rw [ea]; omega, by rw [ea]; omega⟩ ?_; (conv => whnf); refine .mk ⟨by rw [eb]; omega, by rw [eb, ea]; omega⟩ ?_); (conv => whnf); exact ⟨rfl, rfl⟩))) | (refine nw_f hS ?_; intro b w1 hS) | refine as_i hS ?_ | refine as_i (hS.subs (List.nil_sublist _) sb9) ?_ | refine as_i (hS.subs (List.Sublist.refl _) sb9) ?_ | refine bar_f hS ?_ | refine ld_f hS 0 rfl rfl ?_ | refine ldA_f hS 0 rfl rfl ?_ | ((first | refine stN_f hS 0 rfl (lb9 rfl) rfl rfl ?_ | refine stM_f hS 0 rfl (lb9 rfl) rfl ?_); (conv => whnf); intro w1 hS) | (refine .mk ⟨by rw [ea]; omega, by rw [ea]; omega⟩ ?_; (conv => whnf); refine .mk ⟨by rw [eb]; omega, by rw [eb, ea]; omega⟩ ?_) | (refine dr9 hS ?_; intro w1 hS) | refine br_t (by assumption) ?_ | refine br_f (by assumption) ?_)
      refine ⟨congrArg Value.string e3, _, ⟨a + n.toNat, by rw [ea]; rfl, by omega, fun _ => by rw [hr0 he, List.drop_drop], fun h => absurd he h⟩, hS.st⟩

theorem byteAt_strY {l : List UInt8} {i : Nat} (h : i < l.length) : byteAt (strY l) i = (l[i].toNat : Int) := by
  unfold byteAt strY
  simp [h]
theorem qnumber_c (b : Nat) (S : List UInt8) (s : RS) (L : LM) (hQ : QR b S s L) (hs : S.length ≤ 4611686018427387904) (W : Nat) (hW : W ≤ 4) (w : World) (hS : St (keys L) w w L) :
    Fc Tryz.prog 114 [.pointer (some ⟨b, 0, none⟩), .int .i64 W] w fun v w' => v = .int .u32 (numF 0 (fixedR s W).1) ∧ ∃ L', QR b S (fixedR s W).2 L' ∧ St (keys L) w w' L' := by
  refine fc_i TB_ok Tryz.func114 rfl (by kernel_rfl) ?_
  have hS : Sf (keys L) w w (L ++ []) [] := ⟨by simpa using hS⟩
  repeat ((conv => whnf); first | (refine nw_f hS ?_; intro b w1 hS) | refine ld_f hS 0 rfl rfl ?_ | refine ldA_f hS 0 rfl rfl ?_ | ((first | refine stN_f hS 0 rfl (lb9 rfl) rfl rfl ?_ | refine stM_f hS 0 rfl (lb9 rfl) rfl ?_); (conv => whnf); intro w1 hS))
  refine fc_m (qfixed_c b S s L hQ hs W _ hS.ownF) ?_
  rintro v w1 ⟨rfl, L1, hQ1, hS'⟩
  replace hS := hS.callW hS'
  have hl := fixedR_len s W
  generalize (fixedR s W).1 = bs at *
  generalize (fixedR s W).2 = s2 at *
  have hsz : (strY bs).size = bs.length := strY_size bs
  repeat ((conv => whnf); first | (refine nw_f hS ?_; intro b w1 hS) | refine ld_f hS 0 rfl rfl ?_ | refine ldA_f hS 0 rfl rfl ?_ | ((first | refine stN_f hS 0 rfl (lb9 rfl) rfl rfl ?_ | refine stM_f hS 0 rfl (lb9 rfl) rfl ?_); (conv => whnf); intro w1 hS))
  refine loop_i TB_ok (fun i : Nat => [(7, .int .i64 i), (6, .int .u32 (numF 0 (bs.take i)))]) (fun i w' => i ≤ bs.length ∧ Sf (keys L) w w' (L1 ++ []) []) (fun i => bs.length - i) 0 rfl ⟨Nat.zero_le _, hS⟩ ?_
  rintro i us w3 ⟨hi, hS⟩
  (conv => whnf)
  refine br_i (fun hb => ?_) (fun hb => ?_)
  · have hlt : i < bs.length := by have := of_decide_eq_true hb; omega
    have hstep : numF 0 (bs.take (i+1)) = numF 0 (bs.take i) * 256 + (bs[i].toNat : Int) := by
      unfold numF
      rw [List.take_succ_eq_append_getElem hlt, List.foldl_append]
      rfl
    have hbd := numF_bound (bs.take i) 0 (by decide)
    have hpow : (256 : Int) ^ (bs.take i).length ≤ 256 ^ 3 := by
      rw [List.length_take]
      have : min i bs.length ≤ 3 := by omega
      exact_mod_cast Nat.pow_le_pow_right (by decide) this
    have h24 : (256 : Int) ^ 3 = 16777216 := by decide
    have hc := bs[i].toNat_lt
    repeat ((conv => whnf); first | (refine nw_f hS ?_; intro b w1 hS) | refine ld_f hS 0 rfl rfl ?_ | refine ldA_f hS 0 rfl rfl ?_ | ((first | refine stN_f hS 0 rfl (lb9 rfl) rfl rfl ?_ | refine stM_f hS 0 rfl (lb9 rfl) rfl ?_); (conv => whnf); intro w1 hS) | (refine .mk ⟨by omega, by omega⟩ ?_))
    have eB : byteAt (strY bs) (i : Int).toNat = (bs[i].toNat : Int) := byteAt_strY hlt
    refine ⟨rfl, i + 1, ?_, ⟨by omega, hS⟩, by omega⟩
    rw [wi hlt (by omega), hstep, eB, wrap_u32 (x := 256 * numF 0 (bs.take i)) (by omega) (by omega), wrap_u32 (x := (bs[i].toNat : Int)) (by omega) (by omega), wrap_u32 (by omega) (by omega), Int.mul_comm]
    rfl
  · have hge : i = bs.length := by have := of_decide_eq_false hb; omega
    subst hge
    repeat ((conv => whnf); first | (refine nw_f hS ?_; intro b w1 hS) | refine ld_f hS 0 rfl rfl ?_ | refine ldA_f hS 0 rfl rfl ?_ | ((first | refine stN_f hS 0 rfl (lb9 rfl) rfl rfl ?_ | refine stM_f hS 0 rfl (lb9 rfl) rfl ?_); (conv => whnf); intro w1 hS))
    rw [List.take_length]
    exact ⟨rfl, _, hQ1, by simpa using hS.fr (List.Sublist.refl _)⟩
end Go.RV


set_option maxRecDepth 20000
set_option linter.unusedVariables false
set_option linter.unusedSimpArgs false
namespace Go.RV
open Go Go.Proofs

theorem fixedR_err {s : RS} (h : s.e ≠ 0) (n : Int) : fixedR s n = ([], s) := by rw [fixedR, if_pos (.inl h)]
end Go.RV


set_option maxRecDepth 20000
set_option linter.unusedVariables false
set_option linter.unusedSimpArgs false
namespace Go.RV
open Go Go.Proofs

theorem Wr.new (b : Nat) : Wr b [] [(b, .cells #[.slice none 0 0] 98 (0, 0))] := ⟨_, [], rfl, .nil⟩
end Go.RV

set_option maxRecDepth 20000
set_option linter.unusedVariables false
set_option linter.unusedSimpArgs false
namespace Go.RV
open Go Go.Proofs

section
variable {M : List Nat} {w0 w w' : World} {A B C D R L : LM}
end
theorem bytesE {bw : Nat} {bs : List UInt8} {L : LM} (hW : Wr bw bs L) {w : World} (hS : St (keys L) w w L) :
    Fc Tryz.prog 36 [.pointer (some ⟨bw, 0, none⟩)] w fun v w' => ∃ s, v = .string s ∧ s = strY bs ∧ St [] w w' [] :=
  Fc.mono (bytes_c bw bs L hW w hS) fun v w' h => ⟨_, h.1, rfl, h.2⟩

end Go.RV


set_option maxRecDepth 20000
set_option linter.unusedVariables false
set_option linter.unusedSimpArgs false
namespace Go.RV
open Go Go.Proofs

theorem qrest_c (b : Nat) (S : List UInt8) (s : RS) (L : LM) (hQ : QR b S s L) (w : World) (hS : St (keys L) w w L) :
    Fc Tryz.prog 33 [.pointer (some ⟨b, 0, none⟩)] w fun v w' => v = .string (strY s.rest) ∧ St [] w w' [] := by
  refine fc_i TB_ok Tryz.func33 rfl (by kernel_rfl) ?_
  obtain ⟨a, rfl, ha, hr0, hr1⟩ := hQ.out
  have hH : Holds w [(b, .cells #[.string (strY S), .int .i64 a, .int .i64 s.e] 86 (0, 0))] := fun x hx => hS.own x.1 x.2 hx
  replace hS := Sf.refl w
  have hsz := strY_size S
  repeat ((conv => whnf); first | (refine nw_f hS ?_; intro b w1 hS) | (refine ld_h hS.nil hH 0 rfl rfl ?_))
  refine br_i (fun h0 => ?_) (fun h0 => ?_)
  · have he : s.e ≠ 0 := by simpa using h0
    repeat ((conv => whnf); first | (apply q_i; focus (intro w1 hS; (conv => whnf); first | exact ⟨rfl, rfl⟩)) | (refine nw_f hS ?_; intro b w1 hS) | refine as_i hS ?_ | refine as_i (hS.subs (List.nil_sublist _) sb9) ?_ | refine as_i (hS.subs (List.Sublist.refl _) sb9) ?_ | refine bar_f hS ?_ | (refine dr9 hS ?_; intro w1 hS) | refine br_t (by assumption) ?_ | refine br_f (by assumption) ?_)
    exact ⟨by rw [hr1 he]; rfl, hS.nil⟩
  · have he : s.e = 0 := by simpa using h0
    repeat ((conv => whnf); first | (apply q_i; focus (intro w1 hS; (conv => whnf); first | exact ⟨rfl, rfl⟩ | ((refine ld_h hS.nil hH 0 rfl rfl ?_); (conv => whnf); exact ⟨rfl, rfl⟩) | ((refine .mk ⟨by omega, by omega⟩ ?_); (conv => whnf); exact ⟨rfl, rfl⟩))) | (refine nw_f hS ?_; intro b w1 hS) | refine as_i hS ?_ | refine as_i (hS.subs (List.nil_sublist _) sb9) ?_ | refine as_i (hS.subs (List.Sublist.refl _) sb9) ?_ | refine bar_f hS ?_ | refine ld_h hS.nil hH 0 rfl rfl ?_ | refine .mk ⟨by omega, by omega⟩ ?_ | (refine dr9 hS ?_; intro w1 hS) | refine br_t (by assumption) ?_ | refine br_f (by assumption) ?_)
    refine ⟨congrArg Value.string ?_, hS.nil⟩
    have e : (strY S).extract a (strY S).size = strY (S.drop a) := by rw [strY_extract, hsz, List.take_length]
    rw [hr0 he, ← e]
    rfl
theorem numF_lt (s : RS) (W : Nat) : 0 ≤ numF 0 (fixedR s W).1 ∧ numF 0 (fixedR s W).1 < 256 ^ W := by
  have h := numF_bound (fixedR s W).1 0 (by decide)
  have hl := fixedR_len s W
  refine ⟨h.1, Int.lt_of_lt_of_le h.2 ?_⟩
  rw [Int.zero_add, Int.one_mul]
  exact_mod_cast Nat.pow_le_pow_right (by decide) hl
end Go.RV


set_option linter.unusedVariables false
set_option linter.unusedSimpArgs false
namespace Go.RV
open Go Go.Proofs

theorem fixedR_all {l rest : List UInt8} {n : Int} (hn : n = l.length) : fixedR ⟨l ++ rest, 0⟩ n = (l, ⟨rest, 0⟩) := by
  subst hn
  cases l with
  | nil => rw [fixedR, if_pos (.inr (by simp))]; rfl
  | cons c l =>
    rw [fixedR, if_neg (by simp), if_neg (by simp; omega)]
    simp
theorem numF_be1 {n : Int} (h : 0 ≤ n) : numF 0 (be n 1) = n % 256 := by
  simp only [be, numF, List.foldl_cons, List.foldl_nil, yI_val, Nat.mul_zero, Int.pow_zero, Int.ediv_one]
  omega
theorem numF_be2 {n : Int} (h : 0 ≤ n) : numF 0 (be n 2) = n % 65536 := by
  simp only [be, numF, List.foldl_cons, List.foldl_nil, yI_val, Nat.mul_zero, Int.pow_zero, Int.ediv_one, show (2 : Int) ^ (8 * 1) = 256 from by decide]
  omega
theorem numF_be4 {n : Int} (h : 0 ≤ n) (h1 : n ≤ 4294967295) : numF 0 (be n 4) = n := by
  simp only [be, numF, List.foldl_cons, List.foldl_nil, yI_val, Nat.mul_zero, Int.pow_zero, Int.ediv_one, show (2 : Int) ^ (8 * 1) = 256 from by decide, show (2 : Int) ^ (8 * 2) = 65536 from by decide, show (2 : Int) ^ (8 * 3) = 16777216 from by decide]
  omega
end Go.RV

set_option maxRecDepth 20000
set_option linter.unusedVariables false
set_option linter.unusedSimpArgs false
namespace Go.RV
open Go Go.Proofs

def encT (l : List UInt8) : List Value := [.string (strY l)]
theorem encT_len (l : List UInt8) : (encT l).length = 1 := rfl
def countI (n : Int) : Int := if n ≤ 0 then 0 else (n - 1) / 64 + 1
theorem count_c (n : Int) (hn : n ≤ 9223372036854775807) (w : World) : Fc Tryz.prog 124 [.int .i64 n] w fun v w' => v = .int .i64 (countI n) ∧ St [] w w' [] := by
  refine fc_i TB_ok Tryz.func124 rfl (by kernel_rfl) ?_
  have hS := Sf.refl w
  repeat ((conv => whnf); first | (apply q_i; focus (intro w1 hS; (conv => whnf); first | exact ⟨rfl, rfl⟩)) | (refine nw_f hS ?_; intro b w1 hS) | refine as_i hS ?_ | refine as_i (hS.subs (List.nil_sublist _) sb9) ?_ | refine as_i (hS.subs (List.Sublist.refl _) sb9) ?_ | refine bar_f hS ?_ | (refine dr9 hS ?_; intro w1 hS) | refine br_t (by assumption) ?_ | refine br_f (by assumption) ?_)
  refine br_i (fun h => ?_) (fun h => ?_)
  · have h0 : n ≤ 0 := of_decide_eq_true h
    repeat ((conv => whnf); first | (apply q_i; focus (intro w1 hS; (conv => whnf); first | exact ⟨rfl, rfl⟩)) | (refine nw_f hS ?_; intro b w1 hS) | refine as_i hS ?_ | refine as_i (hS.subs (List.nil_sublist _) sb9) ?_ | refine as_i (hS.subs (List.Sublist.refl _) sb9) ?_ | refine bar_f hS ?_ | (refine dr9 hS ?_; intro w1 hS) | refine br_t (by assumption) ?_ | refine br_f (by assumption) ?_)
    exact ⟨by rw [countI, if_pos h0], hS.nil⟩
  · have h0 : ¬ n ≤ 0 := of_decide_eq_false h
    repeat ((conv => whnf); first | (apply q_i; focus (intro w1 hS; (conv => whnf); first | exact ⟨rfl, rfl⟩ | ((refine .mk (by decide) ?_); (conv => whnf); exact ⟨rfl, rfl⟩))) | (refine nw_f hS ?_; intro b w1 hS) | refine as_i hS ?_ | refine as_i (hS.subs (List.nil_sublist _) sb9) ?_ | refine as_i (hS.subs (List.Sublist.refl _) sb9) ?_ | refine bar_f hS ?_ | refine .mk (by decide) ?_ | (refine dr9 hS ?_; intro w1 hS) | refine br_t (by assumption) ?_ | refine br_f (by assumption) ?_)
    refine ⟨?_, hS.nil⟩
    have e1 : IntKind.i64.wrap (n - 1) = n - 1 := wrap_i64 (by omega) (by omega)
    rw [e1, Int.tdiv_eq_ediv_of_nonneg (by omega), wrap_i64 (x := (n - 1) / 64) (by omega) (by omega), wrap_i64 (by omega) (by omega), countI, if_neg h0]
theorem rcount_c (n : Int) (hn0 : -9223372036854775808 ≤ n) (hn : n ≤ 9223372036854775807) (w : World) : Fc Tryz.prog 80 [.int .i64 n] w fun v w' => v = .int .i64 (countI n) ∧ St [] w w' [] := by
  refine fc_i TB_ok Tryz.func80 rfl (by kernel_rfl) ?_
  have hS := Sf.refl w
  repeat ((conv => whnf); first | (apply q_i; focus (intro w1 hS; (conv => whnf); first | exact ⟨rfl, rfl⟩ | ((refine .mk (by decide) ?_); (conv => whnf); exact ⟨rfl, rfl⟩))) | (refine nw_f hS ?_; intro b w1 hS) | refine as_i hS ?_ | refine as_i (hS.subs (List.nil_sublist _) sb9) ?_ | refine as_i (hS.subs (List.Sublist.refl _) sb9) ?_ | refine bar_f hS ?_ | refine .mk (by decide) ?_ | (refine dr9 hS ?_; intro w1 hS) | refine br_t (by assumption) ?_ | refine br_f (by assumption) ?_)
  refine br_i (fun h => ?_) (fun h => ?_)
  · have h0 : n < 0 := of_decide_eq_true h
    repeat ((conv => whnf); first | (apply q_i; focus (intro w1 hS; (conv => whnf); first | exact ⟨rfl, rfl⟩)) | (refine nw_f hS ?_; intro b w1 hS) | refine as_i hS ?_ | refine as_i (hS.subs (List.nil_sublist _) sb9) ?_ | refine as_i (hS.subs (List.Sublist.refl _) sb9) ?_ | refine bar_f hS ?_ | (refine dr9 hS ?_; intro w1 hS) | refine br_t (by assumption) ?_ | refine br_f (by assumption) ?_)
    exact ⟨by rw [countI, if_pos (by omega)], hS.nil⟩
  · have h0 : ¬ n < 0 := of_decide_eq_false h
    have e1 : IntKind.i64.wrap (n.tdiv 64) = n / 64 := by rw [Int.tdiv_eq_ediv_of_nonneg (by omega), wrap_i64 (by omega) (by omega)]
    have e2 : IntKind.i64.wrap (IntKind.i64.wrap (n.tdiv 64) * 64) = n / 64 * 64 := by rw [e1, wrap_i64 (by omega) (by omega)]
    repeat ((conv => whnf); first | (apply q_i; focus (intro w1 hS; (conv => whnf); first | exact ⟨rfl, rfl⟩)) | (refine nw_f hS ?_; intro b w1 hS) | refine as_i hS ?_ | refine as_i (hS.subs (List.nil_sublist _) sb9) ?_ | refine as_i (hS.subs (List.Sublist.refl _) sb9) ?_ | refine bar_f hS ?_ | (refine dr9 hS ?_; intro w1 hS) | refine br_t (by assumption) ?_ | refine br_f (by assumption) ?_)
    refine br_i (fun h1 => ?_) (fun h1 => ?_)
    · have h1' := of_decide_eq_true h1
      rw [e2] at h1'
      repeat ((conv => whnf); first | (apply q_i; focus (intro w1 hS; (conv => whnf); first | exact ⟨rfl, rfl⟩)) | (refine nw_f hS ?_; intro b w1 hS) | refine as_i hS ?_ | refine as_i (hS.subs (List.nil_sublist _) sb9) ?_ | refine as_i (hS.subs (List.Sublist.refl _) sb9) ?_ | refine bar_f hS ?_ | (refine dr9 hS ?_; intro w1 hS) | refine br_t (by assumption) ?_ | refine br_f (by assumption) ?_)
      refine ⟨?_, hS.nil⟩
      rw [e1, wrap_i64 (by omega) (by omega), countI]
      split
      · omega
      · congr 1
        omega
    · have h1' := of_decide_eq_false h1
      rw [e2] at h1'
      repeat ((conv => whnf); first | (apply q_i; focus (intro w1 hS; (conv => whnf); first | exact ⟨rfl, rfl⟩)) | (refine nw_f hS ?_; intro b w1 hS) | refine as_i hS ?_ | refine as_i (hS.subs (List.nil_sublist _) sb9) ?_ | refine as_i (hS.subs (List.Sublist.refl _) sb9) ?_ | refine bar_f hS ?_ | (refine dr9 hS ?_; intro w1 hS) | refine br_t (by assumption) ?_ | refine br_f (by assumption) ?_)
      refine ⟨?_, hS.nil⟩
      rw [e1, countI]
      split
      · congr 1; omega
      · congr 1
        omega

end Go.RV


set_option maxRecDepth 20000
set_option linter.unusedVariables false
set_option linter.unusedSimpArgs false
namespace Go.RV
open Go Go.Proofs

def encU (x : Int) : List Value := [.int .u32 x]
theorem encU_len (x : Int) : (encU x).length = 1 := rfl
def valV (d : Bool) (n : Int) (A : Option Addr) (l c : Nat) : Value := .agg #[.bool d, .int .i64 n, .slice A l c]
def isz (x : Int) : Bool := x == 0
theorem index0_c (A : Option Addr) (c : Nat) (xs : List Int) (w : World) (hR : Rd w A (flat encU xs)) (hn : xs.length ≤ 4611686018427387904) :
    Fc Tryz.prog 135 [.slice A xs.length c, .int .u32 0] w fun v w' => (∃ i : Int, v = .int .i64 i ∧ (decide (0 ≤ i) = xs.any isz)) ∧ St [] w w' [] := by
  refine fc_i TB_ok Tryz.func135 rfl (by kernel_rfl) ?_
  have hS := Sf.refl w
  repeat ((conv => whnf); first | (refine nw_f hS ?_; intro b w1 hS))
  refine loop_i TB_ok (fun i : Nat => [(8, .int .i64 i)]) (fun i w' => i ≤ xs.length ∧ (xs.take i).any isz = false ∧ Sf [] w w' [] []) (fun i => xs.length - i) 0 rfl ⟨Nat.zero_le _, by simp, hS⟩ ?_
  rintro i us w2 ⟨hi, hno, hS⟩
  (conv => whnf)
  refine br_i (fun hb => ?_) (fun hb => ?_)
  · have hlt : i < xs.length := by have := of_decide_eq_true hb; omega
    have hRw := hR.below hS.nil
    obtain ⟨b, off, rfl⟩ := hR.form (flat_ne encU_len (by omega) hlt)
    repeat ((conv => whnf); first | (apply q_i; focus (intro w1 hS; (conv => whnf); first | exact ⟨rfl, rfl⟩ | ((refine .mk ⟨by omega, by omega⟩ ?_; refine ix_i rfl ?_); (conv => whnf); exact ⟨rfl, rfl⟩) | ((refine ld_el encU_len hRw.at (i := i) (k := 0) hlt (by omega) rfl (v := .int .u32 xs[i]) rfl ?_); (conv => whnf); exact ⟨rfl, rfl⟩))) | (refine nw_f hS ?_; intro b w1 hS) | refine as_i hS ?_ | refine as_i (hS.subs (List.nil_sublist _) sb9) ?_ | refine as_i (hS.subs (List.Sublist.refl _) sb9) ?_ | refine bar_f hS ?_ | (refine .mk ⟨by omega, by omega⟩ ?_; refine ix_i rfl ?_) | refine ld_el encU_len hRw.at (i := i) (k := 0) hlt (by omega) rfl (v := .int .u32 xs[i]) rfl ?_ | (refine dr9 hS ?_; intro w1 hS) | refine br_t (by assumption) ?_ | refine br_f (by assumption) ?_)
    refine br_i (fun h1 => ?_) (fun h1 => ?_)
    · repeat ((conv => whnf); first | (apply q_i; focus (intro w1 hS; (conv => whnf); first | exact ⟨rfl, rfl⟩)) | (refine nw_f hS ?_; intro b w1 hS) | refine as_i hS ?_ | refine as_i (hS.subs (List.nil_sublist _) sb9) ?_ | refine as_i (hS.subs (List.Sublist.refl _) sb9) ?_ | refine bar_f hS ?_ | (refine dr9 hS ?_; intro w1 hS) | refine br_t (by assumption) ?_ | refine br_f (by assumption) ?_)
      refine ⟨⟨(i : Int), rfl, ?_⟩, hS.nil⟩
      have hz : xs.any isz = true := List.any_eq_true.2 ⟨xs[i], List.getElem_mem hlt, by
        have h2 : (0 == xs[i]) = true := h1
        have : (0 : Int) = xs[i] := by simpa using h2
        unfold isz; simp [← this]⟩
      rw [hz]
      exact decide_eq_true (by omega)
    · repeat ((conv => whnf); first | (apply q_i; focus (intro w1 hS; (conv => whnf); first | exact ⟨rfl, rfl⟩)) | (refine nw_f hS ?_; intro b w1 hS) | refine as_i hS ?_ | refine as_i (hS.subs (List.nil_sublist _) sb9) ?_ | refine as_i (hS.subs (List.Sublist.refl _) sb9) ?_ | refine bar_f hS ?_ | (refine dr9 hS ?_; intro w1 hS) | refine br_t (by assumption) ?_ | refine br_f (by assumption) ?_)
      refine ⟨rfl, i + 1, ?_, ⟨by omega, ?_, hS⟩, by omega⟩
      · rw [wi hlt (by omega)]
        rfl
      · rw [List.take_succ_eq_append_getElem hlt, List.any_append, hno]
        have h2 : (0 == xs[i]) = false := h1
        have : ¬ (0 : Int) = xs[i] := by simpa using h2
        simp [isz]
        omega
  · have hge : i = xs.length := by have := of_decide_eq_false hb; omega
    rw [hge, List.take_length] at hno
    repeat ((conv => whnf); first | (apply q_i; focus (intro w1 hS; (conv => whnf); first | exact ⟨rfl, rfl⟩)) | (refine nw_f hS ?_; intro b w1 hS) | refine as_i hS ?_ | refine as_i (hS.subs (List.nil_sublist _) sb9) ?_ | refine as_i (hS.subs (List.Sublist.refl _) sb9) ?_ | refine bar_f hS ?_ | (refine dr9 hS ?_; intro w1 hS) | refine br_t (by assumption) ?_ | refine br_f (by assumption) ?_)
    refine ⟨⟨-1, rfl, by rw [hno]; rfl⟩, hS.nil⟩
theorem contains0_c (A : Option Addr) (c : Nat) (xs : List Int) (w : World) (hR : Rd w A (flat encU xs)) (hn : xs.length ≤ 4611686018427387904) :
    Fc Tryz.prog 125 [.slice A xs.length c, .int .u32 0] w fun v w' => v = .bool (xs.any isz) ∧ St [] w w' [] := by
  refine fc_i TB_ok Tryz.func125 rfl (by kernel_rfl) ?_
  have hS := Sf.refl w
  repeat ((conv => whnf); first | (apply q_i; focus (intro w1 hS; (conv => whnf); first | exact ⟨rfl, rfl⟩)) | (refine nw_f hS ?_; intro b w1 hS) | refine as_i hS ?_ | refine as_i (hS.subs (List.nil_sublist _) sb9) ?_ | refine as_i (hS.subs (List.Sublist.refl _) sb9) ?_ | refine bar_f hS ?_ | (refine dr9 hS ?_; intro w1 hS) | refine br_t (by assumption) ?_ | refine br_f (by assumption) ?_)
  refine fc_m (index0_c A c xs _ hR hn) ?_
  rintro v w1 ⟨⟨i, rfl, hi⟩, hS'⟩
  replace hS := hS.call0 hS'
  repeat ((conv => whnf); first | (apply q_i; focus (intro w1 hS; (conv => whnf); first | exact ⟨rfl, rfl⟩)) | (refine nw_f hS ?_; intro b w1 hS) | refine as_i hS ?_ | refine as_i (hS.subs (List.nil_sublist _) sb9) ?_ | refine as_i (hS.subs (List.Sublist.refl _) sb9) ?_ | refine bar_f hS ?_ | (refine dr9 hS ?_; intro w1 hS) | refine br_t (by assumption) ?_ | refine br_f (by assumption) ?_)
  exact ⟨congrArg Value.bool hi, hS.nil⟩

/-- may a value be -/
def okVB (d : Bool) (n : Int) (xs : List Int) : Bool := !(d && (n != 0 || decide (0 < (xs.length : Int)))) && (!(decide (n < 0) || decide (256 < n)) && (!((xs.length : Int) != countI n) && !xs.any isz))
theorem check_c (d : Bool) (n : Int) (hn : n ≤ 9223372036854775807) (A : Option Addr) (c : Nat) (xs : List Int) (w : World) (hR : Rd w A (flat encU xs)) (hl : xs.length ≤ 4611686018427387904) :
    Fc Tryz.prog 103 [valV d n A xs.length c] w fun v w' => v = .int .i64 (if okVB d n xs then 0 else 4) ∧ St [] w w' [] := by
  refine fc_i TB_ok Tryz.func103 rfl (by kernel_rfl) ?_
  have hS := Sf.refl w
  generalize hq : countI n = q
  have hc : ∀ w, Fc Tryz.prog 124 [.int .i64 n] w fun v w' => v = .int .i64 q ∧ St [] w w' [] := fun w => by rw [← hq]; exact count_c n hn w
  repeat' ((conv => whnf); first | refine And.intro ?_ ?_ | (apply q_i; focus (intro w1 hS; (conv => whnf); first | exact ⟨rfl, rfl⟩ | ((first | refine ld_f hS 0 rfl rfl ?_ | refine ldA_f hS 0 rfl rfl ?_); (conv => whnf); exact ⟨rfl, rfl⟩) | ((refine br_i (fun _ => ?_) (fun _ => ?_)); (conv => whnf); exact ⟨rfl, rfl⟩))) | (refine nw_f hS ?_; intro b w1 hS) | refine as_i hS ?_ | refine as_i (hS.subs (List.nil_sublist _) sb9) ?_ | refine as_i (hS.subs (List.Sublist.refl _) sb9) ?_ | refine bar_f hS ?_ | refine ld_f hS 0 rfl rfl ?_ | refine ldA_f hS 0 rfl rfl ?_ | ((first | refine stN_f hS 0 rfl (lb9 rfl) rfl rfl ?_ | refine stM_f hS 0 rfl (lb9 rfl) rfl ?_); (conv => whnf); intro w1 hS) | (refine fc_m (hc _) ?_; rintro v w3 ⟨rfl, hS'⟩; replace hS := hS.call0 hS') | (refine fc_m (contains0_c A c xs _ (hR.below hS.nil) hl) ?_; rintro v w3 ⟨rfl, hS'⟩; replace hS := hS.call0 hS') | (refine br_i (fun _ => ?_) (fun _ => ?_)) | (refine dr9 hS ?_; intro w1 hS) | refine br_t (by assumption) ?_ | refine br_f (by assumption) ?_)
  all_goals first
    | exact hS.nil
    | (simp only [okVB, *]; rfl)

theorem rmay_v (d : Bool) (n : Int) (hn0 : -9223372036854775808 ≤ n) (hn : n ≤ 9223372036854775807) (A : Option Addr) (c : Nat) (xs : List Int) (w : World) (hR : Rd w A (flat encU xs)) (hl : xs.length ≤ 4611686018427387904) :
    Fc Tryz.prog 44 [valV d n A xs.length c] w fun v w' => v = .bool (okVB d n xs) ∧ St [] w w' [] := by
  refine fc_i TB_ok Tryz.func44 rfl (by kernel_rfl) ?_
  have hS := Sf.refl w
  generalize hq : countI n = q
  have hc : ∀ w, Fc Tryz.prog 80 [.int .i64 n] w fun v w' => v = .int .i64 q ∧ St [] w w' [] := fun w => by rw [← hq]; exact rcount_c n hn0 hn w
  cases d with
  | true =>
    have hz : n = 0 → q = 0 := by rintro rfl; rw [← hq]; rfl
    repeat' ((conv => whnf); first | refine And.intro ?_ ?_ | (apply q_i; focus (intro w1 hS; (conv => whnf); first | exact ⟨rfl, rfl⟩ | ((first | refine ld_f hS 0 rfl rfl ?_ | refine ldA_f hS 0 rfl rfl ?_); (conv => whnf); exact ⟨rfl, rfl⟩) | ((refine br_i (fun _ => ?_) (fun _ => ?_)); (conv => whnf); exact ⟨rfl, rfl⟩))) | (refine nw_f hS ?_; intro b w1 hS) | refine as_i hS ?_ | refine as_i (hS.subs (List.nil_sublist _) sb9) ?_ | refine as_i (hS.subs (List.Sublist.refl _) sb9) ?_ | refine bar_f hS ?_ | refine ld_f hS 0 rfl rfl ?_ | refine ldA_f hS 0 rfl rfl ?_ | ((first | refine stN_f hS 0 rfl (lb9 rfl) rfl rfl ?_ | refine stM_f hS 0 rfl (lb9 rfl) rfl ?_); (conv => whnf); intro w1 hS) | (refine br_i (fun _ => ?_) (fun _ => ?_)) | (refine dr9 hS ?_; intro w1 hS) | refine br_t (by assumption) ?_ | refine br_f (by assumption) ?_)
    all_goals first
      | exact hS.nil
      | skip
    · rename_i h
      have h0 : n = 0 := by simpa using h
      have hq0 := hz h0
      subst h0
      cases xs with
      | nil => simp [okVB, hq, hq0]
      | cons x xs =>
        simp [okVB]
        omega
    · rename_i h
      have h0 : n ≠ 0 := by simpa using h
      simp [okVB, h0]
  | false =>
    repeat' ((conv => whnf); first | refine And.intro ?_ ?_ | (apply q_i; focus (intro w1 hS; (conv => whnf); first | exact ⟨rfl, rfl⟩ | ((first | refine ld_f hS 0 rfl rfl ?_ | refine ldA_f hS 0 rfl rfl ?_); (conv => whnf); exact ⟨rfl, rfl⟩) | ((refine br_i (fun _ => ?_) (fun _ => ?_)); (conv => whnf); exact ⟨rfl, rfl⟩))) | (refine nw_f hS ?_; intro b w1 hS) | refine as_i hS ?_ | refine as_i (hS.subs (List.nil_sublist _) sb9) ?_ | refine as_i (hS.subs (List.Sublist.refl _) sb9) ?_ | refine bar_f hS ?_ | refine ld_f hS 0 rfl rfl ?_ | refine ldA_f hS 0 rfl rfl ?_ | ((first | refine stN_f hS 0 rfl (lb9 rfl) rfl rfl ?_ | refine stM_f hS 0 rfl (lb9 rfl) rfl ?_); (conv => whnf); intro w1 hS) | (refine fc_m (hc _) ?_; rintro v w3 ⟨rfl, hS'⟩; replace hS := hS.call0 hS') | (refine br_i (fun _ => ?_) (fun _ => ?_)) | (refine dr9 hS ?_; intro w1 hS) | refine br_t (by assumption) ?_ | refine br_f (by assumption) ?_)
    all_goals first
      | exact hS.nil
      | (simp only [okVB, *]; rfl)
      | skip
    refine loop_i TB_ok (fun i : Nat => [(3, .int .i64 i)]) (fun i w' => i ≤ xs.length ∧ (xs.take i).any isz = false ∧ Sf [] w w' [] [_]) (fun i => xs.length - i) 0 rfl ⟨Nat.zero_le _, by simp, hS⟩ ?_
    rintro i us w2 ⟨hi, hno, hS⟩
    repeat ((conv => whnf); first | (apply q_i; focus (intro w1 hS; (conv => whnf); first | exact ⟨rfl, rfl⟩ | ((first | refine ld_f hS 0 rfl rfl ?_ | refine ldA_f hS 0 rfl rfl ?_); (conv => whnf); exact ⟨rfl, rfl⟩))) | (refine nw_f hS ?_; intro b w1 hS) | refine as_i hS ?_ | refine as_i (hS.subs (List.nil_sublist _) sb9) ?_ | refine as_i (hS.subs (List.Sublist.refl _) sb9) ?_ | refine bar_f hS ?_ | refine ld_f hS 0 rfl rfl ?_ | refine ldA_f hS 0 rfl rfl ?_ | ((first | refine stN_f hS 0 rfl (lb9 rfl) rfl rfl ?_ | refine stM_f hS 0 rfl (lb9 rfl) rfl ?_); (conv => whnf); intro w1 hS) | (refine dr9 hS ?_; intro w1 hS) | refine br_t (by assumption) ?_ | refine br_f (by assumption) ?_)
    refine br_i (fun hb => ?_) (fun hb => ?_)
    · have hlt : i < xs.length := by have := of_decide_eq_true hb; omega
      have hRw := hR.below hS.nil
      obtain ⟨b, off, rfl⟩ := hR.form (flat_ne encU_len (by omega) hlt)
      repeat ((conv => whnf); first | (apply q_i; focus (intro w1 hS; (conv => whnf); first | exact ⟨rfl, rfl⟩ | ((first | refine ld_f hS 0 rfl rfl ?_ | refine ldA_f hS 0 rfl rfl ?_); (conv => whnf); exact ⟨rfl, rfl⟩) | ((refine .mk ⟨by omega, by omega⟩ ?_; refine ix_i rfl ?_); (conv => whnf); exact ⟨rfl, rfl⟩) | ((refine ld_el encU_len hRw.at (i := i) (k := 0) hlt (by omega) rfl (v := .int .u32 xs[i]) rfl ?_); (conv => whnf); exact ⟨rfl, rfl⟩))) | (refine nw_f hS ?_; intro b w1 hS) | refine as_i hS ?_ | refine as_i (hS.subs (List.nil_sublist _) sb9) ?_ | refine as_i (hS.subs (List.Sublist.refl _) sb9) ?_ | refine bar_f hS ?_ | refine ld_f hS 0 rfl rfl ?_ | refine ldA_f hS 0 rfl rfl ?_ | ((first | refine stN_f hS 0 rfl (lb9 rfl) rfl rfl ?_ | refine stM_f hS 0 rfl (lb9 rfl) rfl ?_); (conv => whnf); intro w1 hS) | (refine .mk ⟨by omega, by omega⟩ ?_; refine ix_i rfl ?_) | refine ld_el encU_len hRw.at (i := i) (k := 0) hlt (by omega) rfl (v := .int .u32 xs[i]) rfl ?_ | (refine dr9 hS ?_; intro w1 hS) | refine br_t (by assumption) ?_ | refine br_f (by assumption) ?_)
      refine br_i (fun h1 => ?_) (fun h1 => ?_)
      · repeat ((conv => whnf); first | (apply q_i; focus (intro w1 hS; (conv => whnf); first | exact ⟨rfl, rfl⟩ | ((first | refine ld_f hS 0 rfl rfl ?_ | refine ldA_f hS 0 rfl rfl ?_); (conv => whnf); exact ⟨rfl, rfl⟩))) | (refine nw_f hS ?_; intro b w1 hS) | refine as_i hS ?_ | refine as_i (hS.subs (List.nil_sublist _) sb9) ?_ | refine as_i (hS.subs (List.Sublist.refl _) sb9) ?_ | refine bar_f hS ?_ | refine ld_f hS 0 rfl rfl ?_ | refine ldA_f hS 0 rfl rfl ?_ | ((first | refine stN_f hS 0 rfl (lb9 rfl) rfl rfl ?_ | refine stM_f hS 0 rfl (lb9 rfl) rfl ?_); (conv => whnf); intro w1 hS) | (refine dr9 hS ?_; intro w1 hS) | refine br_t (by assumption) ?_ | refine br_f (by assumption) ?_)
        have hz : xs.any isz = true := List.any_eq_true.2 ⟨xs[i], List.getElem_mem hlt, h1⟩
        refine ⟨?_, hS.nil⟩
        simp only [okVB, hz]
        simp
      · repeat ((conv => whnf); first | (apply q_i; focus (intro w1 hS; (conv => whnf); first | exact ⟨rfl, rfl⟩ | ((first | refine ld_f hS 0 rfl rfl ?_ | refine ldA_f hS 0 rfl rfl ?_); (conv => whnf); exact ⟨rfl, rfl⟩))) | (refine nw_f hS ?_; intro b w1 hS) | refine as_i hS ?_ | refine as_i (hS.subs (List.nil_sublist _) sb9) ?_ | refine as_i (hS.subs (List.Sublist.refl _) sb9) ?_ | refine bar_f hS ?_ | refine ld_f hS 0 rfl rfl ?_ | refine ldA_f hS 0 rfl rfl ?_ | ((first | refine stN_f hS 0 rfl (lb9 rfl) rfl rfl ?_ | refine stM_f hS 0 rfl (lb9 rfl) rfl ?_); (conv => whnf); intro w1 hS) | (refine dr9 hS ?_; intro w1 hS) | refine br_t (by assumption) ?_ | refine br_f (by assumption) ?_)
        refine ⟨rfl, i + 1, ?_, ⟨by omega, ?_, hS⟩, by omega⟩
        · rw [wi hlt (by omega)]
          rfl
        · rw [List.take_succ_eq_append_getElem hlt, List.any_append, hno]
          have h2 : isz xs[i] = false := h1
          simp [h2]
    · have hge : i = xs.length := by have := of_decide_eq_false hb; omega
      rw [hge, List.take_length] at hno
      repeat ((conv => whnf); first | (apply q_i; focus (intro w1 hS; (conv => whnf); first | exact ⟨rfl, rfl⟩ | ((first | refine ld_f hS 0 rfl rfl ?_ | refine ldA_f hS 0 rfl rfl ?_); (conv => whnf); exact ⟨rfl, rfl⟩))) | (refine nw_f hS ?_; intro b w1 hS) | refine as_i hS ?_ | refine as_i (hS.subs (List.nil_sublist _) sb9) ?_ | refine as_i (hS.subs (List.Sublist.refl _) sb9) ?_ | refine bar_f hS ?_ | refine ld_f hS 0 rfl rfl ?_ | refine ldA_f hS 0 rfl rfl ?_ | ((first | refine stN_f hS 0 rfl (lb9 rfl) rfl rfl ?_ | refine stM_f hS 0 rfl (lb9 rfl) rfl ?_); (conv => whnf); intro w1 hS) | (refine dr9 hS ?_; intro w1 hS) | refine br_t (by assumption) ?_ | refine br_f (by assumption) ?_)
      refine ⟨?_, hS.nil⟩
      simp only [okVB, *]
      rfl

theorem equalU_c (A B : Option Addr) (c e : Nat) (xs ys : List Int) (w : World) (hR : Rd w A (flat encU xs)) (hR2 : Rd w B (flat encU ys)) (hl : xs.length ≤ 4611686018427387904) :
    Fc Tryz.prog 70 [.slice A xs.length c, .slice B ys.length e] w fun v w' => v = .bool (decide (xs = ys)) ∧ St [] w w' [] := by
  refine fc_i TB_ok Tryz.func70 rfl (by kernel_rfl) ?_
  have hS := Sf.refl w
  repeat ((conv => whnf); first | (apply q_i; focus (intro w1 hS; (conv => whnf); first | exact ⟨rfl, rfl⟩)) | (refine nw_f hS ?_; intro b w1 hS) | refine as_i hS ?_ | refine as_i (hS.subs (List.nil_sublist _) sb9) ?_ | refine as_i (hS.subs (List.Sublist.refl _) sb9) ?_ | refine bar_f hS ?_ | (refine dr9 hS ?_; intro w1 hS) | refine br_t (by assumption) ?_ | refine br_f (by assumption) ?_)
  refine br_i (fun h0 => ?_) (fun h0 => ?_)
  · have hne : xs ≠ ys := by
      rintro rfl
      simp at h0
    repeat ((conv => whnf); first | (apply q_i; focus (intro w1 hS; (conv => whnf); first | exact ⟨rfl, rfl⟩)) | (refine nw_f hS ?_; intro b w1 hS) | refine as_i hS ?_ | refine as_i (hS.subs (List.nil_sublist _) sb9) ?_ | refine as_i (hS.subs (List.Sublist.refl _) sb9) ?_ | refine bar_f hS ?_ | (refine dr9 hS ?_; intro w1 hS) | refine br_t (by assumption) ?_ | refine br_f (by assumption) ?_)
    exact ⟨by simp [hne], hS.nil⟩
  have hll : xs.length = ys.length := by simp at h0; omega
  repeat ((conv => whnf); first | (apply q_i; focus (intro w1 hS; (conv => whnf); first | exact ⟨rfl, rfl⟩)) | (refine nw_f hS ?_; intro b w1 hS) | refine as_i hS ?_ | refine as_i (hS.subs (List.nil_sublist _) sb9) ?_ | refine as_i (hS.subs (List.Sublist.refl _) sb9) ?_ | refine bar_f hS ?_ | (refine dr9 hS ?_; intro w1 hS) | refine br_t (by assumption) ?_ | refine br_f (by assumption) ?_)
  refine loop_i TB_ok (fun i : Nat => [(13, .int .i64 i)]) (fun i w' => i ≤ xs.length ∧ xs.take i = ys.take i ∧ Sf [] w w' [] []) (fun i => xs.length - i) 0 rfl ⟨Nat.zero_le _, by simp, hS⟩ ?_
  rintro i us w2 ⟨hi, hsm, hS⟩
  (conv => whnf)
  refine br_i (fun hb => ?_) (fun hb => ?_)
  · have hlt : i < xs.length := by have := of_decide_eq_true hb; omega
    have hlt2 : i < ys.length := by omega
    obtain ⟨b, off, rfl⟩ := hR.form (flat_ne encU_len (by omega) hlt)
    obtain ⟨b2, off2, rfl⟩ := hR2.form (flat_ne encU_len (by omega) hlt2)
    repeat ((conv => whnf); first | (apply q_i; focus (intro w1 hS; (conv => whnf); first | exact ⟨rfl, rfl⟩ | ((refine .mk ⟨by omega, by omega⟩ ?_; refine ix_i rfl ?_); (conv => whnf); exact ⟨rfl, rfl⟩) | ((refine ld_el encU_len (hR.below hS.nil).at (i := i) (k := 0) hlt (by omega) rfl (v := .int .u32 xs[i]) rfl ?_); (conv => whnf); exact ⟨rfl, rfl⟩) | ((refine ld_el encU_len (hR2.below hS.nil).at (i := i) (k := 0) hlt2 (by omega) rfl (v := .int .u32 ys[i]) rfl ?_); (conv => whnf); exact ⟨rfl, rfl⟩))) | (refine nw_f hS ?_; intro b w1 hS) | refine as_i hS ?_ | refine as_i (hS.subs (List.nil_sublist _) sb9) ?_ | refine as_i (hS.subs (List.Sublist.refl _) sb9) ?_ | refine bar_f hS ?_ | (refine .mk ⟨by omega, by omega⟩ ?_; refine ix_i rfl ?_) | refine ld_el encU_len (hR.below hS.nil).at (i := i) (k := 0) hlt (by omega) rfl (v := .int .u32 xs[i]) rfl ?_ | refine ld_el encU_len (hR2.below hS.nil).at (i := i) (k := 0) hlt2 (by omega) rfl (v := .int .u32 ys[i]) rfl ?_ | (refine dr9 hS ?_; intro w1 hS) | refine br_t (by assumption) ?_ | refine br_f (by assumption) ?_)
    refine br_i (fun h1 => ?_) (fun h1 => ?_)
    · have hne : xs ≠ ys := by
        rintro rfl
        simp at h1
      repeat ((conv => whnf); first | (apply q_i; focus (intro w1 hS; (conv => whnf); first | exact ⟨rfl, rfl⟩)) | (refine nw_f hS ?_; intro b w1 hS) | refine as_i hS ?_ | refine as_i (hS.subs (List.nil_sublist _) sb9) ?_ | refine as_i (hS.subs (List.Sublist.refl _) sb9) ?_ | refine bar_f hS ?_ | (refine dr9 hS ?_; intro w1 hS) | refine br_t (by assumption) ?_ | refine br_f (by assumption) ?_)
      exact ⟨by simp [hne], hS.nil⟩
    · have heq : xs[i] = ys[i] := by simpa using h1
      repeat ((conv => whnf); first | (apply q_i; focus (intro w1 hS; (conv => whnf); first | exact ⟨rfl, rfl⟩)) | (refine nw_f hS ?_; intro b w1 hS) | refine as_i hS ?_ | refine as_i (hS.subs (List.nil_sublist _) sb9) ?_ | refine as_i (hS.subs (List.Sublist.refl _) sb9) ?_ | refine bar_f hS ?_ | (refine dr9 hS ?_; intro w1 hS) | refine br_t (by assumption) ?_ | refine br_f (by assumption) ?_)
      refine ⟨rfl, i + 1, ?_, ⟨by omega, ?_, hS⟩, by omega⟩
      · rw [wi hlt (by omega)]
        rfl
      · rw [List.take_succ_eq_append_getElem hlt, List.take_succ_eq_append_getElem hlt2, hsm, heq]
  · have hge : i = xs.length := by have := of_decide_eq_false hb; omega
    have heq : xs = ys := by
      rw [hge, List.take_length, hll, List.take_length] at hsm
      exact hsm
    repeat ((conv => whnf); first | (apply q_i; focus (intro w1 hS; (conv => whnf); first | exact ⟨rfl, rfl⟩)) | (refine nw_f hS ?_; intro b w1 hS) | refine as_i hS ?_ | refine as_i (hS.subs (List.nil_sublist _) sb9) ?_ | refine as_i (hS.subs (List.Sublist.refl _) sb9) ?_ | refine bar_f hS ?_ | (refine dr9 hS ?_; intro w1 hS) | refine br_t (by assumption) ?_ | refine br_f (by assumption) ?_)
    exact ⟨by simp [heq], hS.nil⟩
def sameB (d : Bool) (n : Int) (xs : List Int) (d2 : Bool) (n2 : Int) (ys : List Int) : Bool := (d == d2) && ((n == n2) && decide (xs = ys))
theorem same_c (d : Bool) (n : Int) (A : Option Addr) (c : Nat) (xs : List Int) (d2 : Bool) (n2 : Int) (B : Option Addr) (e : Nat) (ys : List Int) (w : World) (hR : Rd w A (flat encU xs)) (hR2 : Rd w B (flat encU ys)) (hl : xs.length ≤ 4611686018427387904) :
    Fc Tryz.prog 38 [valV d n A xs.length c, valV d2 n2 B ys.length e] w fun v w' => v = .bool (sameB d n xs d2 n2 ys) ∧ St [] w w' [] := by
  refine fc_i TB_ok Tryz.func38 rfl (by kernel_rfl) ?_
  have hS := Sf.refl w
  repeat' ((conv => whnf); first | refine And.intro ?_ ?_ | (apply q_i; focus (intro w1 hS; (conv => whnf); first | exact ⟨rfl, rfl⟩ | ((first | refine ld_f hS 0 rfl rfl ?_ | refine ld_f hS 1 rfl rfl ?_ | refine ldA_f hS 0 rfl rfl ?_ | refine ldA_f hS 1 rfl rfl ?_); (conv => whnf); exact ⟨rfl, rfl⟩) | ((refine br_i (fun _ => ?_) (fun _ => ?_)); (conv => whnf); exact ⟨rfl, rfl⟩))) | (refine nw_f hS ?_; intro b w1 hS) | refine as_i hS ?_ | refine as_i (hS.subs (List.nil_sublist _) sb9) ?_ | refine as_i (hS.subs (List.Sublist.refl _) sb9) ?_ | refine bar_f hS ?_ | refine ld_f hS 0 rfl rfl ?_ | refine ld_f hS 1 rfl rfl ?_ | refine ldA_f hS 0 rfl rfl ?_ | refine ldA_f hS 1 rfl rfl ?_ | ((first | refine stN_f hS 0 rfl (lb9 rfl) rfl rfl ?_ | refine stN_f hS 1 rfl (lb9 rfl) rfl rfl ?_ | refine stM_f hS 0 rfl (lb9 rfl) rfl ?_ | refine stM_f hS 1 rfl (lb9 rfl) rfl ?_); (conv => whnf); intro w1 hS) | (refine fc_m (equalU_c A B c e xs ys _ (hR.below hS.nil) (hR2.below hS.nil) hl) ?_; rintro v w3 ⟨rfl, hS'⟩; replace hS := hS.call0 hS') | (refine br_i (fun _ => ?_) (fun _ => ?_)) | (refine dr9 hS ?_; intro w1 hS) | refine br_t (by assumption) ?_ | refine br_f (by assumption) ?_)
  all_goals first
    | exact hS.nil
    | (simp only [sameB, *]; rfl)
end Go.RV


set_option maxRecDepth 20000
set_option linter.unusedVariables false
set_option linter.unusedSimpArgs false
namespace Go.RV
open Go Go.Proofs

theorem rsame_c (d : Bool) (n : Int) (A : Option Addr) (c : Nat) (xs : List Int) (d2 : Bool) (n2 : Int) (B : Option Addr) (e : Nat) (ys : List Int) (w : World) (hR : Rd w A (flat encU xs)) (hR2 : Rd w B (flat encU ys)) (hl : xs.length ≤ 4611686018427387904) :
    Fc Tryz.prog 47 [valV d n A xs.length c, valV d2 n2 B ys.length e] w fun v w' => v = .bool (sameB d n xs d2 n2 ys) ∧ St [] w w' [] := by
  refine fc_i TB_ok Tryz.func47 rfl (by kernel_rfl) ?_
  have hS := Sf.refl w
  repeat' ((conv => whnf); first | refine And.intro ?_ ?_ | (apply q_i; focus (intro w1 hS; (conv => whnf); first | exact ⟨rfl, rfl⟩ | ((first | refine ld_f hS 0 rfl rfl ?_ | refine ld_f hS 1 rfl rfl ?_ | refine ldA_f hS 0 rfl rfl ?_ | refine ldA_f hS 1 rfl rfl ?_); (conv => whnf); exact ⟨rfl, rfl⟩) | ((refine br_i (fun _ => ?_) (fun _ => ?_)); (conv => whnf); exact ⟨rfl, rfl⟩))) | (refine nw_f hS ?_; intro b w1 hS) | refine as_i hS ?_ | refine as_i (hS.subs (List.nil_sublist _) sb9) ?_ | refine as_i (hS.subs (List.Sublist.refl _) sb9) ?_ | refine bar_f hS ?_ | refine ld_f hS 0 rfl rfl ?_ | refine ld_f hS 1 rfl rfl ?_ | refine ldA_f hS 0 rfl rfl ?_ | refine ldA_f hS 1 rfl rfl ?_ | ((first | refine stN_f hS 0 rfl (lb9 rfl) rfl rfl ?_ | refine stN_f hS 1 rfl (lb9 rfl) rfl rfl ?_ | refine stM_f hS 0 rfl (lb9 rfl) rfl ?_ | refine stM_f hS 1 rfl (lb9 rfl) rfl ?_); (conv => whnf); intro w1 hS) | (refine br_i (fun _ => ?_) (fun _ => ?_)) | (refine dr9 hS ?_; intro w1 hS) | refine br_t (by assumption) ?_ | refine br_f (by assumption) ?_)
  all_goals first
    | exact hS.nil
    | (rename_i h
       have h' : (d == d2) = false := by cases d <;> cases d2 <;> first | rfl | exact absurd h (by decide)
       simp only [sameB, h']; rfl)
    | (rename_i h
       have h' : (n == n2) = false := by simpa using h
       simp only [sameB, h']
       cases d <;> cases d2 <;> rfl)
    | (rename_i h
       have h' : ¬ xs = ys := by rintro rfl; simp at h
       simp only [sameB, h']
       simp)
    | skip
  rename_i g1 g2 g3
  have q1 : (d == d2) = true := by cases d <;> cases d2 <;> first | rfl | exact absurd g1 (by decide)
  have q2 : (n == n2) = true := by simpa using g2
  have hll : xs.length = ys.length := by simp at g3; omega
  refine loop_i TB_ok (fun i : Nat => [(5, .int .i64 i)]) (fun i w' => i ≤ xs.length ∧ xs.take i = ys.take i ∧ Sf [] w w' [] [_, _]) (fun i => xs.length - i) 0 rfl ⟨Nat.zero_le _, by simp, hS⟩ ?_
  rintro i us w2 ⟨hi, hsm, hS⟩
  repeat ((conv => whnf); first | (apply q_i; focus (intro w1 hS; (conv => whnf); first | exact ⟨rfl, rfl⟩ | ((first | refine ld_f hS 0 rfl rfl ?_ | refine ld_f hS 1 rfl rfl ?_ | refine ldA_f hS 0 rfl rfl ?_ | refine ldA_f hS 1 rfl rfl ?_); (conv => whnf); exact ⟨rfl, rfl⟩))) | (refine nw_f hS ?_; intro b w1 hS) | refine as_i hS ?_ | refine as_i (hS.subs (List.nil_sublist _) sb9) ?_ | refine as_i (hS.subs (List.Sublist.refl _) sb9) ?_ | refine bar_f hS ?_ | refine ld_f hS 0 rfl rfl ?_ | refine ld_f hS 1 rfl rfl ?_ | refine ldA_f hS 0 rfl rfl ?_ | refine ldA_f hS 1 rfl rfl ?_ | ((first | refine stN_f hS 0 rfl (lb9 rfl) rfl rfl ?_ | refine stN_f hS 1 rfl (lb9 rfl) rfl rfl ?_ | refine stM_f hS 0 rfl (lb9 rfl) rfl ?_ | refine stM_f hS 1 rfl (lb9 rfl) rfl ?_); (conv => whnf); intro w1 hS) | (refine dr9 hS ?_; intro w1 hS) | refine br_t (by assumption) ?_ | refine br_f (by assumption) ?_)
  refine br_i (fun hb => ?_) (fun hb => ?_)
  · have hlt : i < xs.length := by have := of_decide_eq_true hb; omega
    have hlt2 : i < ys.length := by omega
    obtain ⟨b, off, rfl⟩ := hR.form (flat_ne encU_len (by omega) hlt)
    obtain ⟨b2, off2, rfl⟩ := hR2.form (flat_ne encU_len (by omega) hlt2)
    repeat ((conv => whnf); first | (apply q_i; focus (intro w1 hS; (conv => whnf); first | exact ⟨rfl, rfl⟩ | ((first | refine ld_f hS 0 rfl rfl ?_ | refine ld_f hS 1 rfl rfl ?_ | refine ldA_f hS 0 rfl rfl ?_ | refine ldA_f hS 1 rfl rfl ?_); (conv => whnf); exact ⟨rfl, rfl⟩) | ((refine .mk ⟨by omega, by omega⟩ ?_; refine ix_i rfl ?_); (conv => whnf); exact ⟨rfl, rfl⟩) | ((refine ld_el encU_len (hR.below hS.nil).at (i := i) (k := 0) hlt (by omega) rfl (v := .int .u32 xs[i]) rfl ?_); (conv => whnf); exact ⟨rfl, rfl⟩) | ((refine ld_el encU_len (hR2.below hS.nil).at (i := i) (k := 0) hlt2 (by omega) rfl (v := .int .u32 ys[i]) rfl ?_); (conv => whnf); exact ⟨rfl, rfl⟩))) | (refine nw_f hS ?_; intro b w1 hS) | refine as_i hS ?_ | refine as_i (hS.subs (List.nil_sublist _) sb9) ?_ | refine as_i (hS.subs (List.Sublist.refl _) sb9) ?_ | refine bar_f hS ?_ | refine ld_f hS 0 rfl rfl ?_ | refine ld_f hS 1 rfl rfl ?_ | refine ldA_f hS 0 rfl rfl ?_ | refine ldA_f hS 1 rfl rfl ?_ | ((first | refine stN_f hS 0 rfl (lb9 rfl) rfl rfl ?_ | refine stN_f hS 1 rfl (lb9 rfl) rfl rfl ?_ | refine stM_f hS 0 rfl (lb9 rfl) rfl ?_ | refine stM_f hS 1 rfl (lb9 rfl) rfl ?_); (conv => whnf); intro w1 hS) | (refine .mk ⟨by omega, by omega⟩ ?_; refine ix_i rfl ?_) | refine ld_el encU_len (hR.below hS.nil).at (i := i) (k := 0) hlt (by omega) rfl (v := .int .u32 xs[i]) rfl ?_ | refine ld_el encU_len (hR2.below hS.nil).at (i := i) (k := 0) hlt2 (by omega) rfl (v := .int .u32 ys[i]) rfl ?_ | (refine dr9 hS ?_; intro w1 hS) | refine br_t (by assumption) ?_ | refine br_f (by assumption) ?_)
    refine br_i (fun h1 => ?_) (fun h1 => ?_)
    · have hne : ¬ xs = ys := by
        rintro rfl
        simp at h1
      repeat ((conv => whnf); first | (apply q_i; focus (intro w1 hS; (conv => whnf); first | exact ⟨rfl, rfl⟩ | ((first | refine ld_f hS 0 rfl rfl ?_ | refine ld_f hS 1 rfl rfl ?_ | refine ldA_f hS 0 rfl rfl ?_ | refine ldA_f hS 1 rfl rfl ?_); (conv => whnf); exact ⟨rfl, rfl⟩))) | (refine nw_f hS ?_; intro b w1 hS) | refine as_i hS ?_ | refine as_i (hS.subs (List.nil_sublist _) sb9) ?_ | refine as_i (hS.subs (List.Sublist.refl _) sb9) ?_ | refine bar_f hS ?_ | refine ld_f hS 0 rfl rfl ?_ | refine ld_f hS 1 rfl rfl ?_ | refine ldA_f hS 0 rfl rfl ?_ | refine ldA_f hS 1 rfl rfl ?_ | ((first | refine stN_f hS 0 rfl (lb9 rfl) rfl rfl ?_ | refine stN_f hS 1 rfl (lb9 rfl) rfl rfl ?_ | refine stM_f hS 0 rfl (lb9 rfl) rfl ?_ | refine stM_f hS 1 rfl (lb9 rfl) rfl ?_); (conv => whnf); intro w1 hS) | (refine dr9 hS ?_; intro w1 hS) | refine br_t (by assumption) ?_ | refine br_f (by assumption) ?_)
      exact ⟨by simp only [sameB, hne]; simp, hS.nil⟩
    · have heq : xs[i] = ys[i] := by simpa using h1
      repeat ((conv => whnf); first | (apply q_i; focus (intro w1 hS; (conv => whnf); first | exact ⟨rfl, rfl⟩ | ((first | refine ld_f hS 0 rfl rfl ?_ | refine ld_f hS 1 rfl rfl ?_ | refine ldA_f hS 0 rfl rfl ?_ | refine ldA_f hS 1 rfl rfl ?_); (conv => whnf); exact ⟨rfl, rfl⟩))) | (refine nw_f hS ?_; intro b w1 hS) | refine as_i hS ?_ | refine as_i (hS.subs (List.nil_sublist _) sb9) ?_ | refine as_i (hS.subs (List.Sublist.refl _) sb9) ?_ | refine bar_f hS ?_ | refine ld_f hS 0 rfl rfl ?_ | refine ld_f hS 1 rfl rfl ?_ | refine ldA_f hS 0 rfl rfl ?_ | refine ldA_f hS 1 rfl rfl ?_ | ((first | refine stN_f hS 0 rfl (lb9 rfl) rfl rfl ?_ | refine stN_f hS 1 rfl (lb9 rfl) rfl rfl ?_ | refine stM_f hS 0 rfl (lb9 rfl) rfl ?_ | refine stM_f hS 1 rfl (lb9 rfl) rfl ?_); (conv => whnf); intro w1 hS) | (refine dr9 hS ?_; intro w1 hS) | refine br_t (by assumption) ?_ | refine br_f (by assumption) ?_)
      refine ⟨rfl, i + 1, ?_, ⟨by omega, ?_, hS⟩, by omega⟩
      · rw [wi hlt (by omega)]
        rfl
      · rw [List.take_succ_eq_append_getElem hlt, List.take_succ_eq_append_getElem hlt2, hsm, heq]
  · have hge : i = xs.length := by have := of_decide_eq_false hb; omega
    have heq : xs = ys := by
      rw [hge, List.take_length, hll, List.take_length] at hsm
      exact hsm
    repeat ((conv => whnf); first | (apply q_i; focus (intro w1 hS; (conv => whnf); first | exact ⟨rfl, rfl⟩ | ((first | refine ld_f hS 0 rfl rfl ?_ | refine ld_f hS 1 rfl rfl ?_ | refine ldA_f hS 0 rfl rfl ?_ | refine ldA_f hS 1 rfl rfl ?_); (conv => whnf); exact ⟨rfl, rfl⟩))) | (refine nw_f hS ?_; intro b w1 hS) | refine as_i hS ?_ | refine as_i (hS.subs (List.nil_sublist _) sb9) ?_ | refine as_i (hS.subs (List.Sublist.refl _) sb9) ?_ | refine bar_f hS ?_ | refine ld_f hS 0 rfl rfl ?_ | refine ld_f hS 1 rfl rfl ?_ | refine ldA_f hS 0 rfl rfl ?_ | refine ldA_f hS 1 rfl rfl ?_ | ((first | refine stN_f hS 0 rfl (lb9 rfl) rfl rfl ?_ | refine stN_f hS 1 rfl (lb9 rfl) rfl rfl ?_ | refine stM_f hS 0 rfl (lb9 rfl) rfl ?_ | refine stM_f hS 1 rfl (lb9 rfl) rfl ?_); (conv => whnf); intro w1 hS) | (refine dr9 hS ?_; intro w1 hS) | refine br_t (by assumption) ?_ | refine br_f (by assumption) ?_)
    refine ⟨?_, hS.nil⟩
    simp only [sameB, q1, q2, heq]
    simp

def headT (d : Bool) (n : Int) : List UInt8 := if d then be 1 1 else be 0 1 ++ be (IntKind.u16.wrap n) 2
theorem head_c (bw : Nat) (bs : List UInt8) (L : LM) (hW : Wr bw bs L) (d : Bool) (n : Int) (w : World) (hS : St (keys L) w w L) (hn : bs.length ≤ 1073741824) :
    Fc Tryz.prog 127 [.pointer (some ⟨bw, 0, none⟩), .bool d, .int .i64 n] w fun v w' => ∃ L', Wr bw (bs ++ headT d n) L' ∧ St (keys L) w w' L' := by
  refine fc_i TB_ok Tryz.func127 rfl (by kernel_rfl) ?_
  have hS : Sf (keys L) w w (L ++ []) [] := ⟨by simpa using hS⟩
  cases d with
  | true =>
    repeat ((conv => whnf); first | (apply q_i; focus (intro w1 hS; (conv => whnf); first | exact ⟨rfl, rfl⟩)) | (refine nw_f hS ?_; intro b w1 hS) | refine as_i hS ?_ | refine as_i (hS.subs (List.nil_sublist _) sb9) ?_ | refine as_i (hS.subs (List.Sublist.refl _) sb9) ?_ | refine bar_f hS ?_ | (refine dr9 hS ?_; intro w1 hS) | refine br_t (by assumption) ?_ | refine br_f (by assumption) ?_)
    refine fc_m (w8_c bw bs L hW 1 (by decide) (by decide) _ hS.ownF (by omega)) ?_
    rintro v w1 ⟨L1, hW1, hS'⟩
    replace hS := hS.callW hS'
    repeat ((conv => whnf); first | (apply q_i; focus (intro w1 hS; (conv => whnf); first | exact ⟨rfl, rfl⟩)) | (refine nw_f hS ?_; intro b w1 hS) | refine as_i hS ?_ | refine as_i (hS.subs (List.nil_sublist _) sb9) ?_ | refine as_i (hS.subs (List.Sublist.refl _) sb9) ?_ | refine bar_f hS ?_ | (refine dr9 hS ?_; intro w1 hS) | refine br_t (by assumption) ?_ | refine br_f (by assumption) ?_)
    exact ⟨L1, hW1, by simpa using hS.st⟩
  | false =>
    repeat ((conv => whnf); first | (apply q_i; focus (intro w1 hS; (conv => whnf); first | exact ⟨rfl, rfl⟩)) | (refine nw_f hS ?_; intro b w1 hS) | refine as_i hS ?_ | refine as_i (hS.subs (List.nil_sublist _) sb9) ?_ | refine as_i (hS.subs (List.Sublist.refl _) sb9) ?_ | refine bar_f hS ?_ | (refine dr9 hS ?_; intro w1 hS) | refine br_t (by assumption) ?_ | refine br_f (by assumption) ?_)
    refine fc_m (w8_c bw bs L hW 0 (by decide) (by decide) _ hS.ownF (by omega)) ?_
    rintro v w1 ⟨L1, hW1, hS'⟩
    replace hS := hS.callW hS'
    repeat ((conv => whnf); first | (apply q_i; focus (intro w1 hS; (conv => whnf); first | exact ⟨rfl, rfl⟩)) | (refine nw_f hS ?_; intro b w1 hS) | refine as_i hS ?_ | refine as_i (hS.subs (List.nil_sublist _) sb9) ?_ | refine as_i (hS.subs (List.Sublist.refl _) sb9) ?_ | refine bar_f hS ?_ | (refine dr9 hS ?_; intro w1 hS) | refine br_t (by assumption) ?_ | refine br_f (by assumption) ?_)
    refine fc_m (w16_c bw _ L1 hW1 (IntKind.u16.wrap n) (by rw [wrap_u16_mod]; omega) (by rw [wrap_u16_mod]; omega) _ hS.ownF (by rw [List.length_append, be_len]; omega)) ?_
    rintro v w2 ⟨L2, hW2, hS'⟩
    replace hS := hS.callW hS'
    repeat ((conv => whnf); first | (apply q_i; focus (intro w1 hS; (conv => whnf); first | exact ⟨rfl, rfl⟩)) | (refine nw_f hS ?_; intro b w1 hS) | refine as_i hS ?_ | refine as_i (hS.subs (List.nil_sublist _) sb9) ?_ | refine as_i (hS.subs (List.Sublist.refl _) sb9) ?_ | refine bar_f hS ?_ | (refine dr9 hS ?_; intro w1 hS) | refine br_t (by assumption) ?_ | refine br_f (by assumption) ?_)
    rw [List.append_assoc] at hW2
    exact ⟨L2, hW2, by simpa using hS.st⟩
def idsT (xs : List Int) : List UInt8 := xs.flatMap fun x => be x 4
theorem idsT_len : ∀ xs : List Int, (idsT xs).length = 4 * xs.length
  | [] => rfl
  | x :: xs => by
    have ih := idsT_len xs
    have e : idsT (x :: xs) = be x 4 ++ idsT xs := by simp [idsT]
    rw [e, List.length_append, be_len, ih, List.length_cons]
    omega
theorem idsT_snoc (xs : List Int) {i : Nat} (h : i < xs.length) : idsT (xs.take (i + 1)) = idsT (xs.take i) ++ be xs[i] 4 := by
  unfold idsT
  rw [List.take_succ_eq_append_getElem h, List.flatMap_append]
  simp
def valT (d : Bool) (n : Int) (xs : List Int) : List UInt8 := headT d n ++ idsT xs
theorem okVB_len {d : Bool} {n : Int} {xs : List Int} (h : okVB d n xs = true) : xs.length ≤ 4 := by
  simp only [okVB, Bool.and_eq_true, Bool.not_eq_true', Bool.or_eq_false_iff, decide_eq_false_iff_not, bne_eq_false_iff_eq] at h
  obtain ⟨_, ⟨h1, h2⟩, h3, _⟩ := h
  unfold countI at h3
  split at h3 <;> omega
theorem vaput_c (d : Bool) (n : Int) (hn : n ≤ 9223372036854775807) (A : Option Addr) (c : Nat) (xs : List Int) (hx : ∀ x ∈ xs, 0 ≤ x ∧ x ≤ 4294967295) (w : World) (hR : Rd w A (flat encU xs)) (hl : xs.length ≤ 4611686018427387904) :
    Fc Tryz.prog 117 [valV d n A xs.length c] w fun v w' => v = .tuple #[.string (if okVB d n xs then strY (valT d n xs) else ⟨#[]⟩), .int .i64 (if okVB d n xs then 0 else 4)] ∧ St [] w w' [] := by
  refine fc_i TB_ok Tryz.func117 rfl (by kernel_rfl) ?_
  have hS := Sf.refl w
  repeat ((conv => whnf); first | (apply q_i; focus (intro w1 hS; (conv => whnf); first | exact ⟨rfl, rfl⟩ | ((first | refine ld_f hS 0 rfl rfl ?_ | refine ldA_f hS 0 rfl rfl ?_); (conv => whnf); exact ⟨rfl, rfl⟩))) | (refine nw_f hS ?_; intro b w1 hS) | refine as_i hS ?_ | refine as_i (hS.subs (List.nil_sublist _) sb9) ?_ | refine as_i (hS.subs (List.Sublist.refl _) sb9) ?_ | refine bar_f hS ?_ | refine ld_f hS 0 rfl rfl ?_ | refine ldA_f hS 0 rfl rfl ?_ | ((first | refine stN_f hS 0 rfl (lb9 rfl) rfl rfl ?_ | refine stM_f hS 0 rfl (lb9 rfl) rfl ?_); (conv => whnf); intro w1 hS) | (refine dr9 hS ?_; intro w1 hS) | refine br_t (by assumption) ?_ | refine br_f (by assumption) ?_)
  refine fc_m (check_c d n hn A c xs _ (hR.below hS.nil) hl) ?_
  rintro v w1 ⟨rfl, hS'⟩
  replace hS := hS.call0 hS'
  cases hok : okVB d n xs with
  | false =>
    repeat ((conv => whnf); first | (apply q_i; focus (intro w1 hS; (conv => whnf); first | exact ⟨rfl, rfl⟩ | ((first | refine ld_f hS 0 rfl rfl ?_ | refine ldA_f hS 0 rfl rfl ?_); (conv => whnf); exact ⟨rfl, rfl⟩))) | (refine nw_f hS ?_; intro b w1 hS) | refine as_i hS ?_ | refine as_i (hS.subs (List.nil_sublist _) sb9) ?_ | refine as_i (hS.subs (List.Sublist.refl _) sb9) ?_ | refine bar_f hS ?_ | refine ld_f hS 0 rfl rfl ?_ | refine ldA_f hS 0 rfl rfl ?_ | ((first | refine stN_f hS 0 rfl (lb9 rfl) rfl rfl ?_ | refine stM_f hS 0 rfl (lb9 rfl) rfl ?_); (conv => whnf); intro w1 hS) | (refine dr9 hS ?_; intro w1 hS) | refine br_t (by assumption) ?_ | refine br_f (by assumption) ?_)
    exact ⟨rfl, hS.nil⟩
  | true =>
    have h4 := okVB_len hok
    repeat ((conv => whnf); first | (refine nw_f hS ?_; intro b w1 hS) | refine ld_f hS 0 rfl rfl ?_ | refine ldA_f hS 0 rfl rfl ?_ | ((first | refine stN_f hS 0 rfl (lb9 rfl) rfl rfl ?_ | refine stM_f hS 0 rfl (lb9 rfl) rfl ?_); (conv => whnf); intro w1 hS))
    obtain ⟨bw, hbw⟩ : ∃ x, x = b := ⟨b, rfl⟩
    subst hbw
    replace hS : Sf [] w _ ([(bw, Obj.cells #[.slice none 0 0] 98 (0, 0))] ++ []) [(_, .cells #[.bool d, .int .i64 n, .slice A xs.length c] 43 (0, 0))] := ⟨hS.st⟩
    repeat ((conv => whnf); first | (apply q_i; focus (intro w1 hS; (conv => whnf); first | exact ⟨rfl, rfl⟩ | ((first | refine ld_f hS 0 rfl rfl ?_ | refine ldA_f hS 0 rfl rfl ?_); (conv => whnf); exact ⟨rfl, rfl⟩))) | (refine nw_f hS ?_; intro b w1 hS) | refine as_i hS ?_ | refine as_i (hS.subs (List.nil_sublist _) sb9) ?_ | refine as_i (hS.subs (List.Sublist.refl _) sb9) ?_ | refine bar_f hS ?_ | refine ld_f hS 0 rfl rfl ?_ | refine ldA_f hS 0 rfl rfl ?_ | ((first | refine stN_f hS 0 rfl (lb9 rfl) rfl rfl ?_ | refine stM_f hS 0 rfl (lb9 rfl) rfl ?_); (conv => whnf); intro w1 hS) | (refine dr9 hS ?_; intro w1 hS) | refine br_t (by assumption) ?_ | refine br_f (by assumption) ?_)
    refine fc_m (head_c bw [] _ (Wr.new bw) d n _ hS.ownF (by decide)) ?_
    rintro v w2 ⟨L1, hW1, hS'⟩
    replace hS := hS.callW hS'
    rw [List.nil_append] at hW1
    have hhl : (headT d n).length ≤ 3 := by
      unfold headT
      split
      · rw [be_len]; omega
      · rw [List.length_append, be_len, be_len]; omega
    repeat ((conv => whnf); first | (apply q_i; focus (intro w1 hS; (conv => whnf); first | exact ⟨rfl, rfl⟩ | ((first | refine ld_f hS 0 rfl rfl ?_ | refine ldA_f hS 0 rfl rfl ?_); (conv => whnf); exact ⟨rfl, rfl⟩))) | (refine nw_f hS ?_; intro b w1 hS) | refine as_i hS ?_ | refine as_i (hS.subs (List.nil_sublist _) sb9) ?_ | refine as_i (hS.subs (List.Sublist.refl _) sb9) ?_ | refine bar_f hS ?_ | refine ld_f hS 0 rfl rfl ?_ | refine ldA_f hS 0 rfl rfl ?_ | ((first | refine stN_f hS 0 rfl (lb9 rfl) rfl rfl ?_ | refine stM_f hS 0 rfl (lb9 rfl) rfl ?_); (conv => whnf); intro w1 hS) | (refine dr9 hS ?_; intro w1 hS) | refine br_t (by assumption) ?_ | refine br_f (by assumption) ?_)
    refine loop_i TB_ok (fun i : Nat => [(21, .int .i64 i)]) (fun i w' => i ≤ xs.length ∧ ∃ L', Wr bw (headT d n ++ idsT (xs.take i)) L' ∧ Sf [] w w' (L' ++ []) [(_, .cells #[.bool d, .int .i64 n, .slice A xs.length c] 43 (0, 0))]) (fun i => xs.length - i) 0 rfl ⟨Nat.zero_le _, L1, by simpa [idsT] using hW1, hS⟩ ?_
    rintro i us w3 ⟨hi, L2, hW2, hS⟩
    (conv => whnf)
    refine br_i (fun hb => ?_) (fun hb => ?_)
    · have hlt : i < xs.length := by have := of_decide_eq_true hb; omega
      have hxi := hx xs[i] (List.getElem_mem hlt)
      have hil := idsT_len (xs.take i)
      rw [List.length_take] at hil
      obtain ⟨b, off, rfl⟩ := hR.form (flat_ne encU_len (by omega) hlt)
      repeat ((conv => whnf); first | (apply q_i; focus (intro w1 hS; (conv => whnf); first | exact ⟨rfl, rfl⟩ | ((first | refine ld_f hS 0 rfl rfl ?_ | refine ldA_f hS 0 rfl rfl ?_); (conv => whnf); exact ⟨rfl, rfl⟩) | ((refine .mk ⟨by omega, by omega⟩ ?_; refine ix_i rfl ?_); (conv => whnf); exact ⟨rfl, rfl⟩) | ((refine ld_el encU_len (hR.below hS.nil).at (i := i) (k := 0) hlt (by omega) rfl (v := .int .u32 xs[i]) rfl ?_); (conv => whnf); exact ⟨rfl, rfl⟩))) | (refine nw_f hS ?_; intro b w1 hS) | refine as_i hS ?_ | refine as_i (hS.subs (List.nil_sublist _) sb9) ?_ | refine as_i (hS.subs (List.Sublist.refl _) sb9) ?_ | refine bar_f hS ?_ | refine ld_f hS 0 rfl rfl ?_ | refine ldA_f hS 0 rfl rfl ?_ | ((first | refine stN_f hS 0 rfl (lb9 rfl) rfl rfl ?_ | refine stM_f hS 0 rfl (lb9 rfl) rfl ?_); (conv => whnf); intro w1 hS) | (refine .mk ⟨by omega, by omega⟩ ?_; refine ix_i rfl ?_) | refine ld_el encU_len (hR.below hS.nil).at (i := i) (k := 0) hlt (by omega) rfl (v := .int .u32 xs[i]) rfl ?_ | (refine dr9 hS ?_; intro w1 hS) | refine br_t (by assumption) ?_ | refine br_f (by assumption) ?_)
      refine fc_m (w32_c bw _ L2 hW2 xs[i] hxi.1 hxi.2 _ hS.ownF (by rw [List.length_append]; omega)) ?_
      rintro v w4 ⟨L3, hW3, hS'⟩
      replace hS := hS.callW hS'
      repeat ((conv => whnf); first | (apply q_i; focus (intro w1 hS; (conv => whnf); first | exact ⟨rfl, rfl⟩ | ((first | refine ld_f hS 0 rfl rfl ?_ | refine ldA_f hS 0 rfl rfl ?_); (conv => whnf); exact ⟨rfl, rfl⟩))) | (refine nw_f hS ?_; intro b w1 hS) | refine as_i hS ?_ | refine as_i (hS.subs (List.nil_sublist _) sb9) ?_ | refine as_i (hS.subs (List.Sublist.refl _) sb9) ?_ | refine bar_f hS ?_ | refine ld_f hS 0 rfl rfl ?_ | refine ldA_f hS 0 rfl rfl ?_ | ((first | refine stN_f hS 0 rfl (lb9 rfl) rfl rfl ?_ | refine stM_f hS 0 rfl (lb9 rfl) rfl ?_); (conv => whnf); intro w1 hS) | (refine dr9 hS ?_; intro w1 hS) | refine br_t (by assumption) ?_ | refine br_f (by assumption) ?_)
      refine ⟨rfl, i + 1, ?_, ⟨by omega, L3, ?_, hS⟩, by omega⟩
      · rw [wi hlt (by omega)]
        rfl
      · rw [idsT_snoc xs hlt, ← List.append_assoc]
        exact hW3
    · have hge : i = xs.length := by have := of_decide_eq_false hb; omega
      rw [hge, List.take_length] at hW2
      repeat ((conv => whnf); first | (apply q_i; focus (intro w1 hS; (conv => whnf); first | exact ⟨rfl, rfl⟩ | ((first | refine ld_f hS 0 rfl rfl ?_ | refine ldA_f hS 0 rfl rfl ?_); (conv => whnf); exact ⟨rfl, rfl⟩))) | (refine nw_f hS ?_; intro b w1 hS) | refine as_i hS ?_ | refine as_i (hS.subs (List.nil_sublist _) sb9) ?_ | refine as_i (hS.subs (List.Sublist.refl _) sb9) ?_ | refine bar_f hS ?_ | refine ld_f hS 0 rfl rfl ?_ | refine ldA_f hS 0 rfl rfl ?_ | ((first | refine stN_f hS 0 rfl (lb9 rfl) rfl rfl ?_ | refine stM_f hS 0 rfl (lb9 rfl) rfl ?_); (conv => whnf); intro w1 hS) | (refine dr9 hS ?_; intro w1 hS) | refine br_t (by assumption) ?_ | refine br_f (by assumption) ?_)
      refine fc_m (bytes_c bw _ L2 hW2 _ hS.ownF) ?_
      rintro v w4 ⟨rfl, hS'⟩
      replace hS := hS.call0 hS'
      repeat ((conv => whnf); first | (apply q_i; focus (intro w1 hS; (conv => whnf); first | exact ⟨rfl, rfl⟩ | ((first | refine ld_f hS 0 rfl rfl ?_ | refine ldA_f hS 0 rfl rfl ?_); (conv => whnf); exact ⟨rfl, rfl⟩))) | (refine nw_f hS ?_; intro b w1 hS) | refine as_i hS ?_ | refine as_i (hS.subs (List.nil_sublist _) sb9) ?_ | refine as_i (hS.subs (List.Sublist.refl _) sb9) ?_ | refine bar_f hS ?_ | refine ld_f hS 0 rfl rfl ?_ | refine ldA_f hS 0 rfl rfl ?_ | ((first | refine stN_f hS 0 rfl (lb9 rfl) rfl rfl ?_ | refine stM_f hS 0 rfl (lb9 rfl) rfl ?_); (conv => whnf); intro w1 hS) | (refine dr9 hS ?_; intro w1 hS) | refine br_t (by assumption) ?_ | refine br_f (by assumption) ?_)
      exact ⟨rfl, hS.nil⟩
end Go.RV


set_option maxRecDepth 20000
set_option linter.unusedVariables false
set_option linter.unusedSimpArgs false
namespace Go.RV
open Go Go.Proofs

def tellS (s : RS) : RS × Int × Int := if numF 0 (fixedR s (1 : Nat)).1 = 0 then ((fixedR (fixedR s (1 : Nat)).2 (2 : Nat)).2, 0, numF 0 (fixedR (fixedR s (1 : Nat)).2 (2 : Nat)).1) else ((fixedR s (1 : Nat)).2, numF 0 (fixedR s (1 : Nat)).1, 0)
def tellR (t : RS × Int × Int) : Bool × Int × Int := if t.1.e ≠ 0 then (false, 0, t.1.e) else if 1 < t.2.1 ∨ 256 < t.2.2 then (false, 0, 4) else (t.2.1 == 1, t.2.2, 0)
theorem tell_c (br : Nat) (s : RS) (w : World) (hS : St [br] w w [(br, rdO s)]) :
    Fc Tryz.prog 126 [.pointer (some ⟨br, 0, none⟩)] w fun v w' => v = .tuple #[.bool (tellR (tellS s)).1, .int .i64 (tellR (tellS s)).2.1, .int .i64 (tellR (tellS s)).2.2] ∧ St [br] w w' [(br, rdO (tellS s).1)] := by
  refine fc_i TB_ok Tryz.func126 rfl (by kernel_rfl) ?_
  have hS : Sf [br] w w ([(br, rdO s)] ++ []) [] := ⟨hS⟩
  repeat ((conv => whnf); first | (apply q_i; focus (intro w1 hS; (conv => whnf); first | exact ⟨rfl, rfl⟩)) | (refine nw_f hS ?_; intro b w1 hS) | refine as_i hS ?_ | refine as_i (hS.subs (List.nil_sublist _) sb9) ?_ | refine as_i (hS.subs (List.Sublist.refl _) sb9) ?_ | refine bar_f hS ?_ | (refine dr9 hS ?_; intro w1 hS) | refine br_t (by assumption) ?_ | refine br_f (by assumption) ?_)
  refine fc_m (r8_c br s _ hS.ownF) ?_
  rintro v w1 ⟨rfl, hS'⟩
  replace hS := hS.callW hS'
  have hnl := numF_lt s 1
  rw [show (256 : Int) ^ 1 = 256 from by decide] at hnl
  have hw8 : IntKind.u8.wrap (numF 0 (fixedR s 1).1) = numF 0 (fixedR s (1 : Nat)).1 := wrap_u8 hnl.1 hnl.2
  rw [hw8]
  replace hS : Sf [br] w w1 ([(br, rdO (fixedR s (1 : Nat)).2)] ++ []) [] := hS
  unfold tellS
  generalize numF 0 (fixedR s (1 : Nat)).1 = k at *
  generalize (fixedR s (1 : Nat)).2 = s1 at *
  have fin : ∀ (t : RS × Int × Int) (w' : World), St [br] w w' [(br, rdO t.1)] → Sf [br] w w' ([(br, rdO t.1)] ++ []) [] := fun t w' h => ⟨by simpa using h⟩
  repeat ((conv => whnf); first | (apply q_i; focus (intro w1 hS; (conv => whnf); first | exact ⟨rfl, rfl⟩)) | (refine nw_f hS ?_; intro b w1 hS) | refine as_i hS ?_ | refine as_i (hS.subs (List.nil_sublist _) sb9) ?_ | refine as_i (hS.subs (List.Sublist.refl _) sb9) ?_ | refine bar_f hS ?_ | (refine dr9 hS ?_; intro w1 hS) | refine br_t (by assumption) ?_ | refine br_f (by assumption) ?_)
  refine br_i (fun h0 => ?_) (fun h0 => ?_)
  · have hk : k = 0 := by simpa using h0
    rw [if_pos hk]
    repeat ((conv => whnf); first | (apply q_i; focus (intro w1 hS; (conv => whnf); first | exact ⟨rfl, rfl⟩)) | (refine nw_f hS ?_; intro b w1 hS) | refine as_i hS ?_ | refine as_i (hS.subs (List.nil_sublist _) sb9) ?_ | refine as_i (hS.subs (List.Sublist.refl _) sb9) ?_ | refine bar_f hS ?_ | (refine dr9 hS ?_; intro w1 hS) | refine br_t (by assumption) ?_ | refine br_f (by assumption) ?_)
    refine fc_m (r16_c br s1 _ hS.ownF) ?_
    rintro v w2 ⟨rfl, hS'⟩
    replace hS := hS.callW hS'
    have hnl2 := numF_lt s1 2
    rw [show (256 : Int) ^ 2 = 65536 from by decide] at hnl2
    have hw16 : IntKind.u16.wrap (numF 0 (fixedR s1 2).1) = numF 0 (fixedR s1 (2 : Nat)).1 := by
      show IntKind.u16.wrap (numF 0 (fixedR s1 (2 : Nat)).1) = _
      rw [wrap_u16_mod, Int.emod_eq_of_lt hnl2.1 hnl2.2]
    replace hS : Sf [br] w w2 ([(br, rdO (fixedR s1 (2 : Nat)).2)] ++ []) [] := hS
    rw [hw16]
    generalize numF 0 (fixedR s1 (2 : Nat)).1 = sz at *
    generalize (fixedR s1 (2 : Nat)).2 = s2 at *
    subst hk
    have hwz : IntKind.i64.wrap sz = sz := wrap_i64 (by omega) (by omega)
    repeat ((conv => whnf); first | (apply q_i; focus (intro w1 hS; (conv => whnf); first | exact ⟨rfl, rfl⟩)) | (refine nw_f hS ?_; intro b w1 hS) | refine as_i hS ?_ | refine as_i (hS.subs (List.nil_sublist _) sb9) ?_ | refine as_i (hS.subs (List.Sublist.refl _) sb9) ?_ | refine bar_f hS ?_ | (refine dr9 hS ?_; intro w1 hS) | refine br_t (by assumption) ?_ | refine br_f (by assumption) ?_)
    refine fc_m (rerr_c br s2 _ hS.ownF) ?_
    rintro v w3 ⟨rfl, hS'⟩
    replace hS := hS.call0 hS'
    unfold tellR
    simp only
    repeat ((conv => whnf); first | (apply q_i; focus (intro w1 hS; (conv => whnf); first | exact ⟨rfl, rfl⟩)) | (refine nw_f hS ?_; intro b w1 hS) | refine as_i hS ?_ | refine as_i (hS.subs (List.nil_sublist _) sb9) ?_ | refine as_i (hS.subs (List.Sublist.refl _) sb9) ?_ | refine bar_f hS ?_ | (refine dr9 hS ?_; intro w1 hS) | refine br_t (by assumption) ?_ | refine br_f (by assumption) ?_)
    refine br_i (fun h1 => ?_) (fun h1 => ?_)
    · have he : s2.e ≠ 0 := by simpa using h1
      repeat ((conv => whnf); first | (apply q_i; focus (intro w1 hS; (conv => whnf); first | exact ⟨rfl, rfl⟩)) | (refine nw_f hS ?_; intro b w1 hS) | refine as_i hS ?_ | refine as_i (hS.subs (List.nil_sublist _) sb9) ?_ | refine as_i (hS.subs (List.Sublist.refl _) sb9) ?_ | refine bar_f hS ?_ | (refine dr9 hS ?_; intro w1 hS) | refine br_t (by assumption) ?_ | refine br_f (by assumption) ?_)
      refine fc_m (rerr_c br s2 _ hS.ownF) ?_
      rintro v w4 ⟨rfl, hS'⟩
      replace hS := hS.call0 hS'
      repeat ((conv => whnf); first | (apply q_i; focus (intro w1 hS; (conv => whnf); first | exact ⟨rfl, rfl⟩)) | (refine nw_f hS ?_; intro b w1 hS) | refine as_i hS ?_ | refine as_i (hS.subs (List.nil_sublist _) sb9) ?_ | refine as_i (hS.subs (List.Sublist.refl _) sb9) ?_ | refine bar_f hS ?_ | (refine dr9 hS ?_; intro w1 hS) | refine br_t (by assumption) ?_ | refine br_f (by assumption) ?_)
      rw [if_pos he]
      exact ⟨rfl, by simpa using hS.st⟩
    have he : ¬ s2.e ≠ 0 := by simpa using h1
    rw [if_neg he]
    repeat ((conv => whnf); first | (apply q_i; focus (intro w1 hS; (conv => whnf); first | exact ⟨rfl, rfl⟩)) | (refine nw_f hS ?_; intro b w1 hS) | refine as_i hS ?_ | refine as_i (hS.subs (List.nil_sublist _) sb9) ?_ | refine as_i (hS.subs (List.Sublist.refl _) sb9) ?_ | refine bar_f hS ?_ | (refine dr9 hS ?_; intro w1 hS) | refine br_t (by assumption) ?_ | refine br_f (by assumption) ?_)
    refine br_i (fun h2 => ?_) (fun h2 => ?_)
    · have h2' : 256 < sz := by rw [hwz] at h2; exact of_decide_eq_true h2
      repeat ((conv => whnf); first | (apply q_i; focus (intro w1 hS; (conv => whnf); first | exact ⟨rfl, rfl⟩)) | (refine nw_f hS ?_; intro b w1 hS) | refine as_i hS ?_ | refine as_i (hS.subs (List.nil_sublist _) sb9) ?_ | refine as_i (hS.subs (List.Sublist.refl _) sb9) ?_ | refine bar_f hS ?_ | (refine dr9 hS ?_; intro w1 hS) | refine br_t (by assumption) ?_ | refine br_f (by assumption) ?_)
      rw [if_pos (.inr h2')]
      exact ⟨rfl, by simpa using hS.st⟩
    · have h2' : ¬ 256 < sz := by rw [hwz] at h2; exact of_decide_eq_false h2
      repeat ((conv => whnf); first | (apply q_i; focus (intro w1 hS; (conv => whnf); first | exact ⟨rfl, rfl⟩)) | (refine nw_f hS ?_; intro b w1 hS) | refine as_i hS ?_ | refine as_i (hS.subs (List.nil_sublist _) sb9) ?_ | refine as_i (hS.subs (List.Sublist.refl _) sb9) ?_ | refine bar_f hS ?_ | (refine dr9 hS ?_; intro w1 hS) | refine br_t (by assumption) ?_ | refine br_f (by assumption) ?_)
      rw [if_neg (by omega)]
      refine ⟨?_, by simpa using hS.st⟩
      show Value.tuple #[.bool (0 == 1), .int .i64 (IntKind.i64.wrap sz), .int .i64 0] = _
      rw [hwz]
  · have hk : ¬ k = 0 := by simpa using h0
    rw [if_neg hk]
    repeat ((conv => whnf); first | (apply q_i; focus (intro w1 hS; (conv => whnf); first | exact ⟨rfl, rfl⟩)) | (refine nw_f hS ?_; intro b w1 hS) | refine as_i hS ?_ | refine as_i (hS.subs (List.nil_sublist _) sb9) ?_ | refine as_i (hS.subs (List.Sublist.refl _) sb9) ?_ | refine bar_f hS ?_ | (refine dr9 hS ?_; intro w1 hS) | refine br_t (by assumption) ?_ | refine br_f (by assumption) ?_)
    refine fc_m (rerr_c br s1 _ hS.ownF) ?_
    rintro v w3 ⟨rfl, hS'⟩
    replace hS := hS.call0 hS'
    unfold tellR
    simp only
    repeat ((conv => whnf); first | (apply q_i; focus (intro w1 hS; (conv => whnf); first | exact ⟨rfl, rfl⟩)) | (refine nw_f hS ?_; intro b w1 hS) | refine as_i hS ?_ | refine as_i (hS.subs (List.nil_sublist _) sb9) ?_ | refine as_i (hS.subs (List.Sublist.refl _) sb9) ?_ | refine bar_f hS ?_ | (refine dr9 hS ?_; intro w1 hS) | refine br_t (by assumption) ?_ | refine br_f (by assumption) ?_)
    refine br_i (fun h1 => ?_) (fun h1 => ?_)
    · have he : s1.e ≠ 0 := by simpa using h1
      repeat ((conv => whnf); first | (apply q_i; focus (intro w1 hS; (conv => whnf); first | exact ⟨rfl, rfl⟩)) | (refine nw_f hS ?_; intro b w1 hS) | refine as_i hS ?_ | refine as_i (hS.subs (List.nil_sublist _) sb9) ?_ | refine as_i (hS.subs (List.Sublist.refl _) sb9) ?_ | refine bar_f hS ?_ | (refine dr9 hS ?_; intro w1 hS) | refine br_t (by assumption) ?_ | refine br_f (by assumption) ?_)
      refine fc_m (rerr_c br s1 _ hS.ownF) ?_
      rintro v w4 ⟨rfl, hS'⟩
      replace hS := hS.call0 hS'
      repeat ((conv => whnf); first | (apply q_i; focus (intro w1 hS; (conv => whnf); first | exact ⟨rfl, rfl⟩)) | (refine nw_f hS ?_; intro b w1 hS) | refine as_i hS ?_ | refine as_i (hS.subs (List.nil_sublist _) sb9) ?_ | refine as_i (hS.subs (List.Sublist.refl _) sb9) ?_ | refine bar_f hS ?_ | (refine dr9 hS ?_; intro w1 hS) | refine br_t (by assumption) ?_ | refine br_f (by assumption) ?_)
      rw [if_pos he]
      exact ⟨rfl, by simpa using hS.st⟩
    have he : ¬ s1.e ≠ 0 := by simpa using h1
    rw [if_neg he]
    repeat ((conv => whnf); first | (apply q_i; focus (intro w1 hS; (conv => whnf); first | exact ⟨rfl, rfl⟩)) | (refine nw_f hS ?_; intro b w1 hS) | refine as_i hS ?_ | refine as_i (hS.subs (List.nil_sublist _) sb9) ?_ | refine as_i (hS.subs (List.Sublist.refl _) sb9) ?_ | refine bar_f hS ?_ | (refine dr9 hS ?_; intro w1 hS) | refine br_t (by assumption) ?_ | refine br_f (by assumption) ?_)
    refine br_i (fun h2 => ?_) (fun h2 => ?_)
    · have h2' : 1 < k := of_decide_eq_true h2
      repeat ((conv => whnf); first | (apply q_i; focus (intro w1 hS; (conv => whnf); first | exact ⟨rfl, rfl⟩)) | (refine nw_f hS ?_; intro b w1 hS) | refine as_i hS ?_ | refine as_i (hS.subs (List.nil_sublist _) sb9) ?_ | refine as_i (hS.subs (List.Sublist.refl _) sb9) ?_ | refine bar_f hS ?_ | (refine dr9 hS ?_; intro w1 hS) | refine br_t (by assumption) ?_ | refine br_f (by assumption) ?_)
      rw [if_pos (.inl h2')]
      exact ⟨rfl, by simpa using hS.st⟩
    · have h2' : ¬ 1 < k := of_decide_eq_false h2
      repeat ((conv => whnf); first | (apply q_i; focus (intro w1 hS; (conv => whnf); first | exact ⟨rfl, rfl⟩)) | (refine nw_f hS ?_; intro b w1 hS) | refine as_i hS ?_ | refine as_i (hS.subs (List.nil_sublist _) sb9) ?_ | refine as_i (hS.subs (List.Sublist.refl _) sb9) ?_ | refine bar_f hS ?_ | (refine dr9 hS ?_; intro w1 hS) | refine br_t (by assumption) ?_ | refine br_f (by assumption) ?_)
      rw [if_neg (by omega)]
      exact ⟨rfl, by simpa using hS.st⟩

theorem elU : ElemOk Tryz.prog TB 41 32 1 4 := ⟨rfl, ⟨_, _, inf32, rfl, rfl, rfl, rfl⟩, by decide⟩
def ridN (s : RS) : Nat → List Int × RS
  | 0 => ([], s)
  | k+1 => ((ridN s k).1 ++ [numF 0 (fixedR (ridN s k).2 (4 : Nat)).1], (fixedR (ridN s k).2 (4 : Nat)).2)
theorem ridN_len (s : RS) : ∀ k, (ridN s k).1.length = k
  | 0 => rfl
  | k+1 => by
    show ((ridN s k).1 ++ [_]).length = _
    rw [List.length_append, ridN_len s k]
    rfl
def valR (t : RS × Int × Int) : RS := if (tellR t).2.2 ≠ 0 then t.1 else (ridN t.1 (countI (tellR t).2.1).toNat).2
def takeV (t : RS × Int × Int) : (Bool × Int × List Int) × Int :=
  if (tellR t).2.2 ≠ 0 then ((false, 0, []), (tellR t).2.2) else
  if (valR t).e ≠ 0 then ((false, 0, []), (valR t).e) else
  if okVB (tellR t).1 (tellR t).2.1 (ridN t.1 (countI (tellR t).2.1).toNat).1 then (((tellR t).1, (tellR t).2.1, (ridN t.1 (countI (tellR t).2.1).toNat).1), 0) else ((false, 0, []), 4)
theorem tellR_sz (t : RS × Int × Int) (h : 0 ≤ t.2.2) : 0 ≤ (tellR t).2.1 ∧ (tellR t).2.1 ≤ 256 := by
  unfold tellR
  split
  · simp
  · split
    · simp
    · simp only; omega
theorem tellS_sz (s : RS) : 0 ≤ (tellS s).2.2 := by
  unfold tellS
  split
  · exact (numF_lt _ 2).1
  · simp
end Go.RV


set_option maxRecDepth 20000
set_option linter.unusedVariables false
set_option linter.unusedSimpArgs false
namespace Go.RV
open Go Go.Proofs

theorem takeVal_c (br : Nat) (s : RS) (w : World) (hS : St [br] w w [(br, rdO s)]) :
    Fc Tryz.prog 111 [.pointer (some ⟨br, 0, none⟩)] w fun v w' => ∃ A c Lv, Sl 32 1 (.slice A (takeV (tellS s)).1.2.2.length c) (takeV (tellS s)).1.2.2.length (flat encU (takeV (tellS s)).1.2.2) Lv ∧
      v = .tuple #[valV (takeV (tellS s)).1.1 (takeV (tellS s)).1.2.1 A (takeV (tellS s)).1.2.2.length c, .int .i64 (takeV (tellS s)).2] ∧ St [br] w w' ((br, rdO (valR (tellS s))) :: Lv) := by
  refine fc_i TB_ok Tryz.func111 rfl (by kernel_rfl) ?_
  have hS : Sf [br] w w ([(br, rdO s)] ++ []) [] := ⟨hS⟩
  repeat ((conv => whnf); first | (apply q_i; focus (intro w1 hS; (conv => whnf); first | exact ⟨rfl, rfl⟩ | ((first | refine ld_f hS 0 rfl rfl ?_ | refine ldA_f hS 0 rfl rfl ?_); (conv => whnf); exact ⟨rfl, rfl⟩))) | (refine nw_f hS ?_; intro b w1 hS) | refine as_i hS ?_ | refine as_i (hS.subs (List.nil_sublist _) sb9) ?_ | refine as_i (hS.subs (List.Sublist.refl _) sb9) ?_ | refine bar_f hS ?_ | refine ld_f hS 0 rfl rfl ?_ | refine ldA_f hS 0 rfl rfl ?_ | ((first | refine stN_f hS 0 rfl (lb9 rfl) rfl rfl ?_ | refine stM_f hS 0 rfl (lb9 rfl) rfl ?_); (conv => whnf); intro w1 hS) | (refine dr9 hS ?_; intro w1 hS) | refine br_t (by assumption) ?_ | refine br_f (by assumption) ?_)
  refine fc_m (tell_c br s _ hS.ownF) ?_
  rintro v w1 ⟨rfl, hS'⟩
  replace hS := hS.callW hS'
  have hsz := tellR_sz _ (tellS_sz s)
  generalize tellS s = t at *
  unfold takeV valR
  generalize tellR t = u at *
  obtain ⟨d, n, e⟩ := u
  simp only at hsz ⊢
  repeat ((conv => whnf); first | (apply q_i; focus (intro w1 hS; (conv => whnf); first | exact ⟨rfl, rfl⟩ | ((first | refine ld_f hS 0 rfl rfl ?_ | refine ldA_f hS 0 rfl rfl ?_); (conv => whnf); exact ⟨rfl, rfl⟩))) | (refine nw_f hS ?_; intro b w1 hS) | refine as_i hS ?_ | refine as_i (hS.subs (List.nil_sublist _) sb9) ?_ | refine as_i (hS.subs (List.Sublist.refl _) sb9) ?_ | refine bar_f hS ?_ | refine ld_f hS 0 rfl rfl ?_ | refine ldA_f hS 0 rfl rfl ?_ | ((first | refine stN_f hS 0 rfl (lb9 rfl) rfl rfl ?_ | refine stM_f hS 0 rfl (lb9 rfl) rfl ?_); (conv => whnf); intro w1 hS) | (refine dr9 hS ?_; intro w1 hS) | refine br_t (by assumption) ?_ | refine br_f (by assumption) ?_)
  refine br_i (fun h0 => ?_) (fun h0 => ?_)
  · have he : e ≠ 0 := by simpa using h0
    simp only [if_pos he]
    repeat ((conv => whnf); first | (apply q_i; focus (intro w1 hS; (conv => whnf); first | exact ⟨rfl, rfl⟩ | ((first | refine ld_f hS 0 rfl rfl ?_ | refine ldA_f hS 0 rfl rfl ?_); (conv => whnf); exact ⟨rfl, rfl⟩))) | (refine nw_f hS ?_; intro b w1 hS) | refine as_i hS ?_ | refine as_i (hS.subs (List.nil_sublist _) sb9) ?_ | refine as_i (hS.subs (List.Sublist.refl _) sb9) ?_ | refine bar_f hS ?_ | refine ld_f hS 0 rfl rfl ?_ | refine ldA_f hS 0 rfl rfl ?_ | ((first | refine stN_f hS 0 rfl (lb9 rfl) rfl rfl ?_ | refine stM_f hS 0 rfl (lb9 rfl) rfl ?_); (conv => whnf); intro w1 hS) | (refine dr9 hS ?_; intro w1 hS) | refine br_t (by assumption) ?_ | refine br_f (by assumption) ?_)
    exact ⟨none, 0, [], .nil, rfl, by simpa using hS.fr (List.Sublist.refl _)⟩
  have he : ¬ e ≠ 0 := by simpa using h0
  simp only [if_neg he]
  repeat ((conv => whnf); first | (apply q_i; focus (intro w1 hS; (conv => whnf); first | exact ⟨rfl, rfl⟩ | ((first | refine ld_f hS 0 rfl rfl ?_ | refine ldA_f hS 0 rfl rfl ?_); (conv => whnf); exact ⟨rfl, rfl⟩))) | (refine nw_f hS ?_; intro b w1 hS) | refine as_i hS ?_ | refine as_i (hS.subs (List.nil_sublist _) sb9) ?_ | refine as_i (hS.subs (List.Sublist.refl _) sb9) ?_ | refine bar_f hS ?_ | refine ld_f hS 0 rfl rfl ?_ | refine ldA_f hS 0 rfl rfl ?_ | ((first | refine stN_f hS 0 rfl (lb9 rfl) rfl rfl ?_ | refine stM_f hS 0 rfl (lb9 rfl) rfl ?_); (conv => whnf); intro w1 hS) | (refine dr9 hS ?_; intro w1 hS) | refine br_t (by assumption) ?_ | refine br_f (by assumption) ?_)
  refine fc_m (count_c n (by omega) _) ?_
  rintro v w2 ⟨rfl, hS'⟩
  replace hS := hS.call0 hS'
  have hcn : 0 ≤ countI n ∧ countI n ≤ 4 := by unfold countI; split <;> omega
  obtain ⟨m, hm⟩ : ∃ m : Nat, countI n = m := ⟨(countI n).toNat, by omega⟩
  rw [hm]
  simp only [Int.toNat_natCast]
  repeat ((conv => whnf); first | (apply q_i; focus (intro w1 hS; (conv => whnf); first | exact ⟨rfl, rfl⟩ | ((first | refine ld_f hS 0 rfl rfl ?_ | refine ld_f hS 1 rfl rfl ?_ | refine ldA_f hS 0 rfl rfl ?_ | refine ldA_f hS 1 rfl rfl ?_); (conv => whnf); exact ⟨rfl, rfl⟩))) | (refine nw_f hS ?_; intro b w1 hS) | refine as_i hS ?_ | refine as_i (hS.subs (List.nil_sublist _) sb9) ?_ | refine as_i (hS.subs (List.Sublist.refl _) sb9) ?_ | refine bar_f hS ?_ | refine ld_f hS 0 rfl rfl ?_ | refine ld_f hS 1 rfl rfl ?_ | refine ldA_f hS 0 rfl rfl ?_ | refine ldA_f hS 1 rfl rfl ?_ | ((first | refine stN_f hS 0 rfl (lb9 rfl) rfl rfl ?_ | refine stN_f hS 1 rfl (lb9 rfl) rfl rfl ?_ | refine stM_f hS 0 rfl (lb9 rfl) rfl ?_ | refine stM_f hS 1 rfl (lb9 rfl) rfl ?_); (conv => whnf); intro w1 hS) | (refine dr9 hS ?_; intro w1 hS) | refine br_t (by assumption) ?_ | refine br_f (by assumption) ?_)
  have hS : Sf [br] w _ ([(br, rdO t.1)] ++ ([] ++ [])) [_, _] := hS
  refine loop_i TB_ok (fun i : Nat => [(23, .int .i64 i)]) (fun i w' => i ≤ m ∧ ∃ A c Lv, Sl 32 1 (.slice A i c) i (flat encU (ridN t.1 i).1) Lv ∧ Sf [br] w w' ([(br, rdO (ridN t.1 i).2)] ++ (Lv ++ [])) [(_, .cells #[.bool d, .int .i64 n, .slice A i c] 43 (0, 0)), (_, .cells #[.bool false, .int .i64 0, .slice none 0 0] 43 (0, 0))]) (fun i => m - i) 0 rfl ⟨Nat.zero_le _, none, 0, [], .nil, hS⟩ ?_
  rintro i us w3 ⟨hi, A, c, Lv, hv, hS⟩
  (conv => whnf)
  refine br_i (fun hb => ?_) (fun hb => ?_)
  · have hlt : i < m := by have := of_decide_eq_true hb; omega
    repeat ((conv => whnf); first | (apply q_i; focus (intro w1 hS; (conv => whnf); first | exact ⟨rfl, rfl⟩ | ((first | refine ld_f hS 0 rfl rfl ?_ | refine ldA_f hS 0 rfl rfl ?_); (conv => whnf); exact ⟨rfl, rfl⟩))) | (refine nw_f hS ?_; intro b w1 hS) | refine as_i hS ?_ | refine as_i (hS.subs (List.nil_sublist _) sb9) ?_ | refine as_i (hS.subs (List.Sublist.refl _) sb9) ?_ | refine bar_f hS ?_ | refine ld_f hS 0 rfl rfl ?_ | refine ldA_f hS 0 rfl rfl ?_ | ((first | refine stN_f hS 0 rfl (lb9 rfl) rfl rfl ?_ | refine stM_f hS 0 rfl (lb9 rfl) rfl ?_); (conv => whnf); intro w1 hS) | refine br_t (by assumption) ?_ | refine br_f (by assumption) ?_)
    refine drawf (Ls := [_]) TB_ok rfl (by kernel_rfl) (by kernel_rfl) hS (List.nil_sublist _) (.cons_cons _ (.cons _ .slnil)) ?_; intro w1 hS
    repeat ((conv => whnf); first | (apply q_i; focus (intro w1 hS; (conv => whnf); first | exact ⟨rfl, rfl⟩ | ((first | refine ld_f hS 0 rfl rfl ?_ | refine ldA_f hS 0 rfl rfl ?_); (conv => whnf); exact ⟨rfl, rfl⟩))) | (refine nw_f hS ?_; intro b w1 hS) | refine as_i hS ?_ | refine as_i (hS.subs (List.nil_sublist _) sb9) ?_ | refine as_i (hS.subs (List.Sublist.refl _) sb9) ?_ | refine bar_f hS ?_ | refine ld_f hS 0 rfl rfl ?_ | refine ldA_f hS 0 rfl rfl ?_ | ((first | refine stN_f hS 0 rfl (lb9 rfl) rfl rfl ?_ | refine stM_f hS 0 rfl (lb9 rfl) rfl ?_); (conv => whnf); intro w1 hS) | (refine dr9 hS ?_; intro w1 hS) | refine br_t (by assumption) ?_ | refine br_f (by assumption) ?_)
    refine fc_m (r32_c br _ _ hS.ownF) ?_
    rintro v w4 ⟨rfl, hS'⟩
    replace hS := hS.callW hS'
    repeat ((conv => whnf); first | (apply q_i; focus (intro w1 hS; (conv => whnf); first | exact ⟨rfl, rfl⟩ | ((first | refine ld_f hS 0 rfl rfl ?_ | refine ldA_f hS 0 rfl rfl ?_); (conv => whnf); exact ⟨rfl, rfl⟩))) | (refine nw_f hS ?_; intro b w1 hS) | refine as_i hS ?_ | refine as_i (hS.subs (List.nil_sublist _) sb9) ?_ | refine as_i (hS.subs (List.Sublist.refl _) sb9) ?_ | refine bar_f hS ?_ | refine ld_f hS 0 rfl rfl ?_ | refine ldA_f hS 0 rfl rfl ?_ | ((first | refine stN_f hS 0 rfl (lb9 rfl) rfl rfl ?_ | refine stM_f hS 0 rfl (lb9 rfl) rfl ?_); (conv => whnf); intro w1 hS) | (refine dr9 hS ?_; intro w1 hS) | refine br_t (by assumption) ?_ | refine br_f (by assumption) ?_)
    replace hS := hS.rot
    refine app_f TB_ok elU hS hv (show Rd _ _ (flat encU [numF 0 (fixedR (ridN t.1 i).2 (4 : Nat)).1]) from hS.rd 0 rfl) rfl (fun y hy => ?_) (by omega) (by omega) ?_
    · simp [flat, encU] at hy
      subst hy
      rfl
    intro v' Lv' w6 hv' hS
    obtain ⟨A', c', rfl, hv'⟩ := hv'.open
    replace hS := hS.rot
    repeat ((conv => whnf); first | (apply q_i; focus (intro w1 hS; (conv => whnf); first | exact ⟨rfl, rfl⟩ | ((first | refine ld_f hS 0 rfl rfl ?_ | refine ld_f hS 1 rfl rfl ?_ | refine ldA_f hS 0 rfl rfl ?_ | refine ldA_f hS 1 rfl rfl ?_); (conv => whnf); exact ⟨rfl, rfl⟩))) | (refine nw_f hS ?_; intro b w1 hS) | refine as_i hS ?_ | refine as_i (hS.subs (List.nil_sublist _) sb9) ?_ | refine as_i (hS.subs (List.Sublist.refl _) sb9) ?_ | refine bar_f hS ?_ | refine ld_f hS 0 rfl rfl ?_ | refine ld_f hS 1 rfl rfl ?_ | refine ldA_f hS 0 rfl rfl ?_ | refine ldA_f hS 1 rfl rfl ?_ | ((first | refine stN_f hS 0 rfl (lb9 rfl) rfl rfl ?_ | refine stN_f hS 1 rfl (lb9 rfl) rfl rfl ?_ | refine stM_f hS 0 rfl (lb9 rfl) rfl ?_ | refine stM_f hS 1 rfl (lb9 rfl) rfl ?_); (conv => whnf); intro w1 hS) | (refine dr9 hS ?_; intro w1 hS) | refine br_t (by assumption) ?_ | refine br_f (by assumption) ?_)
    refine ⟨rfl, i + 1, ?_, ⟨by omega, A', c', Lv', ?_, hS.subs (List.Sublist.refl _) (.cons _ (.refl _))⟩, by omega⟩
    · rw [wi hlt (by omega)]
      rfl
    · show Sl _ 1 _ _ (flat encU ((ridN t.1 i).1 ++ [numF 0 (fixedR (ridN t.1 i).2 (4 : Nat)).1])) Lv'
      rw [flat_append]
      exact hv'
  · have hge : i = m := by have := of_decide_eq_false hb; omega
    subst hge
    have hlen := ridN_len t.1 i
    generalize hrd : ridN t.1 i = ri at *
    obtain ⟨ids, st⟩ := ri
    simp only at hv hS hlen ⊢
    subst hlen
    have zero : ∀ w', Sf [br] w w' ([(br, rdO st)] ++ (Lv ++ [])) [] → St [br] w w' ((br, rdO st) :: []) := fun w' h => by
      have := h.fr (List.sublist_append_left [(br, rdO st)] (Lv ++ []))
      simpa using this
    repeat ((conv => whnf); first | (apply q_i; focus (intro w1 hS; (conv => whnf); first | exact ⟨rfl, rfl⟩ | ((first | refine ld_f hS 0 rfl rfl ?_ | refine ld_f hS 1 rfl rfl ?_ | refine ldA_f hS 0 rfl rfl ?_ | refine ldA_f hS 1 rfl rfl ?_); (conv => whnf); exact ⟨rfl, rfl⟩))) | (refine nw_f hS ?_; intro b w1 hS) | refine as_i hS ?_ | refine as_i (hS.subs (List.nil_sublist _) sb9) ?_ | refine as_i (hS.subs (List.Sublist.refl _) sb9) ?_ | refine bar_f hS ?_ | refine ld_f hS 0 rfl rfl ?_ | refine ld_f hS 1 rfl rfl ?_ | refine ldA_f hS 0 rfl rfl ?_ | refine ldA_f hS 1 rfl rfl ?_ | ((first | refine stN_f hS 0 rfl (lb9 rfl) rfl rfl ?_ | refine stN_f hS 1 rfl (lb9 rfl) rfl rfl ?_ | refine stM_f hS 0 rfl (lb9 rfl) rfl ?_ | refine stM_f hS 1 rfl (lb9 rfl) rfl ?_); (conv => whnf); intro w1 hS) | (refine dr9 hS ?_; intro w1 hS) | refine br_t (by assumption) ?_ | refine br_f (by assumption) ?_)
    refine fc_m (rerr_c br st _ hS.ownF) ?_
    rintro v w5 ⟨rfl, hS'⟩
    replace hS := hS.call0 hS'
    repeat ((conv => whnf); first | (apply q_i; focus (intro w1 hS; (conv => whnf); first | exact ⟨rfl, rfl⟩ | ((first | refine ld_f hS 0 rfl rfl ?_ | refine ld_f hS 1 rfl rfl ?_ | refine ldA_f hS 0 rfl rfl ?_ | refine ldA_f hS 1 rfl rfl ?_); (conv => whnf); exact ⟨rfl, rfl⟩))) | (refine nw_f hS ?_; intro b w1 hS) | refine as_i hS ?_ | refine as_i (hS.subs (List.nil_sublist _) sb9) ?_ | refine as_i (hS.subs (List.Sublist.refl _) sb9) ?_ | refine bar_f hS ?_ | refine ld_f hS 0 rfl rfl ?_ | refine ld_f hS 1 rfl rfl ?_ | refine ldA_f hS 0 rfl rfl ?_ | refine ldA_f hS 1 rfl rfl ?_ | ((first | refine stN_f hS 0 rfl (lb9 rfl) rfl rfl ?_ | refine stN_f hS 1 rfl (lb9 rfl) rfl rfl ?_ | refine stM_f hS 0 rfl (lb9 rfl) rfl ?_ | refine stM_f hS 1 rfl (lb9 rfl) rfl ?_); (conv => whnf); intro w1 hS) | (refine dr9 hS ?_; intro w1 hS) | refine br_t (by assumption) ?_ | refine br_f (by assumption) ?_)
    refine br_i (fun h1 => ?_) (fun h1 => ?_)
    · have hse : ¬ st.e ≠ 0 := by simpa using h1
      simp only [if_neg hse]
      repeat ((conv => whnf); first | (apply q_i; focus (intro w1 hS; (conv => whnf); first | exact ⟨rfl, rfl⟩ | ((first | refine ld_f hS 0 rfl rfl ?_ | refine ld_f hS 1 rfl rfl ?_ | refine ldA_f hS 0 rfl rfl ?_ | refine ldA_f hS 1 rfl rfl ?_); (conv => whnf); exact ⟨rfl, rfl⟩))) | (refine nw_f hS ?_; intro b w1 hS) | refine as_i hS ?_ | refine as_i (hS.subs (List.nil_sublist _) sb9) ?_ | refine as_i (hS.subs (List.Sublist.refl _) sb9) ?_ | refine bar_f hS ?_ | refine ld_f hS 0 rfl rfl ?_ | refine ld_f hS 1 rfl rfl ?_ | refine ldA_f hS 0 rfl rfl ?_ | refine ldA_f hS 1 rfl rfl ?_ | ((first | refine stN_f hS 0 rfl (lb9 rfl) rfl rfl ?_ | refine stN_f hS 1 rfl (lb9 rfl) rfl rfl ?_ | refine stM_f hS 0 rfl (lb9 rfl) rfl ?_ | refine stM_f hS 1 rfl (lb9 rfl) rfl ?_); (conv => whnf); intro w1 hS) | (refine dr9 hS ?_; intro w1 hS) | refine br_t (by assumption) ?_ | refine br_f (by assumption) ?_)
      refine fc_m (check_c d n (by omega) A c ids _ (hv.rdF hS.rot) (by omega)) ?_
      rintro v w6 ⟨rfl, hS'⟩
      replace hS := hS.call0 hS'
      cases hok : okVB d n ids with
      | true =>
        repeat ((conv => whnf); first | (apply q_i; focus (intro w1 hS; (conv => whnf); first | exact ⟨rfl, rfl⟩ | ((first | refine ld_f hS 0 rfl rfl ?_ | refine ld_f hS 1 rfl rfl ?_ | refine ldA_f hS 0 rfl rfl ?_ | refine ldA_f hS 1 rfl rfl ?_); (conv => whnf); exact ⟨rfl, rfl⟩))) | (refine nw_f hS ?_; intro b w1 hS) | refine as_i hS ?_ | refine as_i (hS.subs (List.nil_sublist _) sb9) ?_ | refine as_i (hS.subs (List.Sublist.refl _) sb9) ?_ | refine bar_f hS ?_ | refine ld_f hS 0 rfl rfl ?_ | refine ld_f hS 1 rfl rfl ?_ | refine ldA_f hS 0 rfl rfl ?_ | refine ldA_f hS 1 rfl rfl ?_ | ((first | refine stN_f hS 0 rfl (lb9 rfl) rfl rfl ?_ | refine stN_f hS 1 rfl (lb9 rfl) rfl rfl ?_ | refine stM_f hS 0 rfl (lb9 rfl) rfl ?_ | refine stM_f hS 1 rfl (lb9 rfl) rfl ?_); (conv => whnf); intro w1 hS) | (refine dr9 hS ?_; intro w1 hS) | refine br_t (by assumption) ?_ | refine br_f (by assumption) ?_)
        exact ⟨A, c, Lv, hv, rfl, by simpa using hS.fr (List.Sublist.refl _)⟩
      | false =>
        repeat ((conv => whnf); first | (apply q_i; focus (intro w1 hS; (conv => whnf); first | exact ⟨rfl, rfl⟩ | ((first | refine ld_f hS 0 rfl rfl ?_ | refine ld_f hS 1 rfl rfl ?_ | refine ldA_f hS 0 rfl rfl ?_ | refine ldA_f hS 1 rfl rfl ?_); (conv => whnf); exact ⟨rfl, rfl⟩))) | (refine nw_f hS ?_; intro b w1 hS) | refine as_i hS ?_ | refine as_i (hS.subs (List.nil_sublist _) sb9) ?_ | refine as_i (hS.subs (List.Sublist.refl _) sb9) ?_ | refine bar_f hS ?_ | refine ld_f hS 0 rfl rfl ?_ | refine ld_f hS 1 rfl rfl ?_ | refine ldA_f hS 0 rfl rfl ?_ | refine ldA_f hS 1 rfl rfl ?_ | ((first | refine stN_f hS 0 rfl (lb9 rfl) rfl rfl ?_ | refine stN_f hS 1 rfl (lb9 rfl) rfl rfl ?_ | refine stM_f hS 0 rfl (lb9 rfl) rfl ?_ | refine stM_f hS 1 rfl (lb9 rfl) rfl ?_); (conv => whnf); intro w1 hS) | (refine dr9 hS ?_; intro w1 hS) | refine br_t (by assumption) ?_ | refine br_f (by assumption) ?_)
        exact ⟨none, 0, [], .nil, rfl, zero _ (hS.subs (List.Sublist.refl _) (List.nil_sublist _))⟩
    · have hse : st.e ≠ 0 := by simpa using h1
      simp only [if_pos hse]
      have hs2 : (st.e != 0) = true := by simpa using hse
      repeat ((conv => whnf); first | (apply q_i; focus (intro w1 hS; (conv => whnf); first | exact ⟨rfl, rfl⟩ | ((first | refine ld_f hS 0 rfl rfl ?_ | refine ld_f hS 1 rfl rfl ?_ | refine ldA_f hS 0 rfl rfl ?_ | refine ldA_f hS 1 rfl rfl ?_); (conv => whnf); exact ⟨rfl, rfl⟩))) | (refine nw_f hS ?_; intro b w1 hS) | refine as_i hS ?_ | refine as_i (hS.subs (List.nil_sublist _) sb9) ?_ | refine as_i (hS.subs (List.Sublist.refl _) sb9) ?_ | refine bar_f hS ?_ | refine ld_f hS 0 rfl rfl ?_ | refine ld_f hS 1 rfl rfl ?_ | refine ldA_f hS 0 rfl rfl ?_ | refine ldA_f hS 1 rfl rfl ?_ | ((first | refine stN_f hS 0 rfl (lb9 rfl) rfl rfl ?_ | refine stN_f hS 1 rfl (lb9 rfl) rfl rfl ?_ | refine stM_f hS 0 rfl (lb9 rfl) rfl ?_ | refine stM_f hS 1 rfl (lb9 rfl) rfl ?_); (conv => whnf); intro w1 hS) | (refine dr9 hS ?_; intro w1 hS) | refine br_t (by assumption) ?_ | refine br_f (by assumption) ?_)
      exact ⟨none, 0, [], .nil, rfl, zero _ (hS.subs (List.Sublist.refl _) (List.nil_sublist _))⟩
end Go.RV


set_option maxRecDepth 20000
set_option linter.unusedVariables false
set_option linter.unusedSimpArgs false
namespace Go.RV
open Go Go.Proofs

theorem headT_len (d : Bool) (n : Int) : (headT d n).length ≤ 3 := by
  unfold headT
  split
  · rw [be_len]; omega
  · rw [List.length_append, be_len, be_len]; omega
theorem streq_nil (s : List UInt8) : streq (strY s) ⟨#[]⟩ = s.isEmpty := by
  have := streq_strY s []
  rw [show strY [] = ⟨#[]⟩ from rfl] at this
  rw [this]
  cases s <;> simp
end Go.RV

set_option maxRecDepth 20000
set_option linter.unusedVariables false
set_option linter.unusedSimpArgs false
namespace Go.RV
open Go Go.Proofs

theorem okVB_dir {n : Int} {xs : List Int} (h : okVB true n xs = true) : n = 0 ∧ xs = [] := by
  simp only [okVB, Bool.true_and, Bool.and_eq_true, Bool.not_eq_true', Bool.or_eq_false_iff, decide_eq_false_iff_not, bne_eq_false_iff_eq] at h
  obtain ⟨⟨h1, h2⟩, _⟩ := h
  cases xs with
  | nil => exact ⟨h1, rfl⟩
  | cons a xs => simp at h2
theorem okVB_size {d : Bool} {n : Int} {xs : List Int} (h : okVB d n xs = true) : 0 ≤ n ∧ n ≤ 256 := by
  simp only [okVB, Bool.and_eq_true, Bool.not_eq_true', Bool.or_eq_false_iff, decide_eq_false_iff_not] at h
  omega
theorem rputV_c (d : Bool) (n : Int) (hn0 : -9223372036854775808 ≤ n) (hn : n ≤ 9223372036854775807) (A : Option Addr) (c : Nat) (xs : List Int) (hx : ∀ x ∈ xs, 0 ≤ x ∧ x ≤ 4294967295) (w : World) (hR : Rd w A (flat encU xs)) (hl : xs.length ≤ 4611686018427387904) :
    Fc Tryz.prog 90 [valV d n A xs.length c] w fun v w' => v = .tuple #[.string (if okVB d n xs then strY (valT d n xs) else ⟨#[]⟩), .int .i64 (if okVB d n xs then 0 else 4)] ∧ St [] w w' [] := by
  refine fc_i TB_ok Tryz.func90 rfl (by kernel_rfl) ?_
  have hS := Sf.refl w
  repeat ((conv => whnf); first | (apply q_i; focus (intro w1 hS; (conv => whnf); first | exact ⟨rfl, rfl⟩ | ((first | refine ld_f hS 0 rfl rfl ?_ | refine ldA_f hS 0 rfl rfl ?_); (conv => whnf); exact ⟨rfl, rfl⟩))) | (refine nw_f hS ?_; intro b w1 hS) | refine as_i hS ?_ | refine as_i (hS.subs (List.nil_sublist _) sb9) ?_ | refine as_i (hS.subs (List.Sublist.refl _) sb9) ?_ | refine bar_f hS ?_ | refine ld_f hS 0 rfl rfl ?_ | refine ldA_f hS 0 rfl rfl ?_ | ((first | refine stN_f hS 0 rfl (lb9 rfl) rfl rfl ?_ | refine stM_f hS 0 rfl (lb9 rfl) rfl ?_); (conv => whnf); intro w1 hS) | (refine dr9 hS ?_; intro w1 hS) | refine br_t (by assumption) ?_ | refine br_f (by assumption) ?_)
  refine fc_m (rmay_v d n hn0 hn A c xs _ (hR.below hS.nil) hl) ?_
  rintro v w1 ⟨rfl, hS'⟩
  replace hS := hS.call0 hS'
  cases hok : okVB d n xs with
  | false =>
    repeat ((conv => whnf); first | (apply q_i; focus (intro w1 hS; (conv => whnf); first | exact ⟨rfl, rfl⟩ | ((first | refine ld_f hS 0 rfl rfl ?_ | refine ldA_f hS 0 rfl rfl ?_); (conv => whnf); exact ⟨rfl, rfl⟩))) | (refine nw_f hS ?_; intro b w1 hS) | refine as_i hS ?_ | refine as_i (hS.subs (List.nil_sublist _) sb9) ?_ | refine as_i (hS.subs (List.Sublist.refl _) sb9) ?_ | refine bar_f hS ?_ | refine ld_f hS 0 rfl rfl ?_ | refine ldA_f hS 0 rfl rfl ?_ | ((first | refine stN_f hS 0 rfl (lb9 rfl) rfl rfl ?_ | refine stM_f hS 0 rfl (lb9 rfl) rfl ?_); (conv => whnf); intro w1 hS) | (refine dr9 hS ?_; intro w1 hS) | refine br_t (by assumption) ?_ | refine br_f (by assumption) ?_)
    exact ⟨rfl, hS.nil⟩
  | true =>
    have h4 := okVB_len hok
    have hnz := okVB_size hok
    cases d with
    | true =>
      obtain ⟨rfl, rfl⟩ := okVB_dir hok
      repeat ((conv => whnf); first | (apply q_i; focus (intro w1 hS; (conv => whnf); first | exact ⟨rfl, rfl⟩ | ((first | refine ld_f hS 0 rfl rfl ?_ | refine ldA_f hS 0 rfl rfl ?_); (conv => whnf); exact ⟨rfl, rfl⟩))) | (refine nw_f hS ?_; intro b w1 hS) | refine as_i hS ?_ | refine as_i (hS.subs (List.nil_sublist _) sb9) ?_ | refine as_i (hS.subs (List.Sublist.refl _) sb9) ?_ | refine bar_f hS ?_ | refine ld_f hS 0 rfl rfl ?_ | refine ldA_f hS 0 rfl rfl ?_ | ((first | refine stN_f hS 0 rfl (lb9 rfl) rfl rfl ?_ | refine stM_f hS 0 rfl (lb9 rfl) rfl ?_); (conv => whnf); intro w1 hS) | (refine dr9 hS ?_; intro w1 hS) | refine br_t (by assumption) ?_ | refine br_f (by assumption) ?_)
      exact ⟨rfl, hS.nil⟩
    | false =>
      have hw : IntKind.u32.wrap n = n := wrap_u32 hnz.1 (by omega)
      have hw16 : IntKind.u16.wrap n = n := by rw [wrap_u16_mod]; omega
      repeat ((conv => whnf); first | (apply q_i; focus (intro w1 hS; (conv => whnf); first | exact ⟨rfl, rfl⟩ | ((first | refine ld_f hS 0 rfl rfl ?_ | refine ldA_f hS 0 rfl rfl ?_); (conv => whnf); exact ⟨rfl, rfl⟩))) | (refine nw_f hS ?_; intro b w1 hS) | refine as_i hS ?_ | refine as_i (hS.subs (List.nil_sublist _) sb9) ?_ | refine as_i (hS.subs (List.Sublist.refl _) sb9) ?_ | refine bar_f hS ?_ | refine ld_f hS 0 rfl rfl ?_ | refine ldA_f hS 0 rfl rfl ?_ | ((first | refine stN_f hS 0 rfl (lb9 rfl) rfl rfl ?_ | refine stM_f hS 0 rfl (lb9 rfl) rfl ?_); (conv => whnf); intro w1 hS) | (refine dr9 hS ?_; intro w1 hS) | refine br_t (by assumption) ?_ | refine br_f (by assumption) ?_)
      refine fc_m (rfixed_c (IntKind.u32.wrap n) (by omega) (by omega) 2 (by decide) _) ?_
      rintro v w2 ⟨rfl, hS'⟩
      replace hS := hS.call0 hS'
      rw [hw]
      have hb0 : ([0] : List UInt8) = be 0 1 := by decide
      repeat ((conv => whnf); first | (apply q_i; focus (intro w1 hS; (conv => whnf); first | exact ⟨rfl, rfl⟩ | ((first | refine ld_f hS 0 rfl rfl ?_ | refine ldA_f hS 0 rfl rfl ?_); (conv => whnf); exact ⟨rfl, rfl⟩) | ((refine .mk (by show (strY [0]).size + (strY (be n 2)).size ≤ _; rw [strY_size, strY_size, be_len]; decide) ?_); (conv => whnf); exact ⟨rfl, rfl⟩))) | (refine nw_f hS ?_; intro b w1 hS) | refine as_i hS ?_ | refine as_i (hS.subs (List.nil_sublist _) sb9) ?_ | refine as_i (hS.subs (List.Sublist.refl _) sb9) ?_ | refine bar_f hS ?_ | refine ld_f hS 0 rfl rfl ?_ | refine ldA_f hS 0 rfl rfl ?_ | ((first | refine stN_f hS 0 rfl (lb9 rfl) rfl rfl ?_ | refine stM_f hS 0 rfl (lb9 rfl) rfl ?_); (conv => whnf); intro w1 hS) | (refine .mk (by show (strY [0]).size + (strY (be n 2)).size ≤ _; rw [strY_size, strY_size, be_len]; decide) ?_) | (refine dr9 hS ?_; intro w1 hS) | refine br_t (by assumption) ?_ | refine br_f (by assumption) ?_)
      have hs2 : strY [0] ++ strY (be n 2) = strY (headT false n ++ idsT (xs.take 0)) := by
        rw [strY_append, hb0]
        simp only [headT, hw16, idsT, hb0, List.take_zero, List.flatMap_nil, List.append_nil]
        rfl
      refine loop_i TB_ok (fun i : Nat => [(5, .int .i64 i), (4, .string (strY (headT false n ++ idsT (xs.take i))))]) (fun i w' => i ≤ xs.length ∧ Sf [] w w' [] [(_, .cells #[.bool false, .int .i64 n, .slice A xs.length c] 43 (0, 0))]) (fun i => xs.length - i) 0 (by rw [← hs2]; rfl) ⟨Nat.zero_le _, hS⟩ ?_
      rintro i us w3 ⟨hi, hS⟩
      repeat ((conv => whnf); first | (apply q_i; focus (intro w1 hS; (conv => whnf); first | exact ⟨rfl, rfl⟩ | ((first | refine ld_f hS 0 rfl rfl ?_ | refine ldA_f hS 0 rfl rfl ?_); (conv => whnf); exact ⟨rfl, rfl⟩))) | (refine nw_f hS ?_; intro b w1 hS) | refine as_i hS ?_ | refine as_i (hS.subs (List.nil_sublist _) sb9) ?_ | refine as_i (hS.subs (List.Sublist.refl _) sb9) ?_ | refine bar_f hS ?_ | refine ld_f hS 0 rfl rfl ?_ | refine ldA_f hS 0 rfl rfl ?_ | ((first | refine stN_f hS 0 rfl (lb9 rfl) rfl rfl ?_ | refine stM_f hS 0 rfl (lb9 rfl) rfl ?_); (conv => whnf); intro w1 hS) | (refine dr9 hS ?_; intro w1 hS) | refine br_t (by assumption) ?_ | refine br_f (by assumption) ?_)
      refine br_i (fun hb => ?_) (fun hb => ?_)
      · have hlt : i < xs.length := by have := of_decide_eq_true hb; omega
        have hxi := hx xs[i] (List.getElem_mem hlt)
        have hil := idsT_len (xs.take i)
        rw [List.length_take] at hil
        have hhl := headT_len false n
        have hsn := idsT_snoc xs hlt
        obtain ⟨bx, off, rfl⟩ := hR.form (flat_ne encU_len (by omega) hlt)
        repeat ((conv => whnf); first | (apply q_i; focus (intro w1 hS; (conv => whnf); first | exact ⟨rfl, rfl⟩ | ((first | refine ld_f hS 0 rfl rfl ?_ | refine ldA_f hS 0 rfl rfl ?_); (conv => whnf); exact ⟨rfl, rfl⟩) | ((refine .mk ⟨by omega, by omega⟩ ?_; refine ix_i rfl ?_); (conv => whnf); exact ⟨rfl, rfl⟩) | ((refine ld_el encU_len (hR.below hS.nil).at (i := i) (k := 0) hlt (by omega) rfl (v := .int .u32 xs[i]) rfl ?_); (conv => whnf); exact ⟨rfl, rfl⟩))) | (refine nw_f hS ?_; intro b w1 hS) | refine as_i hS ?_ | refine as_i (hS.subs (List.nil_sublist _) sb9) ?_ | refine as_i (hS.subs (List.Sublist.refl _) sb9) ?_ | refine bar_f hS ?_ | refine ld_f hS 0 rfl rfl ?_ | refine ldA_f hS 0 rfl rfl ?_ | ((first | refine stN_f hS 0 rfl (lb9 rfl) rfl rfl ?_ | refine stM_f hS 0 rfl (lb9 rfl) rfl ?_); (conv => whnf); intro w1 hS) | (refine .mk ⟨by omega, by omega⟩ ?_; refine ix_i rfl ?_) | refine ld_el encU_len (hR.below hS.nil).at (i := i) (k := 0) hlt (by omega) rfl (v := .int .u32 xs[i]) rfl ?_ | (refine dr9 hS ?_; intro w1 hS) | refine br_t (by assumption) ?_ | refine br_f (by assumption) ?_)
        refine fc_m (rfixed_c xs[i] hxi.1 hxi.2 4 (by decide) _) ?_
        rintro v w4 ⟨rfl, hS'⟩
        replace hS := hS.call0 hS'
        repeat ((conv => whnf); first | (apply q_i; focus (intro w1 hS; (conv => whnf); first | exact ⟨rfl, rfl⟩ | ((first | refine ld_f hS 0 rfl rfl ?_ | refine ldA_f hS 0 rfl rfl ?_); (conv => whnf); exact ⟨rfl, rfl⟩) | ((refine .mk (by show (strY _).size + (strY (be xs[i] 4)).size ≤ _; rw [strY_size, strY_size, be_len, List.length_append]; omega) ?_); (conv => whnf); exact ⟨rfl, rfl⟩))) | (refine nw_f hS ?_; intro b w1 hS) | refine as_i hS ?_ | refine as_i (hS.subs (List.nil_sublist _) sb9) ?_ | refine as_i (hS.subs (List.Sublist.refl _) sb9) ?_ | refine bar_f hS ?_ | refine ld_f hS 0 rfl rfl ?_ | refine ldA_f hS 0 rfl rfl ?_ | ((first | refine stN_f hS 0 rfl (lb9 rfl) rfl rfl ?_ | refine stM_f hS 0 rfl (lb9 rfl) rfl ?_); (conv => whnf); intro w1 hS) | (refine .mk (by show (strY _).size + (strY (be xs[i] 4)).size ≤ _; rw [strY_size, strY_size, be_len, List.length_append]; omega) ?_) | (refine dr9 hS ?_; intro w1 hS) | refine br_t (by assumption) ?_ | refine br_f (by assumption) ?_)
        refine ⟨rfl, i + 1, ?_, ⟨by omega, hS⟩, by omega⟩
        rw [wi hlt (by omega), hsn, ← List.append_assoc, strY_append]
        rfl
      · have hge : i = xs.length := by have := of_decide_eq_false hb; omega
        rw [hge, List.take_length]
        repeat ((conv => whnf); first | (apply q_i; focus (intro w1 hS; (conv => whnf); first | exact ⟨rfl, rfl⟩ | ((first | refine ld_f hS 0 rfl rfl ?_ | refine ldA_f hS 0 rfl rfl ?_); (conv => whnf); exact ⟨rfl, rfl⟩))) | (refine nw_f hS ?_; intro b w1 hS) | refine as_i hS ?_ | refine as_i (hS.subs (List.nil_sublist _) sb9) ?_ | refine as_i (hS.subs (List.Sublist.refl _) sb9) ?_ | refine bar_f hS ?_ | refine ld_f hS 0 rfl rfl ?_ | refine ldA_f hS 0 rfl rfl ?_ | ((first | refine stN_f hS 0 rfl (lb9 rfl) rfl rfl ?_ | refine stM_f hS 0 rfl (lb9 rfl) rfl ?_); (conv => whnf); intro w1 hS) | (refine dr9 hS ?_; intro w1 hS) | refine br_t (by assumption) ?_ | refine br_f (by assumption) ?_)
        exact ⟨rfl, hS.nil⟩

end Go.RV

set_option maxRecDepth 20000
set_option linter.unusedVariables false
set_option linter.unusedSimpArgs false
namespace Go.RV
open Go Go.Proofs

theorem fixedR_e {s : RS} {n : Int} (h : (fixedR s n).2.e ≠ 0) : (fixedR s n).1 = [] := by
  unfold fixedR at h ⊢
  split
  · rfl
  · split
    · rfl
    · rename_i h1 h2
      rw [if_neg h1, if_neg h2] at h
      simp at h1 h
      exact absurd h1.1 h
theorem rhead_c (b : Nat) (S : List UInt8) (s : RS) (L : LM) (hQ : QR b S s L) (hs : S.length ≤ 4611686018427387904) (w : World) (hS : St (keys L) w w L) :
    Fc Tryz.prog 113 [.pointer (some ⟨b, 0, none⟩)] w fun v w' => v = .tuple #[.bool (tellR (tellS s)).1, .int .i64 (tellR (tellS s)).2.1, .int .i64 (tellR (tellS s)).2.2] ∧ ∃ L', QR b S (tellS s).1 L' ∧ St (keys L) w w' L' := by
  obtain ⟨bq, hbq⟩ : ∃ x, x = b := ⟨b, rfl⟩
  subst hbq
  refine fc_i TB_ok Tryz.func113 rfl (by kernel_rfl) ?_
  have hS : Sf (keys L) w w (L ++ []) [] := ⟨by simpa using hS⟩
  repeat ((conv => whnf); first | (apply q_i; focus (intro w1 hS; (conv => whnf); first | exact ⟨rfl, rfl⟩)) | (refine nw_f hS ?_; intro b w1 hS) | refine as_i hS ?_ | refine as_i (hS.subs (List.nil_sublist _) sb9) ?_ | refine as_i (hS.subs (List.Sublist.refl _) sb9) ?_ | refine bar_f hS ?_ | (refine dr9 hS ?_; intro w1 hS) | refine br_t (by assumption) ?_ | refine br_f (by assumption) ?_)
  refine fc_m (qnumber_c bq S s L hQ hs 1 (by decide) _ hS.ownF) ?_
  rintro v w1 ⟨rfl, L1, hQ1, hS'⟩
  replace hS := hS.callW hS'
  have hnl := numF_lt s 1
  rw [show (256 : Int) ^ 1 = 256 from by decide] at hnl
  have hne := @fixedR_e s (1 : Nat)
  have ht : tellS s = if numF 0 (fixedR s (1 : Nat)).1 = 0 then ((fixedR (fixedR s (1 : Nat)).2 (2 : Nat)).2, 0, numF 0 (fixedR (fixedR s (1 : Nat)).2 (2 : Nat)).1) else ((fixedR s (1 : Nat)).2, numF 0 (fixedR s (1 : Nat)).1, 0) := rfl
  generalize fixedR s (1 : Nat) = z at *
  obtain ⟨ys, s1⟩ := z
  simp only at hnl hne hQ1 hS ht
  obtain ⟨a, rfl, ha, hr0, hr1⟩ := hQ1.out
  replace hS : Sf (keys L) w _ [] [(bq, .cells #[.string (strY S), .int .i64 a, .int .i64 s1.e] 86 (0, 0))] := ⟨by simpa [qdO] using hS.st⟩
  repeat ((conv => whnf); first | (apply q_i; focus (intro w1 hS; (conv => whnf); first | exact ⟨rfl, rfl⟩ | ((first | refine ld_f hS 0 rfl rfl ?_ | refine ldA_f hS 0 rfl rfl ?_); (conv => whnf); exact ⟨rfl, rfl⟩))) | (refine nw_f hS ?_; intro b w1 hS) | refine as_i hS ?_ | refine as_i (hS.subs (List.nil_sublist _) sb9) ?_ | refine as_i (hS.subs (List.Sublist.refl _) sb9) ?_ | refine bar_f hS ?_ | refine ld_f hS 0 rfl rfl ?_ | refine ldA_f hS 0 rfl rfl ?_ | ((first | refine stN_f hS 0 rfl (lb9 rfl) rfl rfl ?_ | refine stM_f hS 0 rfl (lb9 rfl) rfl ?_); (conv => whnf); intro w1 hS) | (refine dr9 hS ?_; intro w1 hS) | refine br_t (by assumption) ?_ | refine br_f (by assumption) ?_)
  refine br_i (fun h0 => ?_) (fun h0 => ?_)
  · have he : s1.e ≠ 0 := by simpa using h0
    have hys := hne he
    subst hys
    have h2 : fixedR s1 (2 : Nat) = ([], s1) := fixedR_err he _
    have ht' : tellS s = (s1, 0, 0) := by rw [ht, h2]; rfl
    have hr : tellR (s1, 0, 0) = (false, 0, s1.e) := by unfold tellR; rw [if_pos he]
    rw [ht', hr]
    repeat ((conv => whnf); first | (apply q_i; focus (intro w1 hS; (conv => whnf); first | exact ⟨rfl, rfl⟩ | ((first | refine ld_f hS 0 rfl rfl ?_ | refine ldA_f hS 0 rfl rfl ?_); (conv => whnf); exact ⟨rfl, rfl⟩))) | (refine nw_f hS ?_; intro b w1 hS) | refine as_i hS ?_ | refine as_i (hS.subs (List.nil_sublist _) sb9) ?_ | refine as_i (hS.subs (List.Sublist.refl _) sb9) ?_ | refine bar_f hS ?_ | refine ld_f hS 0 rfl rfl ?_ | refine ldA_f hS 0 rfl rfl ?_ | ((first | refine stN_f hS 0 rfl (lb9 rfl) rfl rfl ?_ | refine stM_f hS 0 rfl (lb9 rfl) rfl ?_); (conv => whnf); intro w1 hS) | (refine dr9 hS ?_; intro w1 hS) | refine br_t (by assumption) ?_ | refine br_f (by assumption) ?_)
    exact ⟨rfl, _, hQ1, hS.st⟩
  have he : ¬ s1.e ≠ 0 := by simpa using h0
  generalize numF 0 ys = k at *
  repeat ((conv => whnf); first | (apply q_i; focus (intro w1 hS; (conv => whnf); first | exact ⟨rfl, rfl⟩ | ((first | refine ld_f hS 0 rfl rfl ?_ | refine ldA_f hS 0 rfl rfl ?_); (conv => whnf); exact ⟨rfl, rfl⟩))) | (refine nw_f hS ?_; intro b w1 hS) | refine as_i hS ?_ | refine as_i (hS.subs (List.nil_sublist _) sb9) ?_ | refine as_i (hS.subs (List.Sublist.refl _) sb9) ?_ | refine bar_f hS ?_ | refine ld_f hS 0 rfl rfl ?_ | refine ldA_f hS 0 rfl rfl ?_ | ((first | refine stN_f hS 0 rfl (lb9 rfl) rfl rfl ?_ | refine stM_f hS 0 rfl (lb9 rfl) rfl ?_); (conv => whnf); intro w1 hS) | (refine dr9 hS ?_; intro w1 hS) | refine br_t (by assumption) ?_ | refine br_f (by assumption) ?_)
  refine br_i (fun h1 => ?_) (fun h1 => ?_)
  · have h1' : 1 < k := of_decide_eq_true h1
    rw [if_neg (by omega)] at ht
    have hr : tellR (s1, k, 0) = (false, 0, 4) := by unfold tellR; rw [if_neg he, if_pos (.inl h1')]
    rw [ht, hr]
    repeat ((conv => whnf); first | (apply q_i; focus (intro w1 hS; (conv => whnf); first | exact ⟨rfl, rfl⟩ | ((first | refine ld_f hS 0 rfl rfl ?_ | refine ldA_f hS 0 rfl rfl ?_); (conv => whnf); exact ⟨rfl, rfl⟩))) | (refine nw_f hS ?_; intro b w1 hS) | refine as_i hS ?_ | refine as_i (hS.subs (List.nil_sublist _) sb9) ?_ | refine as_i (hS.subs (List.Sublist.refl _) sb9) ?_ | refine bar_f hS ?_ | refine ld_f hS 0 rfl rfl ?_ | refine ldA_f hS 0 rfl rfl ?_ | ((first | refine stN_f hS 0 rfl (lb9 rfl) rfl rfl ?_ | refine stM_f hS 0 rfl (lb9 rfl) rfl ?_); (conv => whnf); intro w1 hS) | (refine dr9 hS ?_; intro w1 hS) | refine br_t (by assumption) ?_ | refine br_f (by assumption) ?_)
    exact ⟨rfl, _, hQ1, hS.st⟩
  have h1' : ¬ 1 < k := of_decide_eq_false h1
  repeat ((conv => whnf); first | (apply q_i; focus (intro w1 hS; (conv => whnf); first | exact ⟨rfl, rfl⟩ | ((first | refine ld_f hS 0 rfl rfl ?_ | refine ldA_f hS 0 rfl rfl ?_); (conv => whnf); exact ⟨rfl, rfl⟩))) | (refine nw_f hS ?_; intro b w1 hS) | refine as_i hS ?_ | refine as_i (hS.subs (List.nil_sublist _) sb9) ?_ | refine as_i (hS.subs (List.Sublist.refl _) sb9) ?_ | refine bar_f hS ?_ | refine ld_f hS 0 rfl rfl ?_ | refine ldA_f hS 0 rfl rfl ?_ | ((first | refine stN_f hS 0 rfl (lb9 rfl) rfl rfl ?_ | refine stM_f hS 0 rfl (lb9 rfl) rfl ?_); (conv => whnf); intro w1 hS) | (refine dr9 hS ?_; intro w1 hS) | refine br_t (by assumption) ?_ | refine br_f (by assumption) ?_)
  refine br_i (fun h2 => ?_) (fun h2 => ?_)
  · have h2' : k = 1 := by simpa using h2
    subst h2'
    rw [if_neg (by omega)] at ht
    have hr : tellR (s1, 1, 0) = (true, 0, 0) := by unfold tellR; rw [if_neg he, if_neg (by simp)]; rfl
    rw [ht, hr]
    repeat ((conv => whnf); first | (apply q_i; focus (intro w1 hS; (conv => whnf); first | exact ⟨rfl, rfl⟩ | ((first | refine ld_f hS 0 rfl rfl ?_ | refine ldA_f hS 0 rfl rfl ?_); (conv => whnf); exact ⟨rfl, rfl⟩))) | (refine nw_f hS ?_; intro b w1 hS) | refine as_i hS ?_ | refine as_i (hS.subs (List.nil_sublist _) sb9) ?_ | refine as_i (hS.subs (List.Sublist.refl _) sb9) ?_ | refine bar_f hS ?_ | refine ld_f hS 0 rfl rfl ?_ | refine ldA_f hS 0 rfl rfl ?_ | ((first | refine stN_f hS 0 rfl (lb9 rfl) rfl rfl ?_ | refine stM_f hS 0 rfl (lb9 rfl) rfl ?_); (conv => whnf); intro w1 hS) | (refine dr9 hS ?_; intro w1 hS) | refine br_t (by assumption) ?_ | refine br_f (by assumption) ?_)
    exact ⟨rfl, _, hQ1, hS.st⟩
  have h2' : ¬ k = 1 := by simpa using h2
  have hk : k = 0 := by omega
  subst hk
  rw [if_pos rfl] at ht
  replace hS : Sf (keys L) w _ ([(bq, qdO S a s1.e)] ++ []) [] := ⟨by simpa [qdO] using hS.st⟩
  repeat ((conv => whnf); first | (apply q_i; focus (intro w1 hS; (conv => whnf); first | exact ⟨rfl, rfl⟩)) | (refine nw_f hS ?_; intro b w1 hS) | refine as_i hS ?_ | refine as_i (hS.subs (List.nil_sublist _) sb9) ?_ | refine as_i (hS.subs (List.Sublist.refl _) sb9) ?_ | refine bar_f hS ?_ | (refine dr9 hS ?_; intro w1 hS) | refine br_t (by assumption) ?_ | refine br_f (by assumption) ?_)
  refine fc_m (qnumber_c bq S s1 _ hQ1 hs 2 (by decide) _ hS.ownF) ?_
  rintro v w2 ⟨rfl, L2, hQ2, hS'⟩
  replace hS := hS.callW hS'
  have hnl2 := numF_lt s1 2
  rw [show (256 : Int) ^ 2 = 65536 from by decide] at hnl2
  generalize fixedR s1 (2 : Nat) = z at *
  obtain ⟨zs, s2⟩ := z
  simp only at hnl2 hQ2 hS ht
  generalize numF 0 zs = sz at *
  have hwz : IntKind.i64.wrap sz = sz := wrap_i64 (by omega) (by omega)
  obtain ⟨a2, rfl, ha2, hr2, hr3⟩ := hQ2.out
  replace hS : Sf (keys L) w _ [] [(bq, .cells #[.string (strY S), .int .i64 a2, .int .i64 s2.e] 86 (0, 0))] := ⟨by simpa [qdO] using hS.st⟩
  rw [ht]
  repeat ((conv => whnf); first | (apply q_i; focus (intro w1 hS; (conv => whnf); first | exact ⟨rfl, rfl⟩ | ((first | refine ld_f hS 0 rfl rfl ?_ | refine ldA_f hS 0 rfl rfl ?_); (conv => whnf); exact ⟨rfl, rfl⟩))) | (refine nw_f hS ?_; intro b w1 hS) | refine as_i hS ?_ | refine as_i (hS.subs (List.nil_sublist _) sb9) ?_ | refine as_i (hS.subs (List.Sublist.refl _) sb9) ?_ | refine bar_f hS ?_ | refine ld_f hS 0 rfl rfl ?_ | refine ldA_f hS 0 rfl rfl ?_ | ((first | refine stN_f hS 0 rfl (lb9 rfl) rfl rfl ?_ | refine stM_f hS 0 rfl (lb9 rfl) rfl ?_); (conv => whnf); intro w1 hS) | (refine dr9 hS ?_; intro w1 hS) | refine br_t (by assumption) ?_ | refine br_f (by assumption) ?_)
  refine br_i (fun h3 => ?_) (fun h3 => ?_)
  · have he2 : s2.e ≠ 0 := by simpa using h3
    have hr : tellR (s2, 0, sz) = (false, 0, s2.e) := by unfold tellR; rw [if_pos he2]
    rw [hr]
    repeat ((conv => whnf); first | (apply q_i; focus (intro w1 hS; (conv => whnf); first | exact ⟨rfl, rfl⟩ | ((first | refine ld_f hS 0 rfl rfl ?_ | refine ldA_f hS 0 rfl rfl ?_); (conv => whnf); exact ⟨rfl, rfl⟩))) | (refine nw_f hS ?_; intro b w1 hS) | refine as_i hS ?_ | refine as_i (hS.subs (List.nil_sublist _) sb9) ?_ | refine as_i (hS.subs (List.Sublist.refl _) sb9) ?_ | refine bar_f hS ?_ | refine ld_f hS 0 rfl rfl ?_ | refine ldA_f hS 0 rfl rfl ?_ | ((first | refine stN_f hS 0 rfl (lb9 rfl) rfl rfl ?_ | refine stM_f hS 0 rfl (lb9 rfl) rfl ?_); (conv => whnf); intro w1 hS) | (refine dr9 hS ?_; intro w1 hS) | refine br_t (by assumption) ?_ | refine br_f (by assumption) ?_)
    exact ⟨rfl, _, hQ2, hS.st⟩
  have he2 : ¬ s2.e ≠ 0 := by simpa using h3
  repeat ((conv => whnf); first | (apply q_i; focus (intro w1 hS; (conv => whnf); first | exact ⟨rfl, rfl⟩ | ((first | refine ld_f hS 0 rfl rfl ?_ | refine ldA_f hS 0 rfl rfl ?_); (conv => whnf); exact ⟨rfl, rfl⟩))) | (refine nw_f hS ?_; intro b w1 hS) | refine as_i hS ?_ | refine as_i (hS.subs (List.nil_sublist _) sb9) ?_ | refine as_i (hS.subs (List.Sublist.refl _) sb9) ?_ | refine bar_f hS ?_ | refine ld_f hS 0 rfl rfl ?_ | refine ldA_f hS 0 rfl rfl ?_ | ((first | refine stN_f hS 0 rfl (lb9 rfl) rfl rfl ?_ | refine stM_f hS 0 rfl (lb9 rfl) rfl ?_); (conv => whnf); intro w1 hS) | (refine dr9 hS ?_; intro w1 hS) | refine br_t (by assumption) ?_ | refine br_f (by assumption) ?_)
  refine br_i (fun h4 => ?_) (fun h4 => ?_)
  · have h4' : 256 < sz := by rw [hwz] at h4; exact of_decide_eq_true h4
    have hr : tellR (s2, 0, sz) = (false, 0, 4) := by unfold tellR; rw [if_neg he2, if_pos (.inr h4')]
    rw [hr]
    repeat ((conv => whnf); first | (apply q_i; focus (intro w1 hS; (conv => whnf); first | exact ⟨rfl, rfl⟩ | ((first | refine ld_f hS 0 rfl rfl ?_ | refine ldA_f hS 0 rfl rfl ?_); (conv => whnf); exact ⟨rfl, rfl⟩))) | (refine nw_f hS ?_; intro b w1 hS) | refine as_i hS ?_ | refine as_i (hS.subs (List.nil_sublist _) sb9) ?_ | refine as_i (hS.subs (List.Sublist.refl _) sb9) ?_ | refine bar_f hS ?_ | refine ld_f hS 0 rfl rfl ?_ | refine ldA_f hS 0 rfl rfl ?_ | ((first | refine stN_f hS 0 rfl (lb9 rfl) rfl rfl ?_ | refine stM_f hS 0 rfl (lb9 rfl) rfl ?_); (conv => whnf); intro w1 hS) | (refine dr9 hS ?_; intro w1 hS) | refine br_t (by assumption) ?_ | refine br_f (by assumption) ?_)
    exact ⟨rfl, _, hQ2, hS.st⟩
  · have h4' : ¬ 256 < sz := by rw [hwz] at h4; exact of_decide_eq_false h4
    have hr : tellR (s2, 0, sz) = (false, sz, 0) := by unfold tellR; rw [if_neg he2, if_neg (by simp only; omega)]; rfl
    rw [hr]
    repeat ((conv => whnf); first | (apply q_i; focus (intro w1 hS; (conv => whnf); first | exact ⟨rfl, rfl⟩ | ((first | refine ld_f hS 0 rfl rfl ?_ | refine ldA_f hS 0 rfl rfl ?_); (conv => whnf); exact ⟨rfl, rfl⟩))) | (refine nw_f hS ?_; intro b w1 hS) | refine as_i hS ?_ | refine as_i (hS.subs (List.nil_sublist _) sb9) ?_ | refine as_i (hS.subs (List.Sublist.refl _) sb9) ?_ | refine bar_f hS ?_ | refine ld_f hS 0 rfl rfl ?_ | refine ldA_f hS 0 rfl rfl ?_ | ((first | refine stN_f hS 0 rfl (lb9 rfl) rfl rfl ?_ | refine stM_f hS 0 rfl (lb9 rfl) rfl ?_); (conv => whnf); intro w1 hS) | (refine dr9 hS ?_; intro w1 hS) | refine br_t (by assumption) ?_ | refine br_f (by assumption) ?_)
    refine ⟨?_, _, hQ2, hS.st⟩
    rw [hwz]

end Go.RV

set_option maxRecDepth 20000
set_option linter.unusedVariables false
set_option linter.unusedSimpArgs false
namespace Go.RV
open Go Go.Proofs

theorem countI_lt {n : Int} {j : Nat} (h : 64 * (j : Int) < n) : (j : Int) < countI n := by unfold countI; split <;> omega
theorem countI_ge {n : Int} {j : Nat} (h : n ≤ 64 * (j : Int)) : countI n ≤ (j : Int) := by unfold countI; split <;> omega
theorem rtakeV_c (b : Nat) (S : List UInt8) (s : RS) (L : LM) (hQ : QR b S s L) (hs : S.length ≤ 4611686018427387904) (w : World) (hS : St (keys L) w w L) :
    Fc Tryz.prog 88 [.pointer (some ⟨b, 0, none⟩)] w fun v w' => ∃ A c Lv, Sl 32 1 (.slice A (takeV (tellS s)).1.2.2.length c) (takeV (tellS s)).1.2.2.length (flat encU (takeV (tellS s)).1.2.2) Lv ∧
      v = .tuple #[valV (takeV (tellS s)).1.1 (takeV (tellS s)).1.2.1 A (takeV (tellS s)).1.2.2.length c, .int .i64 (takeV (tellS s)).2] ∧ ∃ L', QR b S (valR (tellS s)) L' ∧ St (keys L) w w' (L' ++ Lv) := by
  obtain ⟨bq, hbq⟩ : ∃ x, x = b := ⟨b, rfl⟩
  subst hbq
  refine fc_i TB_ok Tryz.func88 rfl (by kernel_rfl) ?_
  have hS : Sf (keys L) w w (L ++ []) [] := ⟨by simpa using hS⟩
  repeat ((conv => whnf); first | (apply q_i; focus (intro w1 hS; (conv => whnf); first | exact ⟨rfl, rfl⟩ | ((first | refine ld_f hS 0 rfl rfl ?_ | refine ldA_f hS 0 rfl rfl ?_); (conv => whnf); exact ⟨rfl, rfl⟩))) | (refine nw_f hS ?_; intro b w1 hS) | refine as_i hS ?_ | refine as_i (hS.subs (List.nil_sublist _) sb9) ?_ | refine as_i (hS.subs (List.Sublist.refl _) sb9) ?_ | refine bar_f hS ?_ | refine ld_f hS 0 rfl rfl ?_ | refine ldA_f hS 0 rfl rfl ?_ | ((first | refine stN_f hS 0 rfl (lb9 rfl) rfl rfl ?_ | refine stM_f hS 0 rfl (lb9 rfl) rfl ?_); (conv => whnf); intro w1 hS) | (refine dr9 hS ?_; intro w1 hS) | refine br_t (by assumption) ?_ | refine br_f (by assumption) ?_)
  refine fc_m (rhead_c bq S s L hQ hs _ hS.ownF) ?_
  rintro v w1 ⟨rfl, L1, hQ1, hS'⟩
  replace hS := hS.callW hS'
  have hsz := tellR_sz _ (tellS_sz s)
  generalize tellS s = t at *
  unfold takeV valR
  generalize tellR t = u at *
  obtain ⟨d, n, e⟩ := u
  simp only at hsz ⊢
  repeat ((conv => whnf); first | (apply q_i; focus (intro w1 hS; (conv => whnf); first | exact ⟨rfl, rfl⟩ | ((first | refine ld_f hS 0 rfl rfl ?_ | refine ldA_f hS 0 rfl rfl ?_); (conv => whnf); exact ⟨rfl, rfl⟩))) | (refine nw_f hS ?_; intro b w1 hS) | refine as_i hS ?_ | refine as_i (hS.subs (List.nil_sublist _) sb9) ?_ | refine as_i (hS.subs (List.Sublist.refl _) sb9) ?_ | refine bar_f hS ?_ | refine ld_f hS 0 rfl rfl ?_ | refine ldA_f hS 0 rfl rfl ?_ | ((first | refine stN_f hS 0 rfl (lb9 rfl) rfl rfl ?_ | refine stM_f hS 0 rfl (lb9 rfl) rfl ?_); (conv => whnf); intro w1 hS) | (refine dr9 hS ?_; intro w1 hS) | refine br_t (by assumption) ?_ | refine br_f (by assumption) ?_)
  refine br_i (fun h0 => ?_) (fun h0 => ?_)
  · have he : e ≠ 0 := by simpa using h0
    simp only [if_pos he]
    repeat ((conv => whnf); first | (apply q_i; focus (intro w1 hS; (conv => whnf); first | exact ⟨rfl, rfl⟩ | ((first | refine ld_f hS 0 rfl rfl ?_ | refine ldA_f hS 0 rfl rfl ?_); (conv => whnf); exact ⟨rfl, rfl⟩))) | (refine nw_f hS ?_; intro b w1 hS) | refine as_i hS ?_ | refine as_i (hS.subs (List.nil_sublist _) sb9) ?_ | refine as_i (hS.subs (List.Sublist.refl _) sb9) ?_ | refine bar_f hS ?_ | refine ld_f hS 0 rfl rfl ?_ | refine ldA_f hS 0 rfl rfl ?_ | ((first | refine stN_f hS 0 rfl (lb9 rfl) rfl rfl ?_ | refine stM_f hS 0 rfl (lb9 rfl) rfl ?_); (conv => whnf); intro w1 hS) | (refine dr9 hS ?_; intro w1 hS) | refine br_t (by assumption) ?_ | refine br_f (by assumption) ?_)
    exact ⟨none, 0, [], .nil, rfl, _, hQ1, by simpa using hS.fr (List.Sublist.refl _)⟩
  have he : ¬ e ≠ 0 := by simpa using h0
  simp only [if_neg he]
  have hcn : 0 ≤ countI n ∧ countI n ≤ 4 := by unfold countI; split <;> omega
  have hlt0 := @countI_lt n
  have hge0 := @countI_ge n
  obtain ⟨m, hm⟩ : ∃ m : Nat, countI n = m := ⟨(countI n).toNat, by omega⟩
  rw [hm] at hlt0 hge0 ⊢
  simp only [Int.toNat_natCast]
  repeat ((conv => whnf); first | (apply q_i; focus (intro w1 hS; (conv => whnf); first | exact ⟨rfl, rfl⟩ | ((first | refine ld_f hS 0 rfl rfl ?_ | refine ld_f hS 1 rfl rfl ?_ | refine ldA_f hS 0 rfl rfl ?_ | refine ldA_f hS 1 rfl rfl ?_); (conv => whnf); exact ⟨rfl, rfl⟩))) | (refine nw_f hS ?_; intro b w1 hS) | refine as_i hS ?_ | refine as_i (hS.subs (List.nil_sublist _) sb9) ?_ | refine as_i (hS.subs (List.Sublist.refl _) sb9) ?_ | refine bar_f hS ?_ | refine ld_f hS 0 rfl rfl ?_ | refine ld_f hS 1 rfl rfl ?_ | refine ldA_f hS 0 rfl rfl ?_ | refine ldA_f hS 1 rfl rfl ?_ | ((first | refine stN_f hS 0 rfl (lb9 rfl) rfl rfl ?_ | refine stN_f hS 1 rfl (lb9 rfl) rfl rfl ?_ | refine stM_f hS 0 rfl (lb9 rfl) rfl ?_ | refine stM_f hS 1 rfl (lb9 rfl) rfl ?_); (conv => whnf); intro w1 hS) | (refine dr9 hS ?_; intro w1 hS) | refine br_t (by assumption) ?_ | refine br_f (by assumption) ?_)
  have hS : Sf (keys L) w _ (L1 ++ ([] ++ [])) [_, _] := hS
  refine loop_i TB_ok (fun i : Nat => [(8, .int .i64 (64 * (i : Int)))]) (fun i w' => i ≤ m ∧ ∃ A c Lv L', Sl 32 1 (.slice A i c) i (flat encU (ridN t.1 i).1) Lv ∧ QR bq S (ridN t.1 i).2 L' ∧ Sf (keys L) w w' (L' ++ (Lv ++ [])) [(_, .cells #[.bool d, .int .i64 n, .slice A i c] 43 (0, 0)), (_, .cells #[.bool false, .int .i64 0, .slice none 0 0] 43 (0, 0))]) (fun i => m - i) 0 rfl ⟨Nat.zero_le _, none, 0, [], L1, .nil, hQ1, hS⟩ ?_
  rintro i us w3 ⟨hi, A, c, Lv, L2, hv, hQ2, hS⟩
  (conv => whnf)
  refine br_i (fun hb => ?_) (fun hb => ?_)
  · have hlt : i < m := by have := hlt0 (of_decide_eq_true hb); omega
    repeat ((conv => whnf); first | (apply q_i; focus (intro w1 hS; (conv => whnf); first | exact ⟨rfl, rfl⟩ | ((first | refine ld_f hS 0 rfl rfl ?_ | refine ldA_f hS 0 rfl rfl ?_); (conv => whnf); exact ⟨rfl, rfl⟩))) | (refine nw_f hS ?_; intro b w1 hS) | refine as_i hS ?_ | refine as_i (hS.subs (List.nil_sublist _) sb9) ?_ | refine as_i (hS.subs (List.Sublist.refl _) sb9) ?_ | refine bar_f hS ?_ | refine ld_f hS 0 rfl rfl ?_ | refine ldA_f hS 0 rfl rfl ?_ | ((first | refine stN_f hS 0 rfl (lb9 rfl) rfl rfl ?_ | refine stM_f hS 0 rfl (lb9 rfl) rfl ?_); (conv => whnf); intro w1 hS) | (refine dr9 hS ?_; intro w1 hS) | refine br_t (by assumption) ?_ | refine br_f (by assumption) ?_)
    refine fc_m (qnumber_c bq S _ _ hQ2 hs 4 (by decide) _ hS.ownF) ?_
    rintro v w4 ⟨rfl, L3, hQ3, hS'⟩
    replace hS := hS.callW hS'
    repeat ((conv => whnf); first | (apply q_i; focus (intro w1 hS; (conv => whnf); first | exact ⟨rfl, rfl⟩ | ((first | refine ld_f hS 0 rfl rfl ?_ | refine ldA_f hS 0 rfl rfl ?_); (conv => whnf); exact ⟨rfl, rfl⟩))) | (refine nw_f hS ?_; intro b w1 hS) | refine as_i hS ?_ | refine as_i (hS.subs (List.nil_sublist _) sb9) ?_ | refine as_i (hS.subs (List.Sublist.refl _) sb9) ?_ | refine bar_f hS ?_ | refine ld_f hS 0 rfl rfl ?_ | refine ldA_f hS 0 rfl rfl ?_ | ((first | refine stN_f hS 0 rfl (lb9 rfl) rfl rfl ?_ | refine stM_f hS 0 rfl (lb9 rfl) rfl ?_); (conv => whnf); intro w1 hS) | (refine dr9 hS ?_; intro w1 hS) | refine br_t (by assumption) ?_ | refine br_f (by assumption) ?_)
    replace hS := hS.rot
    refine app_f TB_ok elU hS hv (show Rd _ _ (flat encU [numF 0 (fixedR (ridN t.1 i).2 (4 : Nat)).1]) from hS.rd 0 rfl) rfl (fun y hy => ?_) (by omega) (by omega) ?_
    · simp [flat, encU] at hy
      subst hy
      rfl
    intro v' Lv' w6 hv' hS
    obtain ⟨A', c', rfl, hv'⟩ := hv'.open
    replace hS := hS.rot
    repeat ((conv => whnf); first | (apply q_i; focus (intro w1 hS; (conv => whnf); first | exact ⟨rfl, rfl⟩ | ((first | refine ld_f hS 0 rfl rfl ?_ | refine ld_f hS 1 rfl rfl ?_ | refine ldA_f hS 0 rfl rfl ?_ | refine ldA_f hS 1 rfl rfl ?_); (conv => whnf); exact ⟨rfl, rfl⟩))) | (refine nw_f hS ?_; intro b w1 hS) | refine as_i hS ?_ | refine as_i (hS.subs (List.nil_sublist _) sb9) ?_ | refine as_i (hS.subs (List.Sublist.refl _) sb9) ?_ | refine bar_f hS ?_ | refine ld_f hS 0 rfl rfl ?_ | refine ld_f hS 1 rfl rfl ?_ | refine ldA_f hS 0 rfl rfl ?_ | refine ldA_f hS 1 rfl rfl ?_ | ((first | refine stN_f hS 0 rfl (lb9 rfl) rfl rfl ?_ | refine stN_f hS 1 rfl (lb9 rfl) rfl rfl ?_ | refine stM_f hS 0 rfl (lb9 rfl) rfl ?_ | refine stM_f hS 1 rfl (lb9 rfl) rfl ?_); (conv => whnf); intro w1 hS) | (refine dr9 hS ?_; intro w1 hS) | refine br_t (by assumption) ?_ | refine br_f (by assumption) ?_)
    refine ⟨rfl, i + 1, ?_, ⟨by omega, A', c', Lv', L3, ?_, hQ3, hS.subs (List.Sublist.refl _) (.cons _ (.refl _))⟩, by omega⟩
    · rw [wrap_i64 (by omega) (by omega), show (64 * (i : Int) + 64) = 64 * ((i + 1 : Nat) : Int) by omega]
      rfl
    · show Sl _ 1 _ _ (flat encU ((ridN t.1 i).1 ++ [numF 0 (fixedR (ridN t.1 i).2 (4 : Nat)).1])) Lv'
      rw [flat_append]
      exact hv'
  · have hge : i = m := by have := hge0 (Int.not_lt.1 (of_decide_eq_false hb)); omega
    subst hge
    have hlen := ridN_len t.1 i
    generalize hrd : ridN t.1 i = ri at *
    obtain ⟨ids, st⟩ := ri
    simp only at hv hQ2 hS hlen ⊢
    subst hlen
    obtain ⟨a2, rfl, ha2, hr2, hr3⟩ := hQ2.out
    have zero : ∀ w', Sf (keys L) w w' (Lv ++ []) [(bq, .cells #[.string (strY S), .int .i64 a2, .int .i64 st.e] 86 (0, 0))] → St (keys L) w w' ([(bq, qdO S a2 st.e)] ++ []) := fun w' h => by
      simpa [qdO] using h.sub (List.Sublist.refl _)
    have some : ∀ w', Sf (keys L) w w' (Lv ++ []) [(bq, .cells #[.string (strY S), .int .i64 a2, .int .i64 st.e] 86 (0, 0))] → St (keys L) w w' ([(bq, qdO S a2 st.e)] ++ Lv) := fun w' h => by
      have := (h.put.swap).fr (List.Sublist.refl _)
      simpa [qdO] using this
    replace hS : Sf (keys L) w _ (Lv ++ []) [(bq, .cells #[.string (strY S), .int .i64 a2, .int .i64 st.e] 86 (0, 0)), _, _] := ⟨by
      have h := hS.rot.st
      simpa [qdO] using h⟩
    repeat ((conv => whnf); first | (apply q_i; focus (intro w1 hS; (conv => whnf); first | exact ⟨rfl, rfl⟩ | ((first | refine ld_f hS 0 rfl rfl ?_ | refine ld_f hS 1 rfl rfl ?_ | refine ld_f hS 2 rfl rfl ?_ | refine ldA_f hS 0 rfl rfl ?_ | refine ldA_f hS 1 rfl rfl ?_ | refine ldA_f hS 2 rfl rfl ?_); (conv => whnf); exact ⟨rfl, rfl⟩))) | (refine nw_f hS ?_; intro b w1 hS) | refine as_i hS ?_ | refine as_i (hS.subs (List.nil_sublist _) sb9) ?_ | refine as_i (hS.subs (List.Sublist.refl _) sb9) ?_ | refine bar_f hS ?_ | refine ld_f hS 0 rfl rfl ?_ | refine ld_f hS 1 rfl rfl ?_ | refine ld_f hS 2 rfl rfl ?_ | refine ldA_f hS 0 rfl rfl ?_ | refine ldA_f hS 1 rfl rfl ?_ | refine ldA_f hS 2 rfl rfl ?_ | ((first | refine stN_f hS 0 rfl (lb9 rfl) rfl rfl ?_ | refine stN_f hS 1 rfl (lb9 rfl) rfl rfl ?_ | refine stN_f hS 2 rfl (lb9 rfl) rfl rfl ?_ | refine stM_f hS 0 rfl (lb9 rfl) rfl ?_ | refine stM_f hS 1 rfl (lb9 rfl) rfl ?_ | refine stM_f hS 2 rfl (lb9 rfl) rfl ?_); (conv => whnf); intro w1 hS) | (refine dr9 hS ?_; intro w1 hS) | refine br_t (by assumption) ?_ | refine br_f (by assumption) ?_)
    refine br_i (fun h1 => ?_) (fun h1 => ?_)
    · have hse : st.e ≠ 0 := by simpa using h1
      simp only [if_pos hse]
      repeat ((conv => whnf); first | (apply q_i; focus (intro w1 hS; (conv => whnf); first | exact ⟨rfl, rfl⟩ | ((first | refine ld_f hS 0 rfl rfl ?_ | refine ld_f hS 1 rfl rfl ?_ | refine ld_f hS 2 rfl rfl ?_ | refine ldA_f hS 0 rfl rfl ?_ | refine ldA_f hS 1 rfl rfl ?_ | refine ldA_f hS 2 rfl rfl ?_); (conv => whnf); exact ⟨rfl, rfl⟩))) | (refine nw_f hS ?_; intro b w1 hS) | refine as_i hS ?_ | refine as_i (hS.subs (List.nil_sublist _) sb9) ?_ | refine as_i (hS.subs (List.Sublist.refl _) sb9) ?_ | refine bar_f hS ?_ | refine ld_f hS 0 rfl rfl ?_ | refine ld_f hS 1 rfl rfl ?_ | refine ld_f hS 2 rfl rfl ?_ | refine ldA_f hS 0 rfl rfl ?_ | refine ldA_f hS 1 rfl rfl ?_ | refine ldA_f hS 2 rfl rfl ?_ | ((first | refine stN_f hS 0 rfl (lb9 rfl) rfl rfl ?_ | refine stN_f hS 1 rfl (lb9 rfl) rfl rfl ?_ | refine stN_f hS 2 rfl (lb9 rfl) rfl rfl ?_ | refine stM_f hS 0 rfl (lb9 rfl) rfl ?_ | refine stM_f hS 1 rfl (lb9 rfl) rfl ?_ | refine stM_f hS 2 rfl (lb9 rfl) rfl ?_); (conv => whnf); intro w1 hS) | refine br_t (by assumption) ?_ | refine br_f (by assumption) ?_)
      refine drawf (Ls := [_]) TB_ok rfl (by kernel_rfl) (by kernel_rfl) hS (List.nil_sublist _) (.cons_cons _ (.cons _ (.cons _ .slnil))) ?_; intro w1 hS
      repeat' ((conv => whnf); first | refine And.intro ?_ ?_ | (apply q_i; focus (intro w1 hS; (conv => whnf); first | exact ⟨rfl, rfl⟩ | ((first | refine ld_f hS 0 rfl rfl ?_ | refine ld_f hS 1 rfl rfl ?_ | refine ld_f hS 2 rfl rfl ?_ | refine ldA_f hS 0 rfl rfl ?_ | refine ldA_f hS 1 rfl rfl ?_ | refine ldA_f hS 2 rfl rfl ?_); (conv => whnf); exact ⟨rfl, rfl⟩))) | (refine nw_f hS ?_; intro b w1 hS) | refine as_i hS ?_ | refine as_i (hS.subs (List.nil_sublist _) sb9) ?_ | refine as_i (hS.subs (List.Sublist.refl _) sb9) ?_ | refine bar_f hS ?_ | refine ld_f hS 0 rfl rfl ?_ | refine ld_f hS 1 rfl rfl ?_ | refine ld_f hS 2 rfl rfl ?_ | refine ldA_f hS 0 rfl rfl ?_ | refine ldA_f hS 1 rfl rfl ?_ | refine ldA_f hS 2 rfl rfl ?_ | ((first | refine stN_f hS 0 rfl (lb9 rfl) rfl rfl ?_ | refine stN_f hS 1 rfl (lb9 rfl) rfl rfl ?_ | refine stN_f hS 2 rfl (lb9 rfl) rfl rfl ?_ | refine stM_f hS 0 rfl (lb9 rfl) rfl ?_ | refine stM_f hS 1 rfl (lb9 rfl) rfl ?_ | refine stM_f hS 2 rfl (lb9 rfl) rfl ?_); (conv => whnf); intro w1 hS) | (refine dr9 hS ?_; intro w1 hS) | refine br_t (by assumption) ?_ | refine br_f (by assumption) ?_)
      all_goals exact ⟨none, 0, [], .nil, rfl, _, hQ2, zero _ (hS.subs (List.Sublist.refl _) (.cons_cons _ (.cons _ (.cons _ .slnil))))⟩
    · have hse : ¬ st.e ≠ 0 := by simpa using h1
      simp only [if_neg hse]
      repeat ((conv => whnf); first | (apply q_i; focus (intro w1 hS; (conv => whnf); first | exact ⟨rfl, rfl⟩ | ((first | refine ld_f hS 0 rfl rfl ?_ | refine ld_f hS 1 rfl rfl ?_ | refine ld_f hS 2 rfl rfl ?_ | refine ldA_f hS 0 rfl rfl ?_ | refine ldA_f hS 1 rfl rfl ?_ | refine ldA_f hS 2 rfl rfl ?_); (conv => whnf); exact ⟨rfl, rfl⟩))) | (refine nw_f hS ?_; intro b w1 hS) | refine as_i hS ?_ | refine as_i (hS.subs (List.nil_sublist _) sb9) ?_ | refine as_i (hS.subs (List.Sublist.refl _) sb9) ?_ | refine bar_f hS ?_ | refine ld_f hS 0 rfl rfl ?_ | refine ld_f hS 1 rfl rfl ?_ | refine ld_f hS 2 rfl rfl ?_ | refine ldA_f hS 0 rfl rfl ?_ | refine ldA_f hS 1 rfl rfl ?_ | refine ldA_f hS 2 rfl rfl ?_ | ((first | refine stN_f hS 0 rfl (lb9 rfl) rfl rfl ?_ | refine stN_f hS 1 rfl (lb9 rfl) rfl rfl ?_ | refine stN_f hS 2 rfl (lb9 rfl) rfl rfl ?_ | refine stM_f hS 0 rfl (lb9 rfl) rfl ?_ | refine stM_f hS 1 rfl (lb9 rfl) rfl ?_ | refine stM_f hS 2 rfl (lb9 rfl) rfl ?_); (conv => whnf); intro w1 hS) | (refine dr9 hS ?_; intro w1 hS) | refine br_t (by assumption) ?_ | refine br_f (by assumption) ?_)
      refine fc_m (rmay_v d n (by omega) (by omega) A c ids _ (hv.rdF hS) (by omega)) ?_
      rintro v w6 ⟨rfl, hS'⟩
      replace hS := hS.call0 hS'
      cases hok : okVB d n ids with
      | true =>
        repeat ((conv => whnf); first | (apply q_i; focus (intro w1 hS; (conv => whnf); first | exact ⟨rfl, rfl⟩ | ((first | refine ld_f hS 0 rfl rfl ?_ | refine ld_f hS 1 rfl rfl ?_ | refine ld_f hS 2 rfl rfl ?_ | refine ldA_f hS 0 rfl rfl ?_ | refine ldA_f hS 1 rfl rfl ?_ | refine ldA_f hS 2 rfl rfl ?_); (conv => whnf); exact ⟨rfl, rfl⟩))) | (refine nw_f hS ?_; intro b w1 hS) | refine as_i hS ?_ | refine as_i (hS.subs (List.nil_sublist _) sb9) ?_ | refine as_i (hS.subs (List.Sublist.refl _) sb9) ?_ | refine bar_f hS ?_ | refine ld_f hS 0 rfl rfl ?_ | refine ld_f hS 1 rfl rfl ?_ | refine ld_f hS 2 rfl rfl ?_ | refine ldA_f hS 0 rfl rfl ?_ | refine ldA_f hS 1 rfl rfl ?_ | refine ldA_f hS 2 rfl rfl ?_ | ((first | refine stN_f hS 0 rfl (lb9 rfl) rfl rfl ?_ | refine stN_f hS 1 rfl (lb9 rfl) rfl rfl ?_ | refine stN_f hS 2 rfl (lb9 rfl) rfl rfl ?_ | refine stM_f hS 0 rfl (lb9 rfl) rfl ?_ | refine stM_f hS 1 rfl (lb9 rfl) rfl ?_ | refine stM_f hS 2 rfl (lb9 rfl) rfl ?_); (conv => whnf); intro w1 hS) | (refine dr9 hS ?_; intro w1 hS) | refine br_t (by assumption) ?_ | refine br_f (by assumption) ?_)
        exact ⟨A, c, Lv, hv, rfl, _, hQ2, some _ (hS.subs (List.Sublist.refl _) (.cons_cons _ (.cons _ (.cons _ .slnil))))⟩
      | false =>
        repeat ((conv => whnf); first | (apply q_i; focus (intro w1 hS; (conv => whnf); first | exact ⟨rfl, rfl⟩ | ((first | refine ld_f hS 0 rfl rfl ?_ | refine ld_f hS 1 rfl rfl ?_ | refine ld_f hS 2 rfl rfl ?_ | refine ldA_f hS 0 rfl rfl ?_ | refine ldA_f hS 1 rfl rfl ?_ | refine ldA_f hS 2 rfl rfl ?_); (conv => whnf); exact ⟨rfl, rfl⟩))) | (refine nw_f hS ?_; intro b w1 hS) | refine as_i hS ?_ | refine as_i (hS.subs (List.nil_sublist _) sb9) ?_ | refine as_i (hS.subs (List.Sublist.refl _) sb9) ?_ | refine bar_f hS ?_ | refine ld_f hS 0 rfl rfl ?_ | refine ld_f hS 1 rfl rfl ?_ | refine ld_f hS 2 rfl rfl ?_ | refine ldA_f hS 0 rfl rfl ?_ | refine ldA_f hS 1 rfl rfl ?_ | refine ldA_f hS 2 rfl rfl ?_ | ((first | refine stN_f hS 0 rfl (lb9 rfl) rfl rfl ?_ | refine stN_f hS 1 rfl (lb9 rfl) rfl rfl ?_ | refine stN_f hS 2 rfl (lb9 rfl) rfl rfl ?_ | refine stM_f hS 0 rfl (lb9 rfl) rfl ?_ | refine stM_f hS 1 rfl (lb9 rfl) rfl ?_ | refine stM_f hS 2 rfl (lb9 rfl) rfl ?_); (conv => whnf); intro w1 hS) | (refine dr9 hS ?_; intro w1 hS) | refine br_t (by assumption) ?_ | refine br_f (by assumption) ?_)
        exact ⟨none, 0, [], .nil, rfl, _, hQ2, zero _ (hS.subs (List.Sublist.refl _) (.cons_cons _ (.cons _ (.cons _ .slnil))))⟩
end Go.RV

set_option linter.unusedVariables false
set_option linter.unusedSimpArgs false
namespace Go.RV
open Go Go.RowKit

def vecF (f : Nat → Int) : List Value := [.int .u32 (f 0), .int .u32 (f 1), .int .u32 (f 2), .int .u32 (f 3), .int .u32 (f 4), .int .u32 (f 5), .int .u32 (f 6), .int .u32 (f 7)]
def upd (f : Nat → Int) (i : Nat) (x : Int) : Nat → Int := fun j => if j = i then x else f j
theorem lt8 {i : Nat} (h : i < 8) : i = 0 ∨ i = 1 ∨ i = 2 ∨ i = 3 ∨ i = 4 ∨ i = 5 ∨ i = 6 ∨ i = 7 := by omega
theorem vget {f : Nat → Int} {i o : Nat} (h : i < 8) (ho : o = i) : (vecF f)[o]? = some (.int .u32 (f i)) := by
  subst ho
  rcases lt8 h with rfl | rfl | rfl | rfl | rfl | rfl | rfl | rfl <;> rfl
theorem vset {f : Nat → Int} {i : Nat} {x : Int} (h : i < 8) : (vecF f).set i (.int .u32 x) = vecF (upd f i x) := by
  rcases lt8 h with rfl | rfl | rfl | rfl | rfl | rfl | rfl | rfl <;> rfl
theorem updJ {h f : Nat → Int} {i : Nat} {x : Int} (hx : x = h i) : upd (fun j => if j < i then h j else f j) i x = fun j => if j < i + 1 then h j else f j := by
  funext j
  unfold upd
  by_cases e : j = i
  · subst e; simp [hx]
  · by_cases h2 : j < i
    · have h3 : j < i + 1 := by omega
      simp [e, h2, h3]
    · have h3 : ¬ j < i + 1 := by omega
      simp [e, h2, h3]
def veq (f g : Nat → Int) : Bool := (List.range 8).all fun j => f j == g j
theorem veq_iff {f g : Nat → Int} : veq f g = true ↔ ∀ j, j < 8 → f j = g j := by
  unfold veq
  simp
section
variable {P : Program} {M : List Nat} {w0 w : World} {F L : LM}
theorem stv_f {b off : Nat} {f : Nat → Int} {e : TypeId} {i : Nat} {x : Int} {K : World → Prop} (hS : Sf M w0 w F L) (k : Nat) (hk : L[k]? = some (b, .cells (vecF f).toArray e (0, 0))) (hi : i < 8) (ho : off = i)
    (h : setLK L k (b, .cells (vecF (upd f i x)).toArray e (0, 0)) fun L' => ∀ w', Sf M w0 w' F L' → K w') : StN P w ⟨b, off, none⟩ [.int .u32 x] K := by
  subst ho
  refine stN_f hS k hk (lo := 0) (hi := 0) (by simpa [vecF] using hi) (by simp) rfl (setK_i ?_)
  rw [show (vecF f).toArray.toList.set off (Value.int .u32 x) = vecF (upd f off x) from vset hi]
  exact h
theorem ldv_f {b off : Nat} {f : Nat → Int} {e : TypeId} {fz : Nat × Nat} {i : Nat} {K : Value → Prop} (hS : Sf M w0 w F L) (k : Nat) (hk : L[k]? = some (b, .cells (vecF f).toArray e fz)) (hi : i < 8) (ho : off = i) (h : K (.int .u32 (f i))) : Ld w ⟨b, off, none⟩ K :=
  ld_f hS k hk (show (vecF f).toArray.toList[off]? = some (.int .u32 (f i)) from vget hi ho) h
theorem eqI_u32 {e : TypeId} (he : P.underlying e = some (.int .u32)) (hc : P.cellsOf e = 1) (f g : Nat → Int) (w : World) : ∀ (is : List Nat), (∀ i ∈ is, i < 8) → (Op.eqItems 9999 e (P.cellsOf e) (vecF f).toArray (vecF g).toArray is).run P w = .ok (is.all fun j => f j == g j) w
  | [], _ => by simp [Op.eqItems]
  | i :: is, h => by
    have hi : i < 8 := h i (by simp)
    have ih := eqI_u32 he hc f g w is (fun j hj => h j (by simp [hj]))
    have h1 := EqF.int (P := P) (t := e) (k := .u32) (a := f i) (b := g i) he 9998 w
    have pa : (part e (vecF f).toArray (i * P.cellsOf e)).run P w = .ok (.int .u32 (f i)) w := part_plain h1.2 (by rw [hc, Nat.mul_one]; simpa using vget (f := f) hi rfl)
    have pb : (part e (vecF g).toArray (i * P.cellsOf e)).run P w = .ok (.int .u32 (g i)) w := part_plain h1.2 (by rw [hc, Nat.mul_one]; simpa using vget (f := g) hi rfl)
    simp only [Op.eqItems, Sem.run_bind, pa, pb, h1.1, Result.andThen_ok]
    cases hq : f i == g i
    · simp [hq]
    · simpa [hq] using ih
theorem eqV {t e : TypeId} {i : TypeInfo} (hu : P.underlying t = some (.array 8 e)) (hi : P.info? e = some i) (he : P.underlying e = some (.int .u32)) (hc : P.cellsOf e = 1) (f g : Nat → Int) (w : World) : (Op.equalIn 10000 t (.agg (vecF f).toArray) (.agg (vecF g).toArray)).run P w = .ok (veq f g) w := by
  rw [run_equalIn_array w 9999 _ _ hu hi]
  exact eqI_u32 he hc f g w (List.range 8) (by simp)
theorem eqV_i {t e : TypeId} {i : TypeInfo} {f g : Nat → Int} {x y : Operand} {K : Value → World → Prop} (hm : P.eqGuardType P.depth t = false) (hu : P.underlying t = some (.array 8 e)) (hi : P.info? e = some i) (he : P.underlying e = some (.int .u32)) (hc : P.cellsOf e = 1) (k : K (.bool (veq f g)) w) :
    SemN P (do eqGuard .eql t x y (.agg (vecF f).toArray) (.agg (vecF g).toArray); binOp .eql t (.agg (vecF f).toArray) (.agg (vecF g).toArray)) w K := by
  refine ⟨SemW.of_run (a := .bool (veq f g)) (w' := w) ?_ k⟩
  rw [Sem.run_bind, run_eqGuard_agg w .eql t x y _ _ hm, Result.andThen_ok, run_eql_struct, eqV hu hi he hc, Result.andThen_ok]
theorem neV_i {t e : TypeId} {i : TypeInfo} {f g : Nat → Int} {x y : Operand} {K : Value → World → Prop} (hm : P.eqGuardType P.depth t = false) (hu : P.underlying t = some (.array 8 e)) (hi : P.info? e = some i) (he : P.underlying e = some (.int .u32)) (hc : P.cellsOf e = 1) (k : K (.bool (!veq f g)) w) :
    SemN P (do eqGuard .neq t x y (.agg (vecF f).toArray) (.agg (vecF g).toArray); binOp .neq t (.agg (vecF f).toArray) (.agg (vecF g).toArray)) w K := by
  refine ⟨SemW.of_run (a := .bool (!veq f g)) (w' := w) ?_ k⟩
  rw [Sem.run_bind, run_eqGuard_agg w .neq t x y _ _ hm, Result.andThen_ok, run_neq_struct, eqV hu hi he hc, Result.andThen_ok]
end
end Go.RV

set_option maxRecDepth 20000
set_option linter.unusedVariables false
set_option linter.unusedSimpArgs false
namespace Go.RV
open Go Go.Proofs

section
variable {M : List Nat} {w0 w : World} {A B C F L : LM}
end
theorem takeV_len (s : RS) : (takeV (tellS s)).1.2.2.length ≤ 4 := by
  have hsz := tellR_sz _ (tellS_sz s)
  unfold takeV
  split
  · simp
  · split
    · simp
    · split
      · simp only [ridN_len]
        unfold countI
        split <;> omega
      · simp
end Go.RV

set_option maxRecDepth 20000
set_option linter.unusedVariables false
set_option linter.unusedSimpArgs false
namespace Go.RV
open Go Go.Proofs

theorem rs_eta {s : RS} (h : s.e = 0) : s = ⟨s.rest, 0⟩ := by cases s; cases h; rfl

theorem tell_back (d : Bool) (n : Int) (h0 : 0 ≤ n) (h1 : n ≤ 256) (hd : d = true → n = 0) (rest : List UInt8) : (tellS ⟨headT d n ++ rest, 0⟩).1 = ⟨rest, 0⟩ ∧ tellR (tellS ⟨headT d n ++ rest, 0⟩) = (d, n, 0) := by
  cases d with
  | true =>
    obtain rfl := hd rfl
    have e1 : fixedR ⟨headT true 0 ++ rest, 0⟩ (1 : Nat) = (be 1 1, ⟨rest, 0⟩) := fixedR_all (l := be 1 1) (by simp [be_len])
    unfold tellS
    rw [e1]
    simp only [numF_be1 (show (0 : Int) ≤ 1 by decide)]
    refine ⟨rfl, ?_⟩
    unfold tellR
    rfl
  | false =>
    have e1 : fixedR ⟨headT false n ++ rest, 0⟩ (1 : Nat) = (be 0 1, ⟨be (IntKind.u16.wrap n) 2 ++ rest, 0⟩) := by
      show fixedR ⟨(be 0 1 ++ be (IntKind.u16.wrap n) 2) ++ rest, 0⟩ (1 : Nat) = _
      rw [List.append_assoc]
      exact fixedR_all (by simp [be_len])
    have hw : IntKind.u16.wrap n = n := by rw [wrap_u16_mod]; omega
    have e2 : fixedR ⟨be (IntKind.u16.wrap n) 2 ++ rest, 0⟩ (2 : Nat) = (be n 2, ⟨rest, 0⟩) := by
      rw [hw]
      exact fixedR_all (by simp [be_len])
    unfold tellS
    rw [e1]
    simp only [numF_be1 (show (0 : Int) ≤ 0 by decide)]
    rw [if_pos (by decide), e2]
    simp only [numF_be2 h0]
    have hm : n % 65536 = n := by omega
    rw [hm]
    refine ⟨trivial, ?_⟩
    unfold tellR
    rw [if_neg (by simp), if_neg (by simp; omega)]
    rfl
theorem ridN_back (xs : List Int) (hx : ∀ x ∈ xs, 0 ≤ x ∧ x ≤ 4294967295) (rest : List UInt8) : ∀ k, k ≤ xs.length → ridN ⟨idsT xs ++ rest, 0⟩ k = (xs.take k, ⟨idsT (xs.drop k) ++ rest, 0⟩)
  | 0, _ => by simp [ridN]
  | k+1, h => by
    have ih := ridN_back xs hx rest k (by omega)
    have hk : k < xs.length := by omega
    have hxk := hx xs[k] (List.getElem_mem hk)
    have ed : xs.drop k = xs[k] :: xs.drop (k+1) := (List.getElem_cons_drop hk).symm
    have e1 : fixedR ⟨idsT (xs.drop k) ++ rest, 0⟩ (4 : Nat) = (be xs[k] 4, ⟨idsT (xs.drop (k+1)) ++ rest, 0⟩) := by
      rw [ed, show idsT (xs[k] :: xs.drop (k+1)) = be xs[k] 4 ++ idsT (xs.drop (k+1)) from rfl, List.append_assoc]
      exact fixedR_all (by simp [be_len])
    rw [ridN, ih]
    simp only [e1, numF_be4 hxk.1 hxk.2]
    rw [List.take_succ_eq_append_getElem hk]
theorem val_back (d : Bool) (n : Int) (xs : List Int) (hx : ∀ x ∈ xs, 0 ≤ x ∧ x ≤ 4294967295) (hok : okVB d n xs = true) (rest : List UInt8) :
    takeV (tellS ⟨valT d n xs ++ rest, 0⟩) = ((d, n, xs), 0) ∧ valR (tellS ⟨valT d n xs ++ rest, 0⟩) = ⟨rest, 0⟩ := by
  have hz := okVB_size hok
  have hlen : (xs.length : Int) = countI n := by
    simp only [okVB, Bool.and_eq_true, Bool.not_eq_true', bne_eq_false_iff_eq] at hok
    exact hok.2.2.1
  obtain ⟨h1, h2⟩ := tell_back d n hz.1 hz.2 (fun h => by subst h; exact (okVB_dir hok).1) (idsT xs ++ rest)
  rw [← List.append_assoc, ← valT] at h1 h2
  have hc : (countI n).toNat = xs.length := by omega
  have hr := ridN_back xs hx rest xs.length (Nat.le_refl _)
  rw [List.take_length, List.drop_length] at hr
  replace hr : ridN ⟨idsT xs ++ rest, 0⟩ xs.length = (xs, ⟨rest, 0⟩) := by simpa [idsT] using hr
  have hv : valR (tellS ⟨valT d n xs ++ rest, 0⟩) = ⟨rest, 0⟩ := by
    unfold valR
    rw [h2, h1]
    simp only [hc, hr]
    rfl
  refine ⟨?_, hv⟩
  unfold takeV
  rw [hv, h2, h1]
  simp only [hc, hr, hok]
  rfl
theorem ridN_in (s : RS) : ∀ k, ∀ x ∈ (ridN s k).1, 0 ≤ x ∧ x ≤ 4294967295
  | 0, x, h => by cases h
  | k+1, x, h => by
    rcases List.mem_append.1 (show x ∈ (ridN s k).1 ++ [numF 0 (fixedR (ridN s k).2 (4 : Nat)).1] from h) with h | h
    · exact ridN_in s k x h
    · have hl := numF_lt (ridN s k).2 4
      rw [show (256 : Int) ^ 4 = 4294967296 from by decide] at hl
      obtain rfl := List.mem_singleton.1 h
      exact ⟨hl.1, by omega⟩
theorem takeV_in (s : RS) : ∀ x ∈ (takeV (tellS s)).1.2.2, 0 ≤ x ∧ x ≤ 4294967295 := by
  unfold takeV
  split
  · simp
  · split
    · simp
    · split
      · exact ridN_in _ _
      · simp
theorem takeV_size (s : RS) : 0 ≤ (takeV (tellS s)).1.2.1 ∧ (takeV (tellS s)).1.2.1 ≤ 256 := by
  have hsz := tellR_sz _ (tellS_sz s)
  unfold takeV
  split
  · simp
  · split
    · simp
    · split
      · exact hsz
      · simp
end Go.RV

set_option maxRecDepth 20000
set_option linter.unusedVariables false
set_option linter.unusedSimpArgs false
namespace Go.RV
open Go Go.Proofs

def vecV (f : Nat → Int) : Value := .agg (vecF f).toArray
theorem eqVec (f g : Nat → Int) {ox oy : Operand} {w : World} {K : Value → World → Prop} (k : K (.bool (veq f g)) w) :
    SemN Tryz.prog (do eqGuard .eql 37 ox oy (vecV f) (vecV g); binOp .eql 37 (vecV f) (vecV g)) w K :=
  eqV_i (by kernel_rfl) Tryz.underlying37 inf32 Tryz.underlying32 (by kernel_rfl) k
theorem neVec (f g : Nat → Int) {ox oy : Operand} {w : World} {K : Value → World → Prop} (k : K (.bool (!veq f g)) w) :
    SemN Tryz.prog (do eqGuard .neq 37 ox oy (vecV f) (vecV g); binOp .neq 37 (vecV f) (vecV g)) w K :=
  neV_i (by kernel_rfl) Tryz.underlying37 inf32 Tryz.underlying32 (by kernel_rfl) k
theorem wi8 {i : Nat} (h : i < 8) : IntKind.i64.wrap ((i : Int) + 1) = ((i + 1 : Nat) : Int) := wi h (by decide)

def dotV (r n : Int) : Value := .agg #[.int .u8 r, .int .u32 n]
def mayDotB (r n : Int) : Bool := decide (r < 8) && (decide (1 ≤ n) && decide (n ≤ 65535))
theorem mayDot_c (r n : Int) (w : World) : Fc Tryz.prog 131 [dotV r n] w fun v w' => v = .bool (mayDotB r n) ∧ St [] w w' [] := by
  refine fc_i TB_ok Tryz.func131 rfl (by kernel_rfl) ?_
  have hS := Sf.refl w
  unfold mayDotB
  repeat ((conv => whnf); first | (apply q_i; focus (intro w1 hS; (conv => whnf); first | exact ⟨rfl, rfl⟩ | ((first | refine ld_f hS 0 rfl rfl ?_ | refine ldA_f hS 0 rfl rfl ?_); (conv => whnf); exact ⟨rfl, rfl⟩))) | (refine nw_f hS ?_; intro b w1 hS) | refine as_i hS ?_ | refine as_i (hS.subs (List.nil_sublist _) sb9) ?_ | refine as_i (hS.subs (List.Sublist.refl _) sb9) ?_ | refine bar_f hS ?_ | refine ld_f hS 0 rfl rfl ?_ | refine ldA_f hS 0 rfl rfl ?_ | ((first | refine stN_f hS 0 rfl (lb9 rfl) rfl rfl ?_ | refine stM_f hS 0 rfl (lb9 rfl) rfl ?_); (conv => whnf); intro w1 hS) | (refine dr9 hS ?_; intro w1 hS) | refine br_t (by assumption) ?_ | refine br_f (by assumption) ?_)
  cases h1 : decide (r < 8) with
  | false =>
    repeat ((conv => whnf); first | (apply q_i; focus (intro w1 hS; (conv => whnf); first | exact ⟨rfl, rfl⟩ | ((first | refine ld_f hS 0 rfl rfl ?_ | refine ldA_f hS 0 rfl rfl ?_); (conv => whnf); exact ⟨rfl, rfl⟩))) | (refine nw_f hS ?_; intro b w1 hS) | refine as_i hS ?_ | refine as_i (hS.subs (List.nil_sublist _) sb9) ?_ | refine as_i (hS.subs (List.Sublist.refl _) sb9) ?_ | refine bar_f hS ?_ | refine ld_f hS 0 rfl rfl ?_ | refine ldA_f hS 0 rfl rfl ?_ | ((first | refine stN_f hS 0 rfl (lb9 rfl) rfl rfl ?_ | refine stM_f hS 0 rfl (lb9 rfl) rfl ?_); (conv => whnf); intro w1 hS) | (refine dr9 hS ?_; intro w1 hS) | refine br_t (by assumption) ?_ | refine br_f (by assumption) ?_)
    exact ⟨rfl, hS.nil⟩
  | true =>
    repeat ((conv => whnf); first | (apply q_i; focus (intro w1 hS; (conv => whnf); first | exact ⟨rfl, rfl⟩ | ((first | refine ld_f hS 0 rfl rfl ?_ | refine ldA_f hS 0 rfl rfl ?_); (conv => whnf); exact ⟨rfl, rfl⟩))) | (refine nw_f hS ?_; intro b w1 hS) | refine as_i hS ?_ | refine as_i (hS.subs (List.nil_sublist _) sb9) ?_ | refine as_i (hS.subs (List.Sublist.refl _) sb9) ?_ | refine bar_f hS ?_ | refine ld_f hS 0 rfl rfl ?_ | refine ldA_f hS 0 rfl rfl ?_ | ((first | refine stN_f hS 0 rfl (lb9 rfl) rfl rfl ?_ | refine stM_f hS 0 rfl (lb9 rfl) rfl ?_); (conv => whnf); intro w1 hS) | (refine dr9 hS ?_; intro w1 hS) | refine br_t (by assumption) ?_ | refine br_f (by assumption) ?_)
    cases h2 : decide (1 ≤ n) with
    | false =>
      repeat ((conv => whnf); first | (apply q_i; focus (intro w1 hS; (conv => whnf); first | exact ⟨rfl, rfl⟩ | ((first | refine ld_f hS 0 rfl rfl ?_ | refine ldA_f hS 0 rfl rfl ?_); (conv => whnf); exact ⟨rfl, rfl⟩))) | (refine nw_f hS ?_; intro b w1 hS) | refine as_i hS ?_ | refine as_i (hS.subs (List.nil_sublist _) sb9) ?_ | refine as_i (hS.subs (List.Sublist.refl _) sb9) ?_ | refine bar_f hS ?_ | refine ld_f hS 0 rfl rfl ?_ | refine ldA_f hS 0 rfl rfl ?_ | ((first | refine stN_f hS 0 rfl (lb9 rfl) rfl rfl ?_ | refine stM_f hS 0 rfl (lb9 rfl) rfl ?_); (conv => whnf); intro w1 hS) | (refine dr9 hS ?_; intro w1 hS) | refine br_t (by assumption) ?_ | refine br_f (by assumption) ?_)
      exact ⟨rfl, hS.nil⟩
    | true =>
      repeat ((conv => whnf); first | (apply q_i; focus (intro w1 hS; (conv => whnf); first | exact ⟨rfl, rfl⟩ | ((first | refine ld_f hS 0 rfl rfl ?_ | refine ldA_f hS 0 rfl rfl ?_); (conv => whnf); exact ⟨rfl, rfl⟩))) | (refine nw_f hS ?_; intro b w1 hS) | refine as_i hS ?_ | refine as_i (hS.subs (List.nil_sublist _) sb9) ?_ | refine as_i (hS.subs (List.Sublist.refl _) sb9) ?_ | refine bar_f hS ?_ | refine ld_f hS 0 rfl rfl ?_ | refine ldA_f hS 0 rfl rfl ?_ | ((first | refine stN_f hS 0 rfl (lb9 rfl) rfl rfl ?_ | refine stM_f hS 0 rfl (lb9 rfl) rfl ?_); (conv => whnf); intro w1 hS) | (refine dr9 hS ?_; intro w1 hS) | refine br_t (by assumption) ?_ | refine br_f (by assumption) ?_)
      exact ⟨rfl, hS.nil⟩
def hasB (f : Nat → Int) (r n : Int) : Bool := mayDotB r n && decide (n ≤ f r.toNat)
theorem has_c (f : Nat → Int) (r n : Int) (hr : 0 ≤ r) (w : World) : Fc Tryz.prog 121 [vecV f, dotV r n] w fun v w' => v = .bool (hasB f r n) ∧ St [] w w' [] := by
  refine fc_i TB_ok Tryz.func121 rfl (by kernel_rfl) ?_
  have hS := Sf.refl w
  repeat ((conv => whnf); first | (apply q_i; focus (intro w1 hS; (conv => whnf); first | exact ⟨rfl, rfl⟩ | ((first | refine ld_f hS 0 rfl rfl ?_ | refine ld_f hS 1 rfl rfl ?_ | refine ldA_f hS 0 rfl rfl ?_ | refine ldA_f hS 1 rfl rfl ?_); (conv => whnf); exact ⟨rfl, rfl⟩))) | (refine nw_f hS ?_; intro b w1 hS) | refine as_i hS ?_ | refine as_i (hS.subs (List.nil_sublist _) sb9) ?_ | refine as_i (hS.subs (List.Sublist.refl _) sb9) ?_ | refine bar_f hS ?_ | refine ld_f hS 0 rfl rfl ?_ | refine ld_f hS 1 rfl rfl ?_ | refine ldA_f hS 0 rfl rfl ?_ | refine ldA_f hS 1 rfl rfl ?_ | ((first | refine stN_f hS 0 rfl (lb9 rfl) rfl rfl ?_ | refine stN_f hS 1 rfl (lb9 rfl) rfl rfl ?_ | refine stM_f hS 0 rfl (lb9 rfl) rfl ?_ | refine stM_f hS 1 rfl (lb9 rfl) rfl ?_); (conv => whnf); intro w1 hS) | (refine dr9 hS ?_; intro w1 hS) | refine br_t (by assumption) ?_ | refine br_f (by assumption) ?_)
  refine fc_m (mayDot_c r n _) ?_
  rintro v w1 ⟨rfl, hS'⟩
  replace hS := hS.call0 hS'
  unfold hasB
  cases h1 : mayDotB r n with
  | false =>
    repeat ((conv => whnf); first | (apply q_i; focus (intro w1 hS; (conv => whnf); first | exact ⟨rfl, rfl⟩ | ((first | refine ld_f hS 0 rfl rfl ?_ | refine ld_f hS 1 rfl rfl ?_ | refine ldA_f hS 0 rfl rfl ?_ | refine ldA_f hS 1 rfl rfl ?_); (conv => whnf); exact ⟨rfl, rfl⟩))) | (refine nw_f hS ?_; intro b w1 hS) | refine as_i hS ?_ | refine as_i (hS.subs (List.nil_sublist _) sb9) ?_ | refine as_i (hS.subs (List.Sublist.refl _) sb9) ?_ | refine bar_f hS ?_ | refine ld_f hS 0 rfl rfl ?_ | refine ld_f hS 1 rfl rfl ?_ | refine ldA_f hS 0 rfl rfl ?_ | refine ldA_f hS 1 rfl rfl ?_ | ((first | refine stN_f hS 0 rfl (lb9 rfl) rfl rfl ?_ | refine stN_f hS 1 rfl (lb9 rfl) rfl rfl ?_ | refine stM_f hS 0 rfl (lb9 rfl) rfl ?_ | refine stM_f hS 1 rfl (lb9 rfl) rfl ?_); (conv => whnf); intro w1 hS) | (refine dr9 hS ?_; intro w1 hS) | refine br_t (by assumption) ?_ | refine br_f (by assumption) ?_)
    exact ⟨rfl, hS.nil⟩
  | true =>
    have h8 : r < 8 := by
      unfold mayDotB at h1
      simp only [Bool.and_eq_true, decide_eq_true_eq] at h1
      exact h1.1
    have hlt : r.toNat < 8 := by omega
    repeat ((conv => whnf); first | (apply q_i; focus (intro w1 hS; (conv => whnf); first | exact ⟨rfl, rfl⟩ | ((first | refine ld_f hS 0 rfl rfl ?_ | refine ld_f hS 1 rfl rfl ?_ | refine ldA_f hS 0 rfl rfl ?_ | refine ldA_f hS 1 rfl rfl ?_); (conv => whnf); exact ⟨rfl, rfl⟩) | ((refine .mk ⟨by omega, by omega⟩ ?_); (conv => whnf); exact ⟨rfl, rfl⟩) | ((refine ldv_f hS 0 rfl hlt (by show 0 + r.toNat * 1 = r.toNat; omega) ?_); (conv => whnf); exact ⟨rfl, rfl⟩) | ((refine ldv_f hS 1 rfl hlt (by show 0 + r.toNat * 1 = r.toNat; omega) ?_); (conv => whnf); exact ⟨rfl, rfl⟩) | ((refine stv_f hS 0 rfl hlt (by show 0 + r.toNat * 1 = r.toNat; omega) ?_; (conv => whnf); intro w1 hS); (conv => whnf); exact ⟨rfl, rfl⟩) | ((refine stv_f hS 1 rfl hlt (by show 0 + r.toNat * 1 = r.toNat; omega) ?_; (conv => whnf); intro w1 hS); (conv => whnf); exact ⟨rfl, rfl⟩))) | (refine nw_f hS ?_; intro b w1 hS) | refine as_i hS ?_ | refine as_i (hS.subs (List.nil_sublist _) sb9) ?_ | refine as_i (hS.subs (List.Sublist.refl _) sb9) ?_ | refine bar_f hS ?_ | refine ld_f hS 0 rfl rfl ?_ | refine ld_f hS 1 rfl rfl ?_ | refine ldA_f hS 0 rfl rfl ?_ | refine ldA_f hS 1 rfl rfl ?_ | ((first | refine stN_f hS 0 rfl (lb9 rfl) rfl rfl ?_ | refine stN_f hS 1 rfl (lb9 rfl) rfl rfl ?_ | refine stM_f hS 0 rfl (lb9 rfl) rfl ?_ | refine stM_f hS 1 rfl (lb9 rfl) rfl ?_); (conv => whnf); intro w1 hS) | refine .mk ⟨by omega, by omega⟩ ?_ | refine ldv_f hS 0 rfl hlt (by show 0 + r.toNat * 1 = r.toNat; omega) ?_ | refine ldv_f hS 1 rfl hlt (by show 0 + r.toNat * 1 = r.toNat; omega) ?_ | (refine stv_f hS 0 rfl hlt (by show 0 + r.toNat * 1 = r.toNat; omega) ?_; (conv => whnf); intro w1 hS) | (refine stv_f hS 1 rfl hlt (by show 0 + r.toNat * 1 = r.toNat; omega) ?_; (conv => whnf); intro w1 hS) | (refine dr9 hS ?_; intro w1 hS) | refine br_t (by assumption) ?_ | refine br_f (by assumption) ?_)
    exact ⟨rfl, hS.nil⟩
def zeroF : Nat → Int := fun _ => 0
end Go.RV

set_option maxRecDepth 20000
set_option linter.unusedVariables false
set_option linter.unusedSimpArgs false
namespace Go.RV
open Go Go.Proofs

def anyJ (p : Nat → Bool) : Nat → Bool
  | 0 => false
  | k+1 => anyJ p k || p k
theorem anyJ_iff {p : Nat → Bool} : ∀ {k : Nat}, anyJ p k = true ↔ ∃ j, j < k ∧ p j = true
  | 0 => by simp [anyJ]
  | k+1 => by
    rw [anyJ, Bool.or_eq_true, anyJ_iff]
    constructor
    · rintro (⟨j, h, hp⟩ | hp)
      · exact ⟨j, by omega, hp⟩
      · exact ⟨k, by omega, hp⟩
    · rintro ⟨j, h, hp⟩
      by_cases e : j = k
      · subst e; exact .inr hp
      · exact .inl ⟨j, by omega, hp⟩
theorem anyJ_false {p : Nat → Bool} {k : Nat} : anyJ p k = false ↔ ∀ j, j < k → p j = false := by
  rw [← Bool.not_eq_true, anyJ_iff]
  constructor
  · intro h j hj
    cases hp : p j with
    | false => rfl
    | true => exact absurd ⟨j, hj, hp⟩ h
  · rintro h ⟨j, hj, hp⟩
    rw [h j hj] at hp
    cases hp
theorem le7 {r : Int} : decide (r ≤ 7) = decide (r < 8) := by rw [Bool.eq_iff_iff]; simp; omega
theorem rmayDot_c (r n : Int) (w : World) : Fc Tryz.prog 106 [dotV r n] w fun v w' => v = .bool (mayDotB r n) ∧ St [] w w' [] := by
  refine fc_i TB_ok Tryz.func106 rfl (by kernel_rfl) ?_
  have hS := Sf.refl w
  unfold mayDotB
  rw [← le7]
  repeat ((conv => whnf); first | (apply q_i; focus (intro w1 hS; (conv => whnf); first | exact ⟨rfl, rfl⟩ | ((first | refine ld_f hS 0 rfl rfl ?_ | refine ldA_f hS 0 rfl rfl ?_); (conv => whnf); exact ⟨rfl, rfl⟩))) | (refine nw_f hS ?_; intro b w1 hS) | refine as_i hS ?_ | refine as_i (hS.subs (List.nil_sublist _) sb9) ?_ | refine as_i (hS.subs (List.Sublist.refl _) sb9) ?_ | refine bar_f hS ?_ | refine ld_f hS 0 rfl rfl ?_ | refine ldA_f hS 0 rfl rfl ?_ | ((first | refine stN_f hS 0 rfl (lb9 rfl) rfl rfl ?_ | refine stM_f hS 0 rfl (lb9 rfl) rfl ?_); (conv => whnf); intro w1 hS) | (refine dr9 hS ?_; intro w1 hS) | refine br_t (by assumption) ?_ | refine br_f (by assumption) ?_)
  cases h1 : decide (r ≤ 7) with
  | false =>
    repeat ((conv => whnf); first | (apply q_i; focus (intro w1 hS; (conv => whnf); first | exact ⟨rfl, rfl⟩ | ((first | refine ld_f hS 0 rfl rfl ?_ | refine ldA_f hS 0 rfl rfl ?_); (conv => whnf); exact ⟨rfl, rfl⟩))) | (refine nw_f hS ?_; intro b w1 hS) | refine as_i hS ?_ | refine as_i (hS.subs (List.nil_sublist _) sb9) ?_ | refine as_i (hS.subs (List.Sublist.refl _) sb9) ?_ | refine bar_f hS ?_ | refine ld_f hS 0 rfl rfl ?_ | refine ldA_f hS 0 rfl rfl ?_ | ((first | refine stN_f hS 0 rfl (lb9 rfl) rfl rfl ?_ | refine stM_f hS 0 rfl (lb9 rfl) rfl ?_); (conv => whnf); intro w1 hS) | (refine dr9 hS ?_; intro w1 hS) | refine br_t (by assumption) ?_ | refine br_f (by assumption) ?_)
    exact ⟨rfl, hS.nil⟩
  | true =>
    repeat ((conv => whnf); first | (apply q_i; focus (intro w1 hS; (conv => whnf); first | exact ⟨rfl, rfl⟩ | ((first | refine ld_f hS 0 rfl rfl ?_ | refine ldA_f hS 0 rfl rfl ?_); (conv => whnf); exact ⟨rfl, rfl⟩))) | (refine nw_f hS ?_; intro b w1 hS) | refine as_i hS ?_ | refine as_i (hS.subs (List.nil_sublist _) sb9) ?_ | refine as_i (hS.subs (List.Sublist.refl _) sb9) ?_ | refine bar_f hS ?_ | refine ld_f hS 0 rfl rfl ?_ | refine ldA_f hS 0 rfl rfl ?_ | ((first | refine stN_f hS 0 rfl (lb9 rfl) rfl rfl ?_ | refine stM_f hS 0 rfl (lb9 rfl) rfl ?_); (conv => whnf); intro w1 hS) | (refine dr9 hS ?_; intro w1 hS) | refine br_t (by assumption) ?_ | refine br_f (by assumption) ?_)
    cases h2 : decide (1 ≤ n) with
    | false =>
      repeat ((conv => whnf); first | (apply q_i; focus (intro w1 hS; (conv => whnf); first | exact ⟨rfl, rfl⟩ | ((first | refine ld_f hS 0 rfl rfl ?_ | refine ldA_f hS 0 rfl rfl ?_); (conv => whnf); exact ⟨rfl, rfl⟩))) | (refine nw_f hS ?_; intro b w1 hS) | refine as_i hS ?_ | refine as_i (hS.subs (List.nil_sublist _) sb9) ?_ | refine as_i (hS.subs (List.Sublist.refl _) sb9) ?_ | refine bar_f hS ?_ | refine ld_f hS 0 rfl rfl ?_ | refine ldA_f hS 0 rfl rfl ?_ | ((first | refine stN_f hS 0 rfl (lb9 rfl) rfl rfl ?_ | refine stM_f hS 0 rfl (lb9 rfl) rfl ?_); (conv => whnf); intro w1 hS) | (refine dr9 hS ?_; intro w1 hS) | refine br_t (by assumption) ?_ | refine br_f (by assumption) ?_)
      exact ⟨rfl, hS.nil⟩
    | true =>
      repeat ((conv => whnf); first | (apply q_i; focus (intro w1 hS; (conv => whnf); first | exact ⟨rfl, rfl⟩ | ((first | refine ld_f hS 0 rfl rfl ?_ | refine ldA_f hS 0 rfl rfl ?_); (conv => whnf); exact ⟨rfl, rfl⟩))) | (refine nw_f hS ?_; intro b w1 hS) | refine as_i hS ?_ | refine as_i (hS.subs (List.nil_sublist _) sb9) ?_ | refine as_i (hS.subs (List.Sublist.refl _) sb9) ?_ | refine bar_f hS ?_ | refine ld_f hS 0 rfl rfl ?_ | refine ldA_f hS 0 rfl rfl ?_ | ((first | refine stN_f hS 0 rfl (lb9 rfl) rfl rfl ?_ | refine stM_f hS 0 rfl (lb9 rfl) rfl ?_); (conv => whnf); intro w1 hS) | (refine dr9 hS ?_; intro w1 hS) | refine br_t (by assumption) ?_ | refine br_f (by assumption) ?_)
      exact ⟨rfl, hS.nil⟩
theorem rhas_c (f : Nat → Int) (r n : Int) (hr : 0 ≤ r) (w : World) : Fc Tryz.prog 78 [vecV f, dotV r n] w fun v w' => v = .bool (hasB f r n) ∧ St [] w w' [] := by
  refine fc_i TB_ok Tryz.func78 rfl (by kernel_rfl) ?_
  have hS := Sf.refl w
  repeat ((conv => whnf); first | (apply q_i; focus (intro w1 hS; (conv => whnf); first | exact ⟨rfl, rfl⟩ | ((first | refine ld_f hS 0 rfl rfl ?_ | refine ld_f hS 1 rfl rfl ?_ | refine ldA_f hS 0 rfl rfl ?_ | refine ldA_f hS 1 rfl rfl ?_); (conv => whnf); exact ⟨rfl, rfl⟩))) | (refine nw_f hS ?_; intro b w1 hS) | refine as_i hS ?_ | refine as_i (hS.subs (List.nil_sublist _) sb9) ?_ | refine as_i (hS.subs (List.Sublist.refl _) sb9) ?_ | refine bar_f hS ?_ | refine ld_f hS 0 rfl rfl ?_ | refine ld_f hS 1 rfl rfl ?_ | refine ldA_f hS 0 rfl rfl ?_ | refine ldA_f hS 1 rfl rfl ?_ | ((first | refine stN_f hS 0 rfl (lb9 rfl) rfl rfl ?_ | refine stN_f hS 1 rfl (lb9 rfl) rfl rfl ?_ | refine stM_f hS 0 rfl (lb9 rfl) rfl ?_ | refine stM_f hS 1 rfl (lb9 rfl) rfl ?_); (conv => whnf); intro w1 hS) | (refine dr9 hS ?_; intro w1 hS) | refine br_t (by assumption) ?_ | refine br_f (by assumption) ?_)
  refine fc_m (rmayDot_c r n _) ?_
  rintro v w1 ⟨rfl, hS'⟩
  replace hS := hS.call0 hS'
  unfold hasB
  cases h1 : mayDotB r n with
  | false =>
    repeat ((conv => whnf); first | (apply q_i; focus (intro w1 hS; (conv => whnf); first | exact ⟨rfl, rfl⟩ | ((first | refine ld_f hS 0 rfl rfl ?_ | refine ld_f hS 1 rfl rfl ?_ | refine ldA_f hS 0 rfl rfl ?_ | refine ldA_f hS 1 rfl rfl ?_); (conv => whnf); exact ⟨rfl, rfl⟩))) | (refine nw_f hS ?_; intro b w1 hS) | refine as_i hS ?_ | refine as_i (hS.subs (List.nil_sublist _) sb9) ?_ | refine as_i (hS.subs (List.Sublist.refl _) sb9) ?_ | refine bar_f hS ?_ | refine ld_f hS 0 rfl rfl ?_ | refine ld_f hS 1 rfl rfl ?_ | refine ldA_f hS 0 rfl rfl ?_ | refine ldA_f hS 1 rfl rfl ?_ | ((first | refine stN_f hS 0 rfl (lb9 rfl) rfl rfl ?_ | refine stN_f hS 1 rfl (lb9 rfl) rfl rfl ?_ | refine stM_f hS 0 rfl (lb9 rfl) rfl ?_ | refine stM_f hS 1 rfl (lb9 rfl) rfl ?_); (conv => whnf); intro w1 hS) | (refine dr9 hS ?_; intro w1 hS) | refine br_t (by assumption) ?_ | refine br_f (by assumption) ?_)
    exact ⟨rfl, hS.nil⟩
  | true =>
    have h8 : r < 8 := by
      unfold mayDotB at h1
      simp only [Bool.and_eq_true, decide_eq_true_eq] at h1
      exact h1.1
    have hlt : r.toNat < 8 := by omega
    repeat ((conv => whnf); first | (apply q_i; focus (intro w1 hS; (conv => whnf); first | exact ⟨rfl, rfl⟩ | ((first | refine ld_f hS 0 rfl rfl ?_ | refine ld_f hS 1 rfl rfl ?_ | refine ldA_f hS 0 rfl rfl ?_ | refine ldA_f hS 1 rfl rfl ?_); (conv => whnf); exact ⟨rfl, rfl⟩) | ((refine .mk ⟨by omega, by omega⟩ ?_); (conv => whnf); exact ⟨rfl, rfl⟩) | ((refine ldv_f hS 0 rfl hlt (by show 0 + r.toNat * 1 = r.toNat; omega) ?_); (conv => whnf); exact ⟨rfl, rfl⟩) | ((refine ldv_f hS 1 rfl hlt (by show 0 + r.toNat * 1 = r.toNat; omega) ?_); (conv => whnf); exact ⟨rfl, rfl⟩) | ((refine stv_f hS 0 rfl hlt (by show 0 + r.toNat * 1 = r.toNat; omega) ?_; (conv => whnf); intro w1 hS); (conv => whnf); exact ⟨rfl, rfl⟩) | ((refine stv_f hS 1 rfl hlt (by show 0 + r.toNat * 1 = r.toNat; omega) ?_; (conv => whnf); intro w1 hS); (conv => whnf); exact ⟨rfl, rfl⟩))) | (refine nw_f hS ?_; intro b w1 hS) | refine as_i hS ?_ | refine as_i (hS.subs (List.nil_sublist _) sb9) ?_ | refine as_i (hS.subs (List.Sublist.refl _) sb9) ?_ | refine bar_f hS ?_ | refine ld_f hS 0 rfl rfl ?_ | refine ld_f hS 1 rfl rfl ?_ | refine ldA_f hS 0 rfl rfl ?_ | refine ldA_f hS 1 rfl rfl ?_ | ((first | refine stN_f hS 0 rfl (lb9 rfl) rfl rfl ?_ | refine stN_f hS 1 rfl (lb9 rfl) rfl rfl ?_ | refine stM_f hS 0 rfl (lb9 rfl) rfl ?_ | refine stM_f hS 1 rfl (lb9 rfl) rfl ?_); (conv => whnf); intro w1 hS) | refine .mk ⟨by omega, by omega⟩ ?_ | refine ldv_f hS 0 rfl hlt (by show 0 + r.toNat * 1 = r.toNat; omega) ?_ | refine ldv_f hS 1 rfl hlt (by show 0 + r.toNat * 1 = r.toNat; omega) ?_ | (refine stv_f hS 0 rfl hlt (by show 0 + r.toNat * 1 = r.toNat; omega) ?_; (conv => whnf); intro w1 hS) | (refine stv_f hS 1 rfl hlt (by show 0 + r.toNat * 1 = r.toNat; omega) ?_; (conv => whnf); intro w1 hS) | (refine dr9 hS ?_; intro w1 hS) | refine br_t (by assumption) ?_ | refine br_f (by assumption) ?_)
    exact ⟨rfl, hS.nil⟩

end Go.RV

set_option maxRecDepth 20000
set_option linter.unusedVariables false
set_option linter.unusedSimpArgs false
namespace Go.RV
open Go Go.Proofs

def mayVB (f : Nat → Int) : Bool := !anyJ (fun j => decide (65535 < f j)) 8
theorem may_c (f : Nat → Int) (w : World) : Fc Tryz.prog 97 [vecV f] w fun v w' => v = .bool (mayVB f) ∧ St [] w w' [] := by
  refine fc_i TB_ok Tryz.func97 rfl (by kernel_rfl) ?_
  have hS := Sf.refl w
  unfold mayVB
  repeat ((conv => whnf); first | (apply q_i; focus (intro w1 hS; (conv => whnf); first | exact ⟨rfl, rfl⟩ | ((first | refine ld_f hS 0 rfl rfl ?_ | refine ldA_f hS 0 rfl rfl ?_); (conv => whnf); exact ⟨rfl, rfl⟩))) | (refine nw_f hS ?_; intro b w1 hS) | refine as_i hS ?_ | refine as_i (hS.subs (List.nil_sublist _) sb9) ?_ | refine as_i (hS.subs (List.Sublist.refl _) sb9) ?_ | refine bar_f hS ?_ | refine ld_f hS 0 rfl rfl ?_ | refine ldA_f hS 0 rfl rfl ?_ | ((first | refine stN_f hS 0 rfl (lb9 rfl) rfl rfl ?_ | refine stM_f hS 0 rfl (lb9 rfl) rfl ?_); (conv => whnf); intro w1 hS) | (refine dr9 hS ?_; intro w1 hS) | refine br_t (by assumption) ?_ | refine br_f (by assumption) ?_)
  refine loop_i TB_ok (fun i : Nat => [(4, .int .i64 i)]) (fun i w' => i ≤ 8 ∧ anyJ (fun j => decide (65535 < f j)) i = false ∧ Sf [] w w' [] [(_, .cells (vecF f).toArray 37 (0, 0))]) (fun i => 8 - i) 0 rfl ⟨Nat.zero_le _, rfl, hS⟩ ?_
  rintro i us w2 ⟨hi, hno, hS⟩
  (conv => whnf)
  refine br_i (fun hb => ?_) (fun hb => ?_)
  · have hlt : i < 8 := by have := of_decide_eq_true hb; omega
    repeat ((conv => whnf); first | (apply q_i; focus (intro w1 hS; (conv => whnf); first | exact ⟨rfl, rfl⟩ | ((refine .mk ⟨by omega, by omega⟩ ?_); (conv => whnf); exact ⟨rfl, rfl⟩) | ((refine ldv_f hS 0 rfl hlt (by show 0 + i * 1 = i; omega) ?_); (conv => whnf); exact ⟨rfl, rfl⟩) | ((refine stv_f hS 0 rfl hlt (by show 0 + i * 1 = i; omega) ?_; (conv => whnf); intro w1 hS); (conv => whnf); exact ⟨rfl, rfl⟩))) | (refine nw_f hS ?_; intro b w1 hS) | refine as_i hS ?_ | refine as_i (hS.subs (List.nil_sublist _) sb9) ?_ | refine as_i (hS.subs (List.Sublist.refl _) sb9) ?_ | refine bar_f hS ?_ | refine .mk ⟨by omega, by omega⟩ ?_ | refine ldv_f hS 0 rfl hlt (by show 0 + i * 1 = i; omega) ?_ | (refine stv_f hS 0 rfl hlt (by show 0 + i * 1 = i; omega) ?_; (conv => whnf); intro w1 hS) | (refine dr9 hS ?_; intro w1 hS) | refine br_t (by assumption) ?_ | refine br_f (by assumption) ?_)
    refine br_i (fun h1 => ?_) (fun h1 => ?_)
    · repeat ((conv => whnf); first | (apply q_i; focus (intro w1 hS; (conv => whnf); first | exact ⟨rfl, rfl⟩ | ((first | refine ld_f hS 0 rfl rfl ?_ | refine ldA_f hS 0 rfl rfl ?_); (conv => whnf); exact ⟨rfl, rfl⟩))) | (refine nw_f hS ?_; intro b w1 hS) | refine as_i hS ?_ | refine as_i (hS.subs (List.nil_sublist _) sb9) ?_ | refine as_i (hS.subs (List.Sublist.refl _) sb9) ?_ | refine bar_f hS ?_ | refine ld_f hS 0 rfl rfl ?_ | refine ldA_f hS 0 rfl rfl ?_ | ((first | refine stN_f hS 0 rfl (lb9 rfl) rfl rfl ?_ | refine stM_f hS 0 rfl (lb9 rfl) rfl ?_); (conv => whnf); intro w1 hS) | (refine dr9 hS ?_; intro w1 hS) | refine br_t (by assumption) ?_ | refine br_f (by assumption) ?_)
      have : anyJ (fun j => decide (65535 < f j)) 8 = true := anyJ_iff.2 ⟨i, hlt, h1⟩
      exact ⟨by rw [this]; rfl, hS.nil⟩
    · repeat ((conv => whnf); first | (apply q_i; focus (intro w1 hS; (conv => whnf); first | exact ⟨rfl, rfl⟩ | ((first | refine ld_f hS 0 rfl rfl ?_ | refine ldA_f hS 0 rfl rfl ?_); (conv => whnf); exact ⟨rfl, rfl⟩))) | (refine nw_f hS ?_; intro b w1 hS) | refine as_i hS ?_ | refine as_i (hS.subs (List.nil_sublist _) sb9) ?_ | refine as_i (hS.subs (List.Sublist.refl _) sb9) ?_ | refine bar_f hS ?_ | refine ld_f hS 0 rfl rfl ?_ | refine ldA_f hS 0 rfl rfl ?_ | ((first | refine stN_f hS 0 rfl (lb9 rfl) rfl rfl ?_ | refine stM_f hS 0 rfl (lb9 rfl) rfl ?_); (conv => whnf); intro w1 hS) | (refine dr9 hS ?_; intro w1 hS) | refine br_t (by assumption) ?_ | refine br_f (by assumption) ?_)
      refine ⟨rfl, i + 1, ?_, ⟨by omega, ?_, hS⟩, by omega⟩
      · rw [wi8 hlt]
        rfl
      · rw [anyJ, hno, h1]
        rfl
  · have hge : i = 8 := by have := of_decide_eq_false hb; omega
    subst hge
    repeat ((conv => whnf); first | (apply q_i; focus (intro w1 hS; (conv => whnf); first | exact ⟨rfl, rfl⟩ | ((first | refine ld_f hS 0 rfl rfl ?_ | refine ldA_f hS 0 rfl rfl ?_); (conv => whnf); exact ⟨rfl, rfl⟩))) | (refine nw_f hS ?_; intro b w1 hS) | refine as_i hS ?_ | refine as_i (hS.subs (List.nil_sublist _) sb9) ?_ | refine as_i (hS.subs (List.Sublist.refl _) sb9) ?_ | refine bar_f hS ?_ | refine ld_f hS 0 rfl rfl ?_ | refine ldA_f hS 0 rfl rfl ?_ | ((first | refine stN_f hS 0 rfl (lb9 rfl) rfl rfl ?_ | refine stM_f hS 0 rfl (lb9 rfl) rfl ?_); (conv => whnf); intro w1 hS) | (refine dr9 hS ?_; intro w1 hS) | refine br_t (by assumption) ?_ | refine br_f (by assumption) ?_)
    exact ⟨by rw [hno]; rfl, hS.nil⟩

/-- the bits of the first k numbers -/
def bitsN (f : Nat → Int) : Nat → Int
  | 0 => 0
  | k+1 => if 0 < f k then bitsN f k + 2 ^ k else bitsN f k
def numsN (f : Nat → Int) : Nat → List UInt8
  | 0 => []
  | k+1 => if 0 < f k then numsN f k ++ varD (f k) else numsN f k
theorem bitsN_lt (f : Nat → Int) : ∀ k, 0 ≤ bitsN f k ∧ bitsN f k < 2 ^ k
  | 0 => by simp [bitsN]
  | k+1 => by
    have ih := bitsN_lt f k
    have e : (2 : Int) ^ (k + 1) = 2 ^ k + 2 ^ k := by rw [Int.pow_succ]; omega
    rw [bitsN, e]
    split <;> omega
theorem numsN_len (f : Nat → Int) : ∀ k, (numsN f k).length ≤ 6 * k
  | 0 => by simp [numsN]
  | k+1 => by
    have ih := numsN_len f k
    have := varD_len (f k)
    rw [numsN]
    split
    · rw [List.length_append]; omega
    · omega
theorem orBit : ∀ (b : Fin 256) (i : Fin 8), b.val < 2 ^ i.val → bOr .u8 (b.val : Int) (bShl .u8 1 (i.val : Int)) = (b.val : Int) + 2 ^ i.val := by decide +kernel
theorem orBit' {b : Int} {i : Nat} (h0 : 0 ≤ b) (h1 : b < 2 ^ i) (hi : i < 8) : bOr .u8 b (bShl .u8 1 (i : Int)) = b + 2 ^ i := by
  obtain ⟨m, rfl⟩ := Int.eq_ofNat_of_zero_le h0
  have hm : m < 2 ^ i := by exact_mod_cast h1
  have hp : 2 ^ i ≤ 2 ^ 7 := Nat.pow_le_pow_right (by decide) (by omega)
  have := orBit ⟨m, by omega⟩ ⟨i, hi⟩ hm
  exact_mod_cast this

theorem rdB {b : Int} (h0 : 0 ≤ b) (h1 : b < 2 ^ 8) {w : World} {A : Option Addr} (h : Rd w A [.int .u8 b]) : Rd w A (flat encY [yI b]) := by
  have e : [Value.int .u8 b] = flat encY [yI b] := by rw [← u8v, wrap_u8 h0 (by omega)]
  rw [← e]
  exact h
theorem str_i {n c : Nat} {A : Option Addr} {bs : List UInt8} {w : World} {K : Value → World → Prop} (hR : Rd w A (flat encY bs)) (hn : n = bs.length) (k : K (.string (strY bs)) w) : SemN Tryz.prog (convert 96 9 (.slice A n c)) w K :=
  bStr_i Tryz.underlying96 Tryz.underlying5 Tryz.underlying9 hR hn k
theorem put_c (f : Nat → Int) (hf : ∀ j, j < 8 → 0 ≤ f j ∧ f j ≤ 4294967295) (w : World) : Fc Tryz.prog 71 [vecV f] w fun v w' => v = .tuple #[.string (if mayVB f then strY (yI (bitsN f 8) :: numsN f 8) else ⟨#[]⟩), .int .i64 (if mayVB f then 0 else 4)] ∧ St [] w w' [] := by
  refine fc_i TB_ok Tryz.func71 rfl (by kernel_rfl) ?_
  have hS := Sf.refl w
  repeat ((conv => whnf); first | (apply q_i; focus (intro w1 hS; (conv => whnf); first | exact ⟨rfl, rfl⟩ | ((first | refine ld_f hS 0 rfl rfl ?_ | refine ldA_f hS 0 rfl rfl ?_); (conv => whnf); exact ⟨rfl, rfl⟩))) | (refine nw_f hS ?_; intro b w1 hS) | refine as_i hS ?_ | refine as_i (hS.subs (List.nil_sublist _) sb9) ?_ | refine as_i (hS.subs (List.Sublist.refl _) sb9) ?_ | refine bar_f hS ?_ | refine ld_f hS 0 rfl rfl ?_ | refine ldA_f hS 0 rfl rfl ?_ | ((first | refine stN_f hS 0 rfl (lb9 rfl) rfl rfl ?_ | refine stM_f hS 0 rfl (lb9 rfl) rfl ?_); (conv => whnf); intro w1 hS) | (refine dr9 hS ?_; intro w1 hS) | refine br_t (by assumption) ?_ | refine br_f (by assumption) ?_)
  refine fc_m (may_c f _) ?_
  rintro v w1 ⟨rfl, hS'⟩
  replace hS := hS.call0 hS'
  cases hmy : mayVB f with
  | false =>
    repeat ((conv => whnf); first | (apply q_i; focus (intro w1 hS; (conv => whnf); first | exact ⟨rfl, rfl⟩ | ((first | refine ld_f hS 0 rfl rfl ?_ | refine ldA_f hS 0 rfl rfl ?_); (conv => whnf); exact ⟨rfl, rfl⟩))) | (refine nw_f hS ?_; intro b w1 hS) | refine as_i hS ?_ | refine as_i (hS.subs (List.nil_sublist _) sb9) ?_ | refine as_i (hS.subs (List.Sublist.refl _) sb9) ?_ | refine bar_f hS ?_ | refine ld_f hS 0 rfl rfl ?_ | refine ldA_f hS 0 rfl rfl ?_ | ((first | refine stN_f hS 0 rfl (lb9 rfl) rfl rfl ?_ | refine stM_f hS 0 rfl (lb9 rfl) rfl ?_); (conv => whnf); intro w1 hS) | (refine dr9 hS ?_; intro w1 hS) | refine br_t (by assumption) ?_ | refine br_f (by assumption) ?_)
    exact ⟨rfl, hS.nil⟩
  | true =>
    repeat ((conv => whnf); first | (apply q_i; focus (intro w1 hS; (conv => whnf); first | exact ⟨rfl, rfl⟩ | ((first | refine ld_f hS 0 rfl rfl ?_ | refine ldA_f hS 0 rfl rfl ?_); (conv => whnf); exact ⟨rfl, rfl⟩))) | (refine nw_f hS ?_; intro b w1 hS) | refine as_i hS ?_ | refine as_i (hS.subs (List.nil_sublist _) sb9) ?_ | refine as_i (hS.subs (List.Sublist.refl _) sb9) ?_ | refine bar_f hS ?_ | refine ld_f hS 0 rfl rfl ?_ | refine ldA_f hS 0 rfl rfl ?_ | ((first | refine stN_f hS 0 rfl (lb9 rfl) rfl rfl ?_ | refine stM_f hS 0 rfl (lb9 rfl) rfl ?_); (conv => whnf); intro w1 hS) | (refine dr9 hS ?_; intro w1 hS) | refine br_t (by assumption) ?_ | refine br_f (by assumption) ?_)
    obtain ⟨bw, hbw⟩ : ∃ x, x = b := ⟨b, rfl⟩
    subst hbw
    replace hS : Sf [] w _ ([(bw, Obj.cells #[.slice none 0 0] 98 (0, 0))] ++ []) [(_, .cells (vecF f).toArray 37 (0, 0))] := ⟨hS.st⟩
    refine loop_i TB_ok (fun i : Nat => [(10, .int .i64 i), (4, .int .u8 (bitsN f i))]) (fun i w' => i ≤ 8 ∧ ∃ L', Wr bw (numsN f i) L' ∧ Sf [] w w' (L' ++ []) [(_, .cells (vecF f).toArray 37 (0, 0))]) (fun i => 8 - i) 0 rfl ⟨Nat.zero_le _, _, Wr.new bw, hS⟩ ?_
    rintro i us w2 ⟨hi, L', hW, hS⟩
    (conv => whnf)
    refine br_i (fun hb => ?_) (fun hb => ?_)
    · have hlt : i < 8 := by have := of_decide_eq_true hb; omega
      have hfi := hf i hlt
      have hbl := bitsN_lt f i
      have hnl := numsN_len f i
      repeat ((conv => whnf); first | (apply q_i; focus (intro w1 hS; (conv => whnf); first | exact ⟨rfl, rfl⟩ | ((refine .mk ⟨by omega, by omega⟩ ?_); (conv => whnf); exact ⟨rfl, rfl⟩) | ((refine ldv_f hS 0 rfl hlt (by show 0 + i * 1 = i; omega) ?_); (conv => whnf); exact ⟨rfl, rfl⟩) | ((refine stv_f hS 0 rfl hlt (by show 0 + i * 1 = i; omega) ?_; (conv => whnf); intro w1 hS); (conv => whnf); exact ⟨rfl, rfl⟩))) | (refine nw_f hS ?_; intro b w1 hS) | refine as_i hS ?_ | refine as_i (hS.subs (List.nil_sublist _) sb9) ?_ | refine as_i (hS.subs (List.Sublist.refl _) sb9) ?_ | refine bar_f hS ?_ | refine .mk ⟨by omega, by omega⟩ ?_ | refine ldv_f hS 0 rfl hlt (by show 0 + i * 1 = i; omega) ?_ | (refine stv_f hS 0 rfl hlt (by show 0 + i * 1 = i; omega) ?_; (conv => whnf); intro w1 hS) | (refine dr9 hS ?_; intro w1 hS) | refine br_t (by assumption) ?_ | refine br_f (by assumption) ?_)
      refine br_i (fun h1 => ?_) (fun h1 => ?_)
      · have h1' : 0 < f i := of_decide_eq_true h1
        repeat ((conv => whnf); first | (apply q_i; focus (intro w1 hS; (conv => whnf); first | exact ⟨rfl, rfl⟩ | ((refine .mk ⟨by omega, by omega⟩ ?_); (conv => whnf); exact ⟨rfl, rfl⟩) | ((refine ldv_f hS 0 rfl hlt (by show 0 + i * 1 = i; omega) ?_); (conv => whnf); exact ⟨rfl, rfl⟩) | ((refine stv_f hS 0 rfl hlt (by show 0 + i * 1 = i; omega) ?_; (conv => whnf); intro w1 hS); (conv => whnf); exact ⟨rfl, rfl⟩) | ((refine .mk (by show (0 : Int) ≤ ((i : Nat) : Int); omega) ?_); (conv => whnf); exact ⟨rfl, rfl⟩))) | (refine nw_f hS ?_; intro b w1 hS) | refine as_i hS ?_ | refine as_i (hS.subs (List.nil_sublist _) sb9) ?_ | refine as_i (hS.subs (List.Sublist.refl _) sb9) ?_ | refine bar_f hS ?_ | refine .mk ⟨by omega, by omega⟩ ?_ | refine ldv_f hS 0 rfl hlt (by show 0 + i * 1 = i; omega) ?_ | (refine stv_f hS 0 rfl hlt (by show 0 + i * 1 = i; omega) ?_; (conv => whnf); intro w1 hS) | (refine .mk (by show (0 : Int) ≤ ((i : Nat) : Int); omega) ?_) | (refine dr9 hS ?_; intro w1 hS) | refine br_t (by assumption) ?_ | refine br_f (by assumption) ?_)
        refine fc_m (wvar_c bw _ _ hW (f i) hfi.1 hfi.2 _ hS.ownF (by omega)) ?_
        rintro v w3 ⟨L2, hW2, hS'⟩
        replace hS := hS.callW hS'
        repeat ((conv => whnf); first | (apply q_i; focus (intro w1 hS; (conv => whnf); first | exact ⟨rfl, rfl⟩)) | (refine nw_f hS ?_; intro b w1 hS) | refine as_i hS ?_ | refine as_i (hS.subs (List.nil_sublist _) sb9) ?_ | refine as_i (hS.subs (List.Sublist.refl _) sb9) ?_ | refine bar_f hS ?_ | (refine dr9 hS ?_; intro w1 hS) | refine br_t (by assumption) ?_ | refine br_f (by assumption) ?_)
        refine ⟨rfl, i + 1, ?_, ⟨by omega, L2, ?_, hS⟩, by omega⟩
        · have e1 : bitsN f (i + 1) = bOr .u8 (bitsN f i) (bShl .u8 1 (i : Int)) := by rw [orBit' hbl.1 hbl.2 hlt, bitsN, if_pos h1']
          rw [wi8 hlt, e1]
          rfl
        · rw [numsN, if_pos h1']
          exact hW2
      · have h1' : ¬ 0 < f i := of_decide_eq_false h1
        repeat ((conv => whnf); first | (apply q_i; focus (intro w1 hS; (conv => whnf); first | exact ⟨rfl, rfl⟩)) | (refine nw_f hS ?_; intro b w1 hS) | refine as_i hS ?_ | refine as_i (hS.subs (List.nil_sublist _) sb9) ?_ | refine as_i (hS.subs (List.Sublist.refl _) sb9) ?_ | refine bar_f hS ?_ | (refine dr9 hS ?_; intro w1 hS) | refine br_t (by assumption) ?_ | refine br_f (by assumption) ?_)
        refine ⟨rfl, i + 1, ?_, ⟨by omega, L', ?_, hS⟩, by omega⟩
        · rw [wi8 hlt, show bitsN f (i + 1) = bitsN f i from by rw [bitsN, if_neg h1']]
          rfl
        · rw [numsN, if_neg h1']
          exact hW
    · have hge : i = 8 := by have := of_decide_eq_false hb; omega
      subst hge
      have hbl := bitsN_lt f 8
      have hnl := numsN_len f 8
      generalize bitsN f 8 = bits at *
      generalize numsN f 8 = nums at *
      repeat ((conv => whnf); first | (apply q_i; focus (intro w1 hS; (conv => whnf); first | exact ⟨rfl, rfl⟩)) | (refine nw_f hS ?_; intro b w1 hS) | refine as_i hS ?_ | refine as_i (hS.subs (List.nil_sublist _) sb9) ?_ | refine as_i (hS.subs (List.Sublist.refl _) sb9) ?_ | refine bar_f hS ?_ | refine br_t (by assumption) ?_ | refine br_f (by assumption) ?_)
      refine drawf (Ls := []) TB_ok rfl (by kernel_rfl) (by kernel_rfl) hS (List.nil_sublist _) (List.nil_sublist _) ?_; intro w1 hS
      repeat' ((conv => whnf); first | refine And.intro ?_ ?_ | (apply q_i; focus (intro w1 hS; (conv => whnf); first | exact ⟨rfl, rfl⟩ | ((refine str_i (rdB hbl.1 hbl.2 (hS.rd 0 rfl)) rfl ?_); (conv => whnf); exact ⟨rfl, rfl⟩) | ((refine .mk (by show (strY [yI bits]).size + _ ≤ _; rw [hs, strY_size, strY_size]; simp; omega) ?_); (conv => whnf); exact ⟨rfl, rfl⟩))) | (refine nw_f hS ?_; intro b w1 hS) | refine as_i hS ?_ | refine as_i (hS.subs (List.nil_sublist _) sb9) ?_ | refine as_i (hS.subs (List.Sublist.refl _) sb9) ?_ | refine bar_f hS ?_ | refine str_i (rdB hbl.1 hbl.2 (hS.rd 0 rfl)) rfl ?_ | (refine fc_m (bytesE hW hS.ownF) ?_; rintro v w3 ⟨s, rfl, hs, hS'⟩; replace hS := hS.call0 hS') | refine .mk (by show (strY [yI bits]).size + _ ≤ _; rw [hs, strY_size, strY_size]; simp; omega) ?_ | (refine dr9 hS ?_; intro w1 hS) | refine br_t (by assumption) ?_ | refine br_f (by assumption) ?_)
      all_goals first
        | exact hS.nil
        | (rw [hs, strY_append]; rfl)

def bitB (b : Int) (i : Nat) : Bool := (b / 2 ^ i) % 2 == 1
end Go.RV

set_option maxRecDepth 20000
set_option linter.unusedVariables false
set_option linter.unusedSimpArgs false
namespace Go.RV
open Go Go.Proofs

theorem eqDotF (r n r2 n2 : Int) (w : World) : (Op.eqFields 9999 #[.int .u8 r, .int .u32 n] #[.int .u8 r2, .int .u32 n2] (Tryz.prog.fieldsOf 92).toList).run Tryz.prog w = .ok ((r == r2) && ((n == n2) && true)) w := by
  simp only [Program.fieldsOf, Tryz.underlying92]
  exact eqF_cons (d := 9998) rfl rfl rfl (.int Tryz.underlying5) (eqF_cons rfl rfl rfl (.int Tryz.underlying32) eqF_nil)
theorem fieldsDot : Tryz.prog.underlying 92 = some (.struct (Tryz.prog.fieldsOf 92)) := by
  unfold Program.fieldsOf
  rw [Tryz.underlying92]
theorem eqDot (r n r2 n2 : Int) {ox oy : Operand} {w : World} {K : Value → World → Prop} (k : K (.bool ((r == r2) && ((n == n2) && true))) w) :
    SemN Tryz.prog (do eqGuard .eql 92 ox oy (dotV r n) (dotV r2 n2); binOp .eql 92 (dotV r n) (dotV r2 n2)) w K :=
  eqS_i (by kernel_rfl) fieldsDot (by kernel_rfl) (eqDotF r n r2 n2 w) k
theorem neDot (r n r2 n2 : Int) {ox oy : Operand} {w : World} {K : Value → World → Prop} (k : K (.bool (!((r == r2) && ((n == n2) && true)))) w) :
    SemN Tryz.prog (do eqGuard .neq 92 ox oy (dotV r n) (dotV r2 n2); binOp .neq 92 (dotV r n) (dotV r2 n2)) w K :=
  neS_i (by kernel_rfl) fieldsDot (by kernel_rfl) (eqDotF r n r2 n2 w) k

end Go.RV

set_option maxRecDepth 20000
set_option linter.unusedVariables false
set_option linter.unusedSimpArgs false
namespace Go.RV
open Go Go.Proofs

theorem rmay_c (f : Nat → Int) (w : World) : Fc Tryz.prog 45 [vecV f] w fun v w' => v = .bool (mayVB f) ∧ St [] w w' [] := by
  refine fc_i TB_ok Tryz.func45 rfl (by kernel_rfl) ?_
  have hS := Sf.refl w
  unfold mayVB
  repeat ((conv => whnf); first | (apply q_i; focus (intro w1 hS; (conv => whnf); first | exact ⟨rfl, rfl⟩ | ((first | refine ld_f hS 0 rfl rfl ?_ | refine ldA_f hS 0 rfl rfl ?_); (conv => whnf); exact ⟨rfl, rfl⟩))) | (refine nw_f hS ?_; intro b w1 hS) | refine as_i hS ?_ | refine as_i (hS.subs (List.nil_sublist _) sb9) ?_ | refine as_i (hS.subs (List.Sublist.refl _) sb9) ?_ | refine bar_f hS ?_ | refine ld_f hS 0 rfl rfl ?_ | refine ldA_f hS 0 rfl rfl ?_ | ((first | refine stN_f hS 0 rfl (lb9 rfl) rfl rfl ?_ | refine stM_f hS 0 rfl (lb9 rfl) rfl ?_); (conv => whnf); intro w1 hS) | (refine dr9 hS ?_; intro w1 hS) | refine br_t (by assumption) ?_ | refine br_f (by assumption) ?_)
  refine loop_i TB_ok (fun i : Nat => [(3, .int .i64 i)]) (fun i w' => i ≤ 8 ∧ anyJ (fun j => decide (65535 < f j)) i = false ∧ Sf [] w w' [] [(_, .cells (vecF f).toArray 37 (0, 0))]) (fun i => 8 - i) 0 rfl ⟨Nat.zero_le _, rfl, hS⟩ ?_
  rintro i us w2 ⟨hi, hno, hS⟩
  (conv => whnf)
  refine br_i (fun hb => ?_) (fun hb => ?_)
  · have hlt : i < 8 := by have := of_decide_eq_true hb; omega
    repeat ((conv => whnf); first | (apply q_i; focus (intro w1 hS; (conv => whnf); first | exact ⟨rfl, rfl⟩ | ((refine .mk ⟨by omega, by omega⟩ ?_); (conv => whnf); exact ⟨rfl, rfl⟩) | ((refine ldv_f hS 0 rfl hlt (by show 0 + i * 1 = i; omega) ?_); (conv => whnf); exact ⟨rfl, rfl⟩) | ((refine stv_f hS 0 rfl hlt (by show 0 + i * 1 = i; omega) ?_; (conv => whnf); intro w1 hS); (conv => whnf); exact ⟨rfl, rfl⟩))) | (refine nw_f hS ?_; intro b w1 hS) | refine as_i hS ?_ | refine as_i (hS.subs (List.nil_sublist _) sb9) ?_ | refine as_i (hS.subs (List.Sublist.refl _) sb9) ?_ | refine bar_f hS ?_ | refine .mk ⟨by omega, by omega⟩ ?_ | refine ldv_f hS 0 rfl hlt (by show 0 + i * 1 = i; omega) ?_ | (refine stv_f hS 0 rfl hlt (by show 0 + i * 1 = i; omega) ?_; (conv => whnf); intro w1 hS) | (refine dr9 hS ?_; intro w1 hS) | refine br_t (by assumption) ?_ | refine br_f (by assumption) ?_)
    refine br_i (fun h1 => ?_) (fun h1 => ?_)
    · repeat ((conv => whnf); first | (apply q_i; focus (intro w1 hS; (conv => whnf); first | exact ⟨rfl, rfl⟩ | ((first | refine ld_f hS 0 rfl rfl ?_ | refine ldA_f hS 0 rfl rfl ?_); (conv => whnf); exact ⟨rfl, rfl⟩))) | (refine nw_f hS ?_; intro b w1 hS) | refine as_i hS ?_ | refine as_i (hS.subs (List.nil_sublist _) sb9) ?_ | refine as_i (hS.subs (List.Sublist.refl _) sb9) ?_ | refine bar_f hS ?_ | refine ld_f hS 0 rfl rfl ?_ | refine ldA_f hS 0 rfl rfl ?_ | ((first | refine stN_f hS 0 rfl (lb9 rfl) rfl rfl ?_ | refine stM_f hS 0 rfl (lb9 rfl) rfl ?_); (conv => whnf); intro w1 hS) | (refine dr9 hS ?_; intro w1 hS) | refine br_t (by assumption) ?_ | refine br_f (by assumption) ?_)
      have : anyJ (fun j => decide (65535 < f j)) 8 = true := anyJ_iff.2 ⟨i, hlt, h1⟩
      exact ⟨by rw [this]; rfl, hS.nil⟩
    · repeat ((conv => whnf); first | (apply q_i; focus (intro w1 hS; (conv => whnf); first | exact ⟨rfl, rfl⟩ | ((first | refine ld_f hS 0 rfl rfl ?_ | refine ldA_f hS 0 rfl rfl ?_); (conv => whnf); exact ⟨rfl, rfl⟩))) | (refine nw_f hS ?_; intro b w1 hS) | refine as_i hS ?_ | refine as_i (hS.subs (List.nil_sublist _) sb9) ?_ | refine as_i (hS.subs (List.Sublist.refl _) sb9) ?_ | refine bar_f hS ?_ | refine ld_f hS 0 rfl rfl ?_ | refine ldA_f hS 0 rfl rfl ?_ | ((first | refine stN_f hS 0 rfl (lb9 rfl) rfl rfl ?_ | refine stM_f hS 0 rfl (lb9 rfl) rfl ?_); (conv => whnf); intro w1 hS) | (refine dr9 hS ?_; intro w1 hS) | refine br_t (by assumption) ?_ | refine br_f (by assumption) ?_)
      refine ⟨rfl, i + 1, ?_, ⟨by omega, ?_, hS⟩, by omega⟩
      · rw [wi8 hlt]
        rfl
      · rw [anyJ, hno, h1]
        rfl
  · have hge : i = 8 := by have := of_decide_eq_false hb; omega
    subst hge
    repeat ((conv => whnf); first | (apply q_i; focus (intro w1 hS; (conv => whnf); first | exact ⟨rfl, rfl⟩ | ((first | refine ld_f hS 0 rfl rfl ?_ | refine ldA_f hS 0 rfl rfl ?_); (conv => whnf); exact ⟨rfl, rfl⟩))) | (refine nw_f hS ?_; intro b w1 hS) | refine as_i hS ?_ | refine as_i (hS.subs (List.nil_sublist _) sb9) ?_ | refine as_i (hS.subs (List.Sublist.refl _) sb9) ?_ | refine bar_f hS ?_ | refine ld_f hS 0 rfl rfl ?_ | refine ldA_f hS 0 rfl rfl ?_ | ((first | refine stN_f hS 0 rfl (lb9 rfl) rfl rfl ?_ | refine stM_f hS 0 rfl (lb9 rfl) rfl ?_); (conv => whnf); intro w1 hS) | (refine dr9 hS ?_; intro w1 hS) | refine br_t (by assumption) ?_ | refine br_f (by assumption) ?_)
    exact ⟨by rw [hno]; rfl, hS.nil⟩

theorem pow8 {i : Nat} (h : i ≤ 8) : (0 : Int) < 2 ^ i ∧ (2 : Int) ^ i ≤ 256 := by
  have h9 : i = 0 ∨ i = 1 ∨ i = 2 ∨ i = 3 ∨ i = 4 ∨ i = 5 ∨ i = 6 ∨ i = 7 ∨ i = 8 := by omega
  rcases h9 with rfl | rfl | rfl | rfl | rfl | rfl | rfl | rfl | rfl <;> decide
end Go.RV

set_option linter.unusedVariables false
set_option linter.unusedSimpArgs false
namespace Go.RV
open Go Go.Proofs

theorem bit_lo {B : Int} {i k : Nat} (hi : i < k) : (B + 2 ^ k) / 2 ^ i % 2 = B / 2 ^ i % 2 := by
  obtain ⟨d, rfl⟩ : ∃ d, k = i + (d + 1) := ⟨k - i - 1, by omega⟩
  have e : (2 : Int) ^ (i + (d + 1)) = 2 ^ i * (2 * 2 ^ d) := by rw [Int.pow_add, Int.pow_succ, Int.mul_comm (2 ^ d) 2]
  have hp : (2 : Int) ^ i ≠ 0 := Int.ne_of_gt (Int.pow_pos (by decide))
  rw [e, Int.add_mul_ediv_left _ _ hp, Int.add_mul_emod_self_left]
theorem bit_hi {B : Int} {k : Nat} (h0 : 0 ≤ B) (h1 : B < 2 ^ k) : (B + 2 ^ k) / 2 ^ k % 2 = 1 ∧ B / 2 ^ k % 2 = 0 := by
  have hp : (2 : Int) ^ k ≠ 0 := Int.ne_of_gt (Int.pow_pos (by decide))
  have e := Int.add_mul_ediv_left B 1 hp
  rw [Int.mul_one] at e
  rw [e, Int.ediv_eq_zero_of_lt h0 h1]
  decide
theorem bitsN_bit (f : Nat → Int) : ∀ k i, i < k → bitB (bitsN f k) i = decide (0 < f i)
  | 0, _, h => by omega
  | k+1, i, h => by
    have hb := bitsN_lt f k
    unfold bitB bitsN
    by_cases e : i = k
    · subst e
      have h2 := bit_hi hb.1 hb.2
      by_cases hf : 0 < f i
      · rw [if_pos hf, h2.1]; simp [hf]
      · rw [if_neg hf, h2.2]; simp [hf]
    · have ih := bitsN_bit f k i (by omega)
      unfold bitB at ih
      by_cases hf : 0 < f k
      · rw [if_pos hf, bit_lo (by omega), ih]
      · rw [if_neg hf, ih]
theorem mayVB_congr {f g : Nat → Int} (h : ∀ j, j < 8 → f j = g j) : mayVB f = mayVB g := by
  unfold mayVB
  congr 1
  rw [Bool.eq_iff_iff, anyJ_iff, anyJ_iff]
  constructor
  · rintro ⟨j, hj, hp⟩; exact ⟨j, hj, by rw [← h j hj]; exact hp⟩
  · rintro ⟨j, hj, hp⟩; exact ⟨j, hj, by rw [h j hj]; exact hp⟩
end Go.RV

set_option linter.unusedVariables false
set_option linter.unusedSimpArgs false
namespace Go.RV
open Go Go.RowKit

theorem St.of_below' {w w' : World} (h : Below w.heap.size w w') : St [] w w' [] :=
  ⟨h.os, h.tape, h.output, h.size, fun k hk _ => h.block k hk, fun _ _ h => (nomatch h), fun _ _ h => (nomatch h), by simp⟩
theorem Sl.le {e sz : Nat} {A : Option Addr} {c n : Nat} {cs : List Value} {Lv : LM} (h : Sl e sz (.slice A n c) n cs Lv) : n ≤ c := by
  cases h with
  | nil => exact Nat.le_refl _
  | blk b cap n cs cur h1 h2 h3 h4 => exact h1

section
variable {P : Program} {M : List Nat} {w0 w w' : World} {F G H L : LM}
theorem pc {α : Type} {l l' : List α} (h : ∀ [BEq α] [LawfulBEq α] (a : α), l.count a = l'.count a) : l.Perm l' := by
  classical
  exact List.perm_iff_count.2 fun a => h a
end

/-- an element that holds an own slice of pairs (number, number) beside a text -/
structure Gx where
  v : List UInt8
  ds : List (Int × Int)
  A : Option Addr
  c : Nat
  L : LM
def encD (d : Int × Int) : List Value := [.int .u8 d.1, .int .u32 d.2]
def encG (x : Gx) : List Value := [.string (strY x.v), .slice x.A x.ds.length x.c]
def GOk (eD : Nat) (x : Gx) : Prop := Sl eD 2 (.slice x.A x.ds.length x.c) x.ds.length (flat encD x.ds) x.L
def gsL (gs : List Gx) : LM := (gs.map (·.L)).flatten
/-- such elements, all in blocks of the call's own -/
structure Gr (eG eD : Nat) (v : Value) (gs : List Gx) (Lm : LM) : Prop where
  out : ∃ Lv, Sl eG 2 v gs.length (flat encG gs) Lv ∧ (∀ x ∈ gs, GOk eD x) ∧ Lm = Lv ++ gsL gs
theorem Gr.nil (eG eD : Nat) : Gr eG eD (.slice none 0 0) [] [] := ⟨[], .nil, by simp, rfl⟩
section
variable {P : Program} {M : List Nat} {w0 w w' : World} {F L Lm : LM} {eG eD : Nat} {v : Value} {gs : List Gx}
theorem Gr.open (h : Gr eG eD v gs Lm) : ∃ A c, v = .slice A gs.length c ∧ Gr eG eD (.slice A gs.length c) gs Lm ∧ gs.length ≤ c := by
  obtain ⟨Lv, hv, h1, h2⟩ := h.out
  obtain ⟨A, c, rfl, hv⟩ := hv.open
  exact ⟨A, c, rfl, ⟨Lv, hv, h1, h2⟩, hv.le⟩
theorem Gr.rd {A : Option Addr} {c : Nat} (h : Gr eG eD (.slice A gs.length c) gs Lm) (hS : Sf M w0 w (Lm ++ F) L) : Rd w A (flat encG gs) := by
  obtain ⟨Lv, hv, h1, rfl⟩ := h.out
  exact hv.rdF (F := gsL gs ++ F) (by simpa using hS)
theorem Gr.ok (h : Gr eG eD v gs Lm) {k : Nat} (hk : k < gs.length) : GOk eD gs[k] := by
  obtain ⟨Lv, hv, h1, h2⟩ := h.out
  exact h1 _ (List.getElem_mem hk)
end
end Go.RV
