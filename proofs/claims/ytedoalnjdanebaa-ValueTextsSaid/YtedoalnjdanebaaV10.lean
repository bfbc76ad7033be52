/- Contracts of functions of chapter 1: a text that is read, and the document's reader. Conditions: none. -/
import Derived.Test.YtedoalnjdanebaaV9
set_option maxRecDepth 20000
set_option linter.unusedVariables false
set_option linter.unusedSimpArgs false
namespace Go.RV
open Go Go.Proofs

theorem varRF_bound : ∀ (f k : Nat) (n : Int) (s : RS), f + k = 5 → 0 ≤ n → n < 2 ^ (7 * k) → 0 ≤ (varRF f k n s).1 ∧ (varRF f k n s).1 ≤ 4294967295
  | 0, _, _, _, _, _, _ => by simp [varRF]
  | f+1, k, n, s, hk, h0, h1 => by
    rw [varRF]
    split
    · simp
    · split
      · simp
      · rename_i c t hr
        split
        · simp
        · rename_i hB
          have hc := c.toNat_lt
          have hlt : n + (c.toNat % 128 : Nat) * 2 ^ (7 * k) ≤ 4294967295 ∧ (k ≤ 3 → n + (c.toNat % 128 : Nat) * 2 ^ (7 * k) < 2 ^ (7 * (k + 1))) := by
            have hk5 : k = 0 ∨ k = 1 ∨ k = 2 ∨ k = 3 ∨ k = 4 := by omega
            rcases hk5 with rfl | rfl | rfl | rfl | rfl <;> simp at h1 hB ⊢ <;> omega
          have h0' : 0 ≤ n + (c.toNat % 128 : Nat) * 2 ^ (7 * k) := Int.add_nonneg h0 (Int.mul_nonneg (Int.natCast_nonneg _) (Int.pow_nonneg (by decide)))
          split
          · exact ⟨h0', hlt.1⟩
          · by_cases hk3 : k ≤ 3
            · exact varRF_bound f (k + 1) _ _ (by omega) h0' (hlt.2 hk3)
            · obtain rfl : f = 0 := by omega
              simp [varRF]
theorem varR_bound (s : RS) : 0 ≤ (varR s).1 ∧ (varR s).1 ≤ 4294967295 := varRF_bound 5 0 0 s rfl (by decide) (by decide)
def textR (s : RS) : List UInt8 × RS := fixedR (varR s).2 (varR s).1
/-- the document's reader: of this text, in this state -/
def qdO (S : List UInt8) (a : Nat) (e : Int) : Obj := .cells #[.string (strY S), .int .i64 a, .int .i64 e] 50 (0, 0)
structure QR (b : Nat) (S : List UInt8) (s : RS) (L : LM) : Prop where
  out : ∃ a : Nat, L = [(b, qdO S a s.e)] ∧ a ≤ S.length ∧ (s.e = 0 → s.rest = S.drop a) ∧ (s.e ≠ 0 → s.rest = [])
theorem qfixed_c (b : Nat) (S : List UInt8) (s : RS) (L : LM) (hQ : QR b S s L) (hs : S.length ≤ 4611686018427387904) (n : Int) (w : World) (hS : St (keys L) w w L) :
    Fc Try.prog 50 [.pointer (some ⟨b, 0, none⟩), .int .i64 n] w fun v w' => v = .string (strY (fixedR s n).1) ∧ ∃ L', QR b S (fixedR s n).2 L' ∧ St (keys L) w w' L' := by
  refine fc_i TB_ok Try.func50 rfl (by kernel_rfl) ?_
  obtain ⟨a, rfl, ha, hr0, hr1⟩ := hQ.out
  have hS : Sf (keys [(b, qdO S a s.e)]) w w [] [(b, .cells #[.string (strY S), .int .i64 a, .int .i64 s.e] 50 (0, 0))] := ⟨hS⟩
  have hsz := strY_size S
  have ed : IntKind.i64.wrap (((strY S).size : Int) - (a : Int)) = ((S.length - a : Nat) : Int) := by rw [hsz, wrap_i64 (by omega) (by omega)]; omega
  by_cases hc : s.e ≠ 0 ∨ n ≤ 0
  · rw [fixedR, if_pos hc]
    repeat' ((conv => whnf); first | (refine nw_f hS ?_; intro b w1 hS) | (refine ld_f hS 0 rfl rfl ?_) | (refine ldA_f hS 0 rfl rfl ?_) | (refine stN_f hS 0 rfl (Nat.le_of_ble_eq_true rfl) rfl rfl ?_; (conv => whnf); intro w1 hS) | (refine stM_f hS 0 rfl (Nat.le_of_ble_eq_true rfl) rfl ?_; (conv => whnf); intro w1 hS) | (refine br_i (fun _ => ?_) (fun _ => ?_)))
    all_goals first
      | exact ⟨rfl, _, hQ, hS.st⟩
      | (exfalso; simp at *; omega)
  · have he : s.e = 0 := by omega
    have hn : 0 < n := by omega
    have hrl : s.rest.length = S.length - a := by rw [hr0 he]; simp
    repeat ((conv => whnf); first | (refine nw_f hS ?_; intro b w1 hS) | (refine ld_f hS 0 rfl rfl ?_) | (refine ldA_f hS 0 rfl rfl ?_) | (refine stN_f hS 0 rfl (Nat.le_of_ble_eq_true rfl) rfl rfl ?_; (conv => whnf); intro w1 hS) | (refine stM_f hS 0 rfl (Nat.le_of_ble_eq_true rfl) rfl ?_; (conv => whnf); intro w1 hS))
    refine br_f (by simp [he]) ?_
    repeat ((conv => whnf); first | (refine nw_f hS ?_; intro b w1 hS) | (refine ld_f hS 0 rfl rfl ?_) | (refine ldA_f hS 0 rfl rfl ?_) | (refine stN_f hS 0 rfl (Nat.le_of_ble_eq_true rfl) rfl rfl ?_; (conv => whnf); intro w1 hS) | (refine stM_f hS 0 rfl (Nat.le_of_ble_eq_true rfl) rfl ?_; (conv => whnf); intro w1 hS))
    refine br_f (by simpa using hn) ?_
    repeat ((conv => whnf); first | (refine nw_f hS ?_; intro b w1 hS) | (refine as_i hS ?_) | (refine as_i (hS.subs (List.nil_sublist _) (by repeat (first | exact List.Sublist.refl _ | apply List.Sublist.cons_cons | apply List.Sublist.cons))) ?_) | (refine bar_f hS ?_) | (refine ld_f hS 0 rfl rfl ?_) | (refine ldA_f hS 0 rfl rfl ?_) | (refine stN_f hS 0 rfl (Nat.le_of_ble_eq_true rfl) rfl rfl ?_; (conv => whnf); intro w1 hS) | (refine stM_f hS 0 rfl (Nat.le_of_ble_eq_true rfl) rfl ?_; (conv => whnf); intro w1 hS) | (refine drawf TB_ok rfl (by kernel_rfl) (by kernel_rfl) hS (List.Sublist.refl _) (List.Sublist.refl _) ?_; intro w1 hS) | (refine br_t (by assumption) ?_) | (refine br_f (by assumption) ?_) | (apply q_i; focus (intro w1 hS; (conv => whnf); first | exact ⟨rfl, rfl⟩ | ((refine ld_f hS 0 rfl rfl ?_); (conv => whnf); exact ⟨rfl, rfl⟩) | ((refine ldA_f hS 0 rfl rfl ?_); (conv => whnf); exact ⟨rfl, rfl⟩))))
    refine br_i (fun h2 => ?_) (fun h2 => ?_)
    · have h2' : (s.rest.length : Int) < n := by have := of_decide_eq_true h2; omega
      rw [fixedR, if_neg hc, if_pos h2']
      repeat ((conv => whnf); first | (refine nw_f hS ?_; intro b w1 hS) | (refine as_i hS ?_) | (refine as_i (hS.subs (List.nil_sublist _) (by repeat (first | exact List.Sublist.refl _ | apply List.Sublist.cons_cons | apply List.Sublist.cons))) ?_) | (refine bar_f hS ?_) | (refine ld_f hS 0 rfl rfl ?_) | (refine ldA_f hS 0 rfl rfl ?_) | (refine stN_f hS 0 rfl (Nat.le_of_ble_eq_true rfl) rfl rfl ?_; (conv => whnf); intro w1 hS) | (refine stM_f hS 0 rfl (Nat.le_of_ble_eq_true rfl) rfl ?_; (conv => whnf); intro w1 hS) | (refine drawf TB_ok rfl (by kernel_rfl) (by kernel_rfl) hS (List.Sublist.refl _) (List.Sublist.refl _) ?_; intro w1 hS) | (refine br_t (by assumption) ?_) | (refine br_f (by assumption) ?_) | (apply q_i; focus (intro w1 hS; (conv => whnf); first | exact ⟨rfl, rfl⟩ | ((refine ld_f hS 0 rfl rfl ?_); (conv => whnf); exact ⟨rfl, rfl⟩) | ((refine ldA_f hS 0 rfl rfl ?_); (conv => whnf); exact ⟨rfl, rfl⟩))))
      exact ⟨rfl, _, ⟨a, rfl, ha, fun h => absurd h (by decide), fun _ => rfl⟩, hS.st⟩
    · have h2' : ¬ (s.rest.length : Int) < n := by have := of_decide_eq_false h2; omega
      rw [fixedR, if_neg hc, if_neg h2']
      have ea : IntKind.i64.wrap ((a : Int) + n) = ((a + n.toNat : Nat) : Int) := by rw [wrap_i64 (by omega) (by omega)]; omega
      have eb : IntKind.i64.wrap (IntKind.i64.wrap ((a : Int) + n) - n) = (a : Int) := by rw [ea, wrap_i64 (by omega) (by omega)]; omega
      have e3 : (strY S).extract (IntKind.i64.wrap (IntKind.i64.wrap ((a : Int) + n) - n)).toNat (IntKind.i64.wrap ((a : Int) + n)).toNat = strY (s.rest.take n.toNat) := by
        rw [eb, ea, strY_extract, hr0 he, List.drop_take]
        simp only [Int.toNat_natCast]
        rw [show a + n.toNat - a = n.toNat from by omega]
      repeat ((conv => whnf); first | (refine nw_f hS ?_; intro b w1 hS) | (refine as_i hS ?_) | (refine as_i (hS.subs (List.nil_sublist _) (by repeat (first | exact List.Sublist.refl _ | apply List.Sublist.cons_cons | apply List.Sublist.cons))) ?_) | (refine bar_f hS ?_) | (refine ld_f hS 0 rfl rfl ?_) | (refine ldA_f hS 0 rfl rfl ?_) | (refine stN_f hS 0 rfl (Nat.le_of_ble_eq_true rfl) rfl rfl ?_; (conv => whnf); intro w1 hS) | (refine stM_f hS 0 rfl (Nat.le_of_ble_eq_true rfl) rfl ?_; (conv => whnf); intro w1 hS) | (refine .mk ⟨by rw [ea]; omega, by rw [ea]; omega⟩ ?_; (conv => whnf); refine .mk ⟨by rw [eb]; omega, by rw [eb, ea]; omega⟩ ?_) | (refine drawf TB_ok rfl (by kernel_rfl) (by kernel_rfl) hS (List.Sublist.refl _) (List.Sublist.refl _) ?_; intro w1 hS) | (refine br_t (by assumption) ?_) | (refine br_f (by assumption) ?_) | (apply q_i; focus (intro w1 hS; (conv => whnf); first | exact ⟨rfl, rfl⟩ | ((refine ld_f hS 0 rfl rfl ?_); (conv => whnf); exact ⟨rfl, rfl⟩) | ((refine ldA_f hS 0 rfl rfl ?_); (conv => whnf); exact ⟨rfl, rfl⟩) | ((refine .mk ⟨by rw [ea]; omega, by rw [ea]; omega⟩ ?_; (conv => whnf); refine .mk ⟨by rw [eb]; omega, by rw [eb, ea]; omega⟩ ?_); (conv => whnf); exact ⟨rfl, rfl⟩))))
      refine ⟨congrArg Value.string e3, _, ⟨a + n.toNat, by rw [ea]; rfl, by omega, fun _ => by rw [hr0 he, List.drop_drop], fun h => absurd he h⟩, hS.st⟩

theorem byteAt_strY {l : List UInt8} {i : Nat} (h : i < l.length) : byteAt (strY l) i = (l[i].toNat : Int) := by
  unfold byteAt strY
  simp [h]
theorem qnumber_c (b : Nat) (S : List UInt8) (s : RS) (L : LM) (hQ : QR b S s L) (hs : S.length ≤ 4611686018427387904) (W : Nat) (hW : W ≤ 4) (w : World) (hS : St (keys L) w w L) :
    Fc Try.prog 48 [.pointer (some ⟨b, 0, none⟩), .int .i64 W] w fun v w' => v = .int .u32 (numF 0 (fixedR s W).1) ∧ ∃ L', QR b S (fixedR s W).2 L' ∧ St (keys L) w w' L' := by
  refine fc_i TB_ok Try.func48 rfl (by kernel_rfl) ?_
  have hS : Sf (keys L) w w (L ++ []) [] := ⟨by simpa using hS⟩
  repeat ((conv => whnf); first | (refine nw_f hS ?_; intro b w1 hS) | (refine ld_f hS 0 rfl rfl ?_) | (refine ldA_f hS 0 rfl rfl ?_) | (refine stN_f hS 0 rfl (Nat.le_of_ble_eq_true rfl) rfl rfl ?_; (conv => whnf); intro w1 hS) | (refine stM_f hS 0 rfl (Nat.le_of_ble_eq_true rfl) rfl ?_; (conv => whnf); intro w1 hS))
  refine fc_m (qfixed_c b S s L hQ hs W _ hS.ownF) ?_
  rintro v w1 ⟨rfl, L1, hQ1, hS'⟩
  replace hS := hS.callW hS'
  have hl := fixedR_len s W
  generalize (fixedR s W).1 = bs at *
  generalize (fixedR s W).2 = s2 at *
  have hsz : (strY bs).size = bs.length := strY_size bs
  repeat ((conv => whnf); first | (refine nw_f hS ?_; intro b w1 hS) | (refine ld_f hS 0 rfl rfl ?_) | (refine ldA_f hS 0 rfl rfl ?_) | (refine stN_f hS 0 rfl (Nat.le_of_ble_eq_true rfl) rfl rfl ?_; (conv => whnf); intro w1 hS) | (refine stM_f hS 0 rfl (Nat.le_of_ble_eq_true rfl) rfl ?_; (conv => whnf); intro w1 hS))
  refine loop_i TB_ok (fun i : Nat => [(7, .int .i64 i), (6, .int .u32 (numF 0 (bs.take i)))]) (fun i w' => i ≤ bs.length ∧ Sf (keys L) w w' (L1 ++ []) []) (fun i => bs.length - i) 0 rfl ⟨Nat.zero_le _, hS⟩ ?_
  rintro i us w3 ⟨hi, hS⟩
  (conv => whnf)
  refine br_i (fun hb => ?_) (fun hb => ?_)
  · have hlt : i < bs.length := by have := of_decide_eq_true hb; omega
    have hstep : numF 0 (bs.take (i+1)) = numF 0 (bs.take i) * 256 + (bs[i].toNat : Int) := by
      unfold numF
      rw [List.take_succ_eq_append_getElem hlt, List.foldl_append]
      rfl
    have hbd := numF_bound (bs.take i) 0 (by decide)
    have hpow : (256 : Int) ^ (bs.take i).length ≤ 256 ^ 3 := by
      rw [List.length_take]
      have : min i bs.length ≤ 3 := by omega
      exact_mod_cast Nat.pow_le_pow_right (by decide) this
    have h24 : (256 : Int) ^ 3 = 16777216 := by decide
    have hc := bs[i].toNat_lt
    repeat ((conv => whnf); first | (refine nw_f hS ?_; intro b w1 hS) | (refine ld_f hS 0 rfl rfl ?_) | (refine ldA_f hS 0 rfl rfl ?_) | (refine stN_f hS 0 rfl (Nat.le_of_ble_eq_true rfl) rfl rfl ?_; (conv => whnf); intro w1 hS) | (refine stM_f hS 0 rfl (Nat.le_of_ble_eq_true rfl) rfl ?_; (conv => whnf); intro w1 hS) | (refine .mk ⟨by omega, by omega⟩ ?_))
    have eB : byteAt (strY bs) (i : Int).toNat = (bs[i].toNat : Int) := byteAt_strY hlt
    refine ⟨rfl, i + 1, ?_, ⟨by omega, hS⟩, by omega⟩
    rw [wi hlt (by omega), hstep, eB, wrap_u32 (x := 256 * numF 0 (bs.take i)) (by omega) (by omega), wrap_u32 (x := (bs[i].toNat : Int)) (by omega) (by omega), wrap_u32 (by omega) (by omega), Int.mul_comm]
    rfl
  · have hge : i = bs.length := by have := of_decide_eq_false hb; omega
    subst hge
    repeat ((conv => whnf); first | (refine nw_f hS ?_; intro b w1 hS) | (refine ld_f hS 0 rfl rfl ?_) | (refine ldA_f hS 0 rfl rfl ?_) | (refine stN_f hS 0 rfl (Nat.le_of_ble_eq_true rfl) rfl rfl ?_; (conv => whnf); intro w1 hS) | (refine stM_f hS 0 rfl (Nat.le_of_ble_eq_true rfl) rfl ?_; (conv => whnf); intro w1 hS))
    rw [List.take_length]
    exact ⟨rfl, _, hQ1, by simpa using hS.fr (List.Sublist.refl _)⟩
end Go.RV
