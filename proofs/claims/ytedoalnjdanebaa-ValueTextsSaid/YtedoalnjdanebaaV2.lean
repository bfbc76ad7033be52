/- Contracts of functions of chapter 1: numbers that are written. Conditions: none. -/
import Derived.Test.YtedoalnjdanebaaV1
set_option maxRecDepth 20000
set_option linter.unusedVariables false
set_option linter.unusedSimpArgs false
namespace Go.RV
open Go Go.Proofs

/-- a number's last byte -/
def yI (x : Int) : UInt8 := UInt8.ofNat (x % 256).toNat
theorem yI_val (x : Int) : (((yI x).toNat : Nat) : Int) = x % 256 := by
  unfold yI
  rw [UInt8.toNat_ofNat']
  have h1 : 0 ≤ x % 256 := Int.emod_nonneg _ (by decide)
  have h2 : x % 256 < 256 := Int.emod_lt_of_pos _ (by decide)
  have h3 : (x % 256).toNat % 2 ^ 8 = (x % 256).toNat := Nat.mod_eq_of_lt (by omega)
  rw [h3]
  omega
theorem u8v (x : Int) : [Value.int .u8 (IntKind.u8.wrap x)] = flat encY [yI x] := by
  show _ = [Value.int .u8 (((yI x).toNat : Nat) : Int)]
  rw [yI_val, wrap_u8_mod]
/-- a fixed number's bytes, the highest first -/
def be (n : Int) : Nat → List UInt8
  | 0 => []
  | w+1 => yI (n / 2 ^ (8 * w)) :: be n w
theorem be_len (n : Int) : ∀ w, (be n w).length = w
  | 0 => rfl
  | w+1 => by simp [be, be_len n w]

theorem putv {n : Int} {k : Nat} (h0 : 0 ≤ n) (h1 : n ≤ 4294967295) (hk : k < 4) : IntKind.u8.wrap (bShr .u32 (IntKind.u32.wrap n) (IntKind.i64.wrap (8 * IntKind.i64.wrap (((k + 1 : Nat) : Int) - 1)))) = IntKind.u8.wrap (n / 2 ^ (8 * k)) := by
  rw [wrap_i64 (x := ((k + 1 : Nat) : Int) - 1) (by omega) (by omega), wrap_i64 (by omega) (by omega), wrap_u32 h0 (by omega)]
  unfold bShr
  have e : min (8 * (((k + 1 : Nat) : Int) - 1)).toNat IntKind.u32.bits = 8 * k := by
    have : IntKind.u32.bits = 32 := rfl
    rw [this]
    omega
  rw [e, Int.fdiv_eq_ediv_of_nonneg _ (Int.le_of_lt (Int.pow_pos (by decide)))]
theorem putv' {n : Int} {k : Nat} (h0 : 0 ≤ n) (h1 : n ≤ 4294967295) (hk : k < 4) : IntKind.u8.wrap (bShr .u32 n (IntKind.i64.wrap (8 * IntKind.i64.wrap (((k + 1 : Nat) : Int) - 1)))) = IntKind.u8.wrap (n / 2 ^ (8 * k)) := by
  have := putv h0 h1 hk
  rwa [wrap_u32 h0 (by omega)] at this
theorem putv0 {k : Nat} (hk : k < 4) : 0 ≤ IntKind.i64.wrap (8 * IntKind.i64.wrap (((k + 1 : Nat) : Int) - 1)) := by
  rw [wrap_i64 (x := ((k + 1 : Nat) : Int) - 1) (by omega) (by omega), wrap_i64 (by omega) (by omega)]
  omega

theorem put8_c (bw : Nat) (bs : List UInt8) (L : LM) (hW : Wr bw bs L) (n : Int) (h0 : 0 ≤ n) (h1 : n ≤ 4294967295) (W : Nat) (hWd : W ≤ 4) (w : World) (hS : St (keys L) w w L) (hn : bs.length ≤ 70368744177664) :
    Fc Try.prog 71 [.pointer (some ⟨bw, 0, none⟩), .int .u8 n, .int .i64 W] w fun v w' => ∃ L', Wr bw (bs ++ be n W) L' ∧ St (keys L) w w' L' := by
  refine fc_i TB_ok Try.func71 rfl (by kernel_rfl) ?_
  have hS : Sf (keys L) w w (L ++ []) [] := ⟨by simpa using hS⟩
  repeat ((conv => whnf); first | (refine nw_f hS ?_; intro b w1 hS) | (refine ld_f hS 0 rfl rfl ?_) | (refine ldA_f hS 0 rfl rfl ?_) | (refine stN_f hS 0 rfl (Nat.le_of_ble_eq_true rfl) rfl rfl ?_; (conv => whnf); intro w1 hS) | (refine stM_f hS 0 rfl (Nat.le_of_ble_eq_true rfl) rfl ?_; (conv => whnf); intro w1 hS))
  refine loop_i TB_ok (fun s : Nat × List UInt8 => [(2, .int .i64 s.1)]) (fun s w' => s.1 ≤ W ∧ s.2 ++ be n s.1 = be n W ∧ ∃ L', Wr bw (bs ++ s.2) L' ∧ Sf (keys L) w w' (L' ++ []) []) (fun s => s.1) (W, []) rfl ⟨Nat.le_refl _, rfl, L, by simpa using hW, hS⟩ ?_
  rintro ⟨k, pre⟩ us w2 ⟨hk, hpre, L', hW', hS⟩
  (conv => whnf)
  refine br_i (fun hb => ?_) (fun hb => ?_)
  · have hlt : 0 < k := by simpa using hb
    obtain ⟨k, rfl⟩ : ∃ j, k = j + 1 := ⟨k - 1, by omega⟩
    simp only at hk hpre hW'
    have hplen : pre.length ≤ 4 := by
      have := congrArg List.length hpre
      rw [List.length_append, be_len, be_len] at this
      omega
    repeat ((conv => whnf); first | (refine nw_f hS ?_; intro b w1 hS) | (refine ld_f hS 0 rfl rfl ?_) | (refine ldA_f hS 0 rfl rfl ?_) | (refine stN_f hS 0 rfl (Nat.le_of_ble_eq_true rfl) rfl rfl ?_; (conv => whnf); intro w1 hS) | (refine stM_f hS 0 rfl (Nat.le_of_ble_eq_true rfl) rfl ?_; (conv => whnf); intro w1 hS))
    refine .mk (putv0 (by omega)) ?_
    repeat ((conv => whnf); first | (refine nw_f hS ?_; intro b w1 hS) | (refine ld_f hS 0 rfl rfl ?_) | (refine ldA_f hS 0 rfl rfl ?_) | (refine stN_f hS 0 rfl (Nat.le_of_ble_eq_true rfl) rfl rfl ?_; (conv => whnf); intro w1 hS) | (refine stM_f hS 0 rfl (Nat.le_of_ble_eq_true rfl) rfl ?_; (conv => whnf); intro w1 hS))
    have hRd := hS.rd 0 rfl
    rw [show #[Value.int .u8 (IntKind.u8.wrap (bShr .u32 (IntKind.u32.wrap n) (IntKind.i64.wrap (8 * IntKind.i64.wrap (((k + 1 : Nat) : Int) - 1)))))].toList = flat encY [yI (n / 2 ^ (8 * k))] from by rw [putv h0 h1 (by omega), ← u8v]] at hRd
    refine fc_m (write_c bw (bs ++ pre) [yI (n / 2 ^ (8 * k))] L' hW' _ _ _ hS.ownF hRd (by simp; omega)) ?_
    rintro v w3 ⟨L2, hW2, hS'⟩
    replace hS := hS.callW hS'
    repeat ((conv => whnf); first | (refine nw_f hS ?_; intro b w1 hS) | (refine ld_f hS 0 rfl rfl ?_) | (refine ldA_f hS 0 rfl rfl ?_) | (refine stN_f hS 0 rfl (Nat.le_of_ble_eq_true rfl) rfl rfl ?_; (conv => whnf); intro w1 hS) | (refine stM_f hS 0 rfl (Nat.le_of_ble_eq_true rfl) rfl ?_; (conv => whnf); intro w1 hS))
    refine ⟨rfl, (k, pre ++ [yI (n / 2 ^ (8 * k))]), ?_, ⟨by simp only; omega, ?_, L2, by simpa [List.append_assoc] using hW2, hS.subs (List.Sublist.refl _) (List.nil_sublist _)⟩, by simp⟩
    · have e1 : IntKind.i64.wrap (((k + 1 : Nat) : Int) - 1) = (k : Int) := by rw [wrap_i64 (by omega) (by omega)]; omega
      rw [e1]
      rfl
    · rw [← hpre]
      simp [be]
  · have hge : k = 0 := by simp at hb; omega
    subst hge
    simp only [be, List.append_nil] at hpre
    repeat ((conv => whnf); first | (refine nw_f hS ?_; intro b w1 hS) | (refine ld_f hS 0 rfl rfl ?_) | (refine ldA_f hS 0 rfl rfl ?_) | (refine stN_f hS 0 rfl (Nat.le_of_ble_eq_true rfl) rfl rfl ?_; (conv => whnf); intro w1 hS) | (refine stM_f hS 0 rfl (Nat.le_of_ble_eq_true rfl) rfl ?_; (conv => whnf); intro w1 hS))
    exact ⟨L', by rw [← hpre]; exact hW', by simpa using hS.st⟩
theorem put16_c (bw : Nat) (bs : List UInt8) (L : LM) (hW : Wr bw bs L) (n : Int) (h0 : 0 ≤ n) (h1 : n ≤ 4294967295) (W : Nat) (hWd : W ≤ 4) (w : World) (hS : St (keys L) w w L) (hn : bs.length ≤ 70368744177664) :
    Fc Try.prog 72 [.pointer (some ⟨bw, 0, none⟩), .int .u16 n, .int .i64 W] w fun v w' => ∃ L', Wr bw (bs ++ be n W) L' ∧ St (keys L) w w' L' := by
  refine fc_i TB_ok Try.func72 rfl (by kernel_rfl) ?_
  have hS : Sf (keys L) w w (L ++ []) [] := ⟨by simpa using hS⟩
  repeat ((conv => whnf); first | (refine nw_f hS ?_; intro b w1 hS) | (refine ld_f hS 0 rfl rfl ?_) | (refine ldA_f hS 0 rfl rfl ?_) | (refine stN_f hS 0 rfl (Nat.le_of_ble_eq_true rfl) rfl rfl ?_; (conv => whnf); intro w1 hS) | (refine stM_f hS 0 rfl (Nat.le_of_ble_eq_true rfl) rfl ?_; (conv => whnf); intro w1 hS))
  refine loop_i TB_ok (fun s : Nat × List UInt8 => [(2, .int .i64 s.1)]) (fun s w' => s.1 ≤ W ∧ s.2 ++ be n s.1 = be n W ∧ ∃ L', Wr bw (bs ++ s.2) L' ∧ Sf (keys L) w w' (L' ++ []) []) (fun s => s.1) (W, []) rfl ⟨Nat.le_refl _, rfl, L, by simpa using hW, hS⟩ ?_
  rintro ⟨k, pre⟩ us w2 ⟨hk, hpre, L', hW', hS⟩
  (conv => whnf)
  refine br_i (fun hb => ?_) (fun hb => ?_)
  · have hlt : 0 < k := by simpa using hb
    obtain ⟨k, rfl⟩ : ∃ j, k = j + 1 := ⟨k - 1, by omega⟩
    simp only at hk hpre hW'
    have hplen : pre.length ≤ 4 := by
      have := congrArg List.length hpre
      rw [List.length_append, be_len, be_len] at this
      omega
    repeat ((conv => whnf); first | (refine nw_f hS ?_; intro b w1 hS) | (refine ld_f hS 0 rfl rfl ?_) | (refine ldA_f hS 0 rfl rfl ?_) | (refine stN_f hS 0 rfl (Nat.le_of_ble_eq_true rfl) rfl rfl ?_; (conv => whnf); intro w1 hS) | (refine stM_f hS 0 rfl (Nat.le_of_ble_eq_true rfl) rfl ?_; (conv => whnf); intro w1 hS))
    refine .mk (putv0 (by omega)) ?_
    repeat ((conv => whnf); first | (refine nw_f hS ?_; intro b w1 hS) | (refine ld_f hS 0 rfl rfl ?_) | (refine ldA_f hS 0 rfl rfl ?_) | (refine stN_f hS 0 rfl (Nat.le_of_ble_eq_true rfl) rfl rfl ?_; (conv => whnf); intro w1 hS) | (refine stM_f hS 0 rfl (Nat.le_of_ble_eq_true rfl) rfl ?_; (conv => whnf); intro w1 hS))
    have hRd := hS.rd 0 rfl
    rw [show #[Value.int .u8 (IntKind.u8.wrap (bShr .u32 (IntKind.u32.wrap n) (IntKind.i64.wrap (8 * IntKind.i64.wrap (((k + 1 : Nat) : Int) - 1)))))].toList = flat encY [yI (n / 2 ^ (8 * k))] from by rw [putv h0 h1 (by omega), ← u8v]] at hRd
    refine fc_m (write_c bw (bs ++ pre) [yI (n / 2 ^ (8 * k))] L' hW' _ _ _ hS.ownF hRd (by simp; omega)) ?_
    rintro v w3 ⟨L2, hW2, hS'⟩
    replace hS := hS.callW hS'
    repeat ((conv => whnf); first | (refine nw_f hS ?_; intro b w1 hS) | (refine ld_f hS 0 rfl rfl ?_) | (refine ldA_f hS 0 rfl rfl ?_) | (refine stN_f hS 0 rfl (Nat.le_of_ble_eq_true rfl) rfl rfl ?_; (conv => whnf); intro w1 hS) | (refine stM_f hS 0 rfl (Nat.le_of_ble_eq_true rfl) rfl ?_; (conv => whnf); intro w1 hS))
    refine ⟨rfl, (k, pre ++ [yI (n / 2 ^ (8 * k))]), ?_, ⟨by simp only; omega, ?_, L2, by simpa [List.append_assoc] using hW2, hS.subs (List.Sublist.refl _) (List.nil_sublist _)⟩, by simp⟩
    · have e1 : IntKind.i64.wrap (((k + 1 : Nat) : Int) - 1) = (k : Int) := by rw [wrap_i64 (by omega) (by omega)]; omega
      rw [e1]
      rfl
    · rw [← hpre]
      simp [be]
  · have hge : k = 0 := by simp at hb; omega
    subst hge
    simp only [be, List.append_nil] at hpre
    repeat ((conv => whnf); first | (refine nw_f hS ?_; intro b w1 hS) | (refine ld_f hS 0 rfl rfl ?_) | (refine ldA_f hS 0 rfl rfl ?_) | (refine stN_f hS 0 rfl (Nat.le_of_ble_eq_true rfl) rfl rfl ?_; (conv => whnf); intro w1 hS) | (refine stM_f hS 0 rfl (Nat.le_of_ble_eq_true rfl) rfl ?_; (conv => whnf); intro w1 hS))
    exact ⟨L', by rw [← hpre]; exact hW', by simpa using hS.st⟩
theorem put32_c (bw : Nat) (bs : List UInt8) (L : LM) (hW : Wr bw bs L) (n : Int) (h0 : 0 ≤ n) (h1 : n ≤ 4294967295) (W : Nat) (hWd : W ≤ 4) (w : World) (hS : St (keys L) w w L) (hn : bs.length ≤ 70368744177664) :
    Fc Try.prog 60 [.pointer (some ⟨bw, 0, none⟩), .int .u32 n, .int .i64 W] w fun v w' => ∃ L', Wr bw (bs ++ be n W) L' ∧ St (keys L) w w' L' := by
  refine fc_i TB_ok Try.func60 rfl (by kernel_rfl) ?_
  have hS : Sf (keys L) w w (L ++ []) [] := ⟨by simpa using hS⟩
  repeat ((conv => whnf); first | (refine nw_f hS ?_; intro b w1 hS) | (refine ld_f hS 0 rfl rfl ?_) | (refine ldA_f hS 0 rfl rfl ?_) | (refine stN_f hS 0 rfl (Nat.le_of_ble_eq_true rfl) rfl rfl ?_; (conv => whnf); intro w1 hS) | (refine stM_f hS 0 rfl (Nat.le_of_ble_eq_true rfl) rfl ?_; (conv => whnf); intro w1 hS))
  refine loop_i TB_ok (fun s : Nat × List UInt8 => [(2, .int .i64 s.1)]) (fun s w' => s.1 ≤ W ∧ s.2 ++ be n s.1 = be n W ∧ ∃ L', Wr bw (bs ++ s.2) L' ∧ Sf (keys L) w w' (L' ++ []) []) (fun s => s.1) (W, []) rfl ⟨Nat.le_refl _, rfl, L, by simpa using hW, hS⟩ ?_
  rintro ⟨k, pre⟩ us w2 ⟨hk, hpre, L', hW', hS⟩
  (conv => whnf)
  refine br_i (fun hb => ?_) (fun hb => ?_)
  · have hlt : 0 < k := by simpa using hb
    obtain ⟨k, rfl⟩ : ∃ j, k = j + 1 := ⟨k - 1, by omega⟩
    simp only at hk hpre hW'
    have hplen : pre.length ≤ 4 := by
      have := congrArg List.length hpre
      rw [List.length_append, be_len, be_len] at this
      omega
    repeat ((conv => whnf); first | (refine nw_f hS ?_; intro b w1 hS) | (refine ld_f hS 0 rfl rfl ?_) | (refine ldA_f hS 0 rfl rfl ?_) | (refine stN_f hS 0 rfl (Nat.le_of_ble_eq_true rfl) rfl rfl ?_; (conv => whnf); intro w1 hS) | (refine stM_f hS 0 rfl (Nat.le_of_ble_eq_true rfl) rfl ?_; (conv => whnf); intro w1 hS))
    refine .mk (putv0 (by omega)) ?_
    repeat ((conv => whnf); first | (refine nw_f hS ?_; intro b w1 hS) | (refine ld_f hS 0 rfl rfl ?_) | (refine ldA_f hS 0 rfl rfl ?_) | (refine stN_f hS 0 rfl (Nat.le_of_ble_eq_true rfl) rfl rfl ?_; (conv => whnf); intro w1 hS) | (refine stM_f hS 0 rfl (Nat.le_of_ble_eq_true rfl) rfl ?_; (conv => whnf); intro w1 hS))
    have hRd := hS.rd 0 rfl
    rw [show #[Value.int .u8 (IntKind.u8.wrap (bShr .u32 n (IntKind.i64.wrap (8 * IntKind.i64.wrap (((k + 1 : Nat) : Int) - 1)))))].toList = flat encY [yI (n / 2 ^ (8 * k))] from by rw [putv' h0 h1 (by omega), ← u8v]] at hRd
    refine fc_m (write_c bw (bs ++ pre) [yI (n / 2 ^ (8 * k))] L' hW' _ _ _ hS.ownF hRd (by simp; omega)) ?_
    rintro v w3 ⟨L2, hW2, hS'⟩
    replace hS := hS.callW hS'
    repeat ((conv => whnf); first | (refine nw_f hS ?_; intro b w1 hS) | (refine ld_f hS 0 rfl rfl ?_) | (refine ldA_f hS 0 rfl rfl ?_) | (refine stN_f hS 0 rfl (Nat.le_of_ble_eq_true rfl) rfl rfl ?_; (conv => whnf); intro w1 hS) | (refine stM_f hS 0 rfl (Nat.le_of_ble_eq_true rfl) rfl ?_; (conv => whnf); intro w1 hS))
    refine ⟨rfl, (k, pre ++ [yI (n / 2 ^ (8 * k))]), ?_, ⟨by simp only; omega, ?_, L2, by simpa [List.append_assoc] using hW2, hS.subs (List.Sublist.refl _) (List.nil_sublist _)⟩, by simp⟩
    · have e1 : IntKind.i64.wrap (((k + 1 : Nat) : Int) - 1) = (k : Int) := by rw [wrap_i64 (by omega) (by omega)]; omega
      rw [e1]
      rfl
    · rw [← hpre]
      simp [be]
  · have hge : k = 0 := by simp at hb; omega
    subst hge
    simp only [be, List.append_nil] at hpre
    repeat ((conv => whnf); first | (refine nw_f hS ?_; intro b w1 hS) | (refine ld_f hS 0 rfl rfl ?_) | (refine ldA_f hS 0 rfl rfl ?_) | (refine stN_f hS 0 rfl (Nat.le_of_ble_eq_true rfl) rfl rfl ?_; (conv => whnf); intro w1 hS) | (refine stM_f hS 0 rfl (Nat.le_of_ble_eq_true rfl) rfl ?_; (conv => whnf); intro w1 hS))
    exact ⟨L', by rw [← hpre]; exact hW', by simpa using hS.st⟩
theorem w8_c (bw : Nat) (bs : List UInt8) (L : LM) (hW : Wr bw bs L) (n : Int) (h0 : 0 ≤ n) (h1 : n ≤ 4294967295) (w : World) (hS : St (keys L) w w L) (hn : bs.length ≤ 70368744177664) :
    Fc Try.prog 58 [.pointer (some ⟨bw, 0, none⟩), .int .u8 n] w fun v w' => ∃ L', Wr bw (bs ++ be n 1) L' ∧ St (keys L) w w' L' := by
  refine fc_i TB_ok Try.func58 rfl (by kernel_rfl) ?_
  have hS : Sf (keys L) w w (L ++ []) [] := ⟨by simpa using hS⟩
  repeat ((conv => whnf); first | (refine nw_f hS ?_; intro b w1 hS) | (refine ld_f hS 0 rfl rfl ?_) | (refine ldA_f hS 0 rfl rfl ?_) | (refine stN_f hS 0 rfl (Nat.le_of_ble_eq_true rfl) rfl rfl ?_; (conv => whnf); intro w1 hS) | (refine stM_f hS 0 rfl (Nat.le_of_ble_eq_true rfl) rfl ?_; (conv => whnf); intro w1 hS))
  refine fc_m (put8_c bw bs L hW n h0 h1 1 (by decide) _ hS.ownF hn) ?_
  rintro v w3 ⟨L2, hW2, hS'⟩
  replace hS := hS.callW hS'
  repeat ((conv => whnf); first | (refine nw_f hS ?_; intro b w1 hS) | (refine ld_f hS 0 rfl rfl ?_) | (refine ldA_f hS 0 rfl rfl ?_) | (refine stN_f hS 0 rfl (Nat.le_of_ble_eq_true rfl) rfl rfl ?_; (conv => whnf); intro w1 hS) | (refine stM_f hS 0 rfl (Nat.le_of_ble_eq_true rfl) rfl ?_; (conv => whnf); intro w1 hS))
  exact ⟨L2, hW2, by simpa using hS.st⟩

theorem w16_c (bw : Nat) (bs : List UInt8) (L : LM) (hW : Wr bw bs L) (n : Int) (h0 : 0 ≤ n) (h1 : n ≤ 4294967295) (w : World) (hS : St (keys L) w w L) (hn : bs.length ≤ 70368744177664) :
    Fc Try.prog 59 [.pointer (some ⟨bw, 0, none⟩), .int .u16 n] w fun v w' => ∃ L', Wr bw (bs ++ be n 2) L' ∧ St (keys L) w w' L' := by
  refine fc_i TB_ok Try.func59 rfl (by kernel_rfl) ?_
  have hS : Sf (keys L) w w (L ++ []) [] := ⟨by simpa using hS⟩
  repeat ((conv => whnf); first | (refine nw_f hS ?_; intro b w1 hS) | (refine ld_f hS 0 rfl rfl ?_) | (refine ldA_f hS 0 rfl rfl ?_) | (refine stN_f hS 0 rfl (Nat.le_of_ble_eq_true rfl) rfl rfl ?_; (conv => whnf); intro w1 hS) | (refine stM_f hS 0 rfl (Nat.le_of_ble_eq_true rfl) rfl ?_; (conv => whnf); intro w1 hS))
  refine fc_m (put16_c bw bs L hW n h0 h1 2 (by decide) _ hS.ownF hn) ?_
  rintro v w3 ⟨L2, hW2, hS'⟩
  replace hS := hS.callW hS'
  repeat ((conv => whnf); first | (refine nw_f hS ?_; intro b w1 hS) | (refine ld_f hS 0 rfl rfl ?_) | (refine ldA_f hS 0 rfl rfl ?_) | (refine stN_f hS 0 rfl (Nat.le_of_ble_eq_true rfl) rfl rfl ?_; (conv => whnf); intro w1 hS) | (refine stM_f hS 0 rfl (Nat.le_of_ble_eq_true rfl) rfl ?_; (conv => whnf); intro w1 hS))
  exact ⟨L2, hW2, by simpa using hS.st⟩

theorem w32_c (bw : Nat) (bs : List UInt8) (L : LM) (hW : Wr bw bs L) (n : Int) (h0 : 0 ≤ n) (h1 : n ≤ 4294967295) (w : World) (hS : St (keys L) w w L) (hn : bs.length ≤ 70368744177664) :
    Fc Try.prog 39 [.pointer (some ⟨bw, 0, none⟩), .int .u32 n] w fun v w' => ∃ L', Wr bw (bs ++ be n 4) L' ∧ St (keys L) w w' L' := by
  refine fc_i TB_ok Try.func39 rfl (by kernel_rfl) ?_
  have hS : Sf (keys L) w w (L ++ []) [] := ⟨by simpa using hS⟩
  repeat ((conv => whnf); first | (refine nw_f hS ?_; intro b w1 hS) | (refine ld_f hS 0 rfl rfl ?_) | (refine ldA_f hS 0 rfl rfl ?_) | (refine stN_f hS 0 rfl (Nat.le_of_ble_eq_true rfl) rfl rfl ?_; (conv => whnf); intro w1 hS) | (refine stM_f hS 0 rfl (Nat.le_of_ble_eq_true rfl) rfl ?_; (conv => whnf); intro w1 hS))
  refine fc_m (put32_c bw bs L hW n h0 h1 4 (by decide) _ hS.ownF hn) ?_
  rintro v w3 ⟨L2, hW2, hS'⟩
  replace hS := hS.callW hS'
  repeat ((conv => whnf); first | (refine nw_f hS ?_; intro b w1 hS) | (refine ld_f hS 0 rfl rfl ?_) | (refine ldA_f hS 0 rfl rfl ?_) | (refine stN_f hS 0 rfl (Nat.le_of_ble_eq_true rfl) rfl rfl ?_; (conv => whnf); intro w1 hS) | (refine stM_f hS 0 rfl (Nat.le_of_ble_eq_true rfl) rfl ?_; (conv => whnf); intro w1 hS))
  exact ⟨L2, hW2, by simpa using hS.st⟩

end Go.RV
