/- Contracts of functions of chapter 1: the writer. Conditions: none. -/
import Derived.Test.YtnhlpmnehdackaaGreatRvT
import Derived.Test.YtnhlpmnehdackaaGreatRvR
set_option maxRecDepth 20000
set_option linter.unusedVariables false
set_option linter.unusedSimpArgs false
namespace Go.RV
open Go Go.Proofs

theorem elY : ElemOk Tryz.prog TB 95 5 1 1 := ⟨rfl, ⟨_, _, inf5, rfl, rfl, rfl, rfl⟩, by decide⟩
/-- a writer in block b, in which these bytes were written -/
structure Wr (b : Nat) (bs : List UInt8) (L : LM) : Prop where
  out : ∃ v Lv, L = (b, .cells #[v] 106 (0, 0)) :: Lv ∧ Sl 5 1 v bs.length (flat encY bs) Lv

theorem write_c (b : Nat) (bs ys : List UInt8) (L : LM) (hW : Wr b bs L) (A : Option Addr) (c : Nat) (w : World) (hS : St (keys L) w w L) (hR : Rd w A (flat encY ys)) (hn : bs.length + ys.length ≤ 140737488355328) :
    Fc Tryz.prog 82 [.pointer (some ⟨b, 0, none⟩), .slice A ys.length c] w fun v w' => ∃ L', Wr b (bs ++ ys) L' ∧ St (keys L) w w' L' := by
  refine fc_i TB_ok Tryz.func82 rfl (by kernel_rfl) ?_
  obtain ⟨v, Lv, rfl, hv⟩ := hW.out
  obtain ⟨Av, cv, rfl, hv⟩ := hv.open
  have hS : Sf (keys ((b, .cells #[.slice Av bs.length cv] 106 (0, 0)) :: Lv)) w w (Lv ++ []) [(b, .cells #[.slice Av bs.length cv] 106 (0, 0))] := ⟨hS.perm (by rw [List.append_nil]; exact List.perm_append_comm (l₁ := Lv) (l₂ := [_]))⟩
  repeat ((conv => whnf); first | (refine nw_f hS ?_; intro b w1 hS) | (refine ld_f hS 0 rfl rfl ?_) | (refine ldA_f hS 0 rfl rfl ?_) | (refine stN_f hS 0 rfl (Nat.le_of_ble_eq_true rfl) rfl rfl ?_; (conv => whnf); intro w1 hS) | (refine stM_f hS 0 rfl (Nat.le_of_ble_eq_true rfl) rfl ?_; (conv => whnf); intro w1 hS))
  refine app_f TB_ok elY hS hv hR (by rw [flat_length encY_len]) (fun y hy => ?_) (by omega) (by omega) ?_
  · obtain ⟨x, _, hx⟩ := List.mem_flatMap.1 hy
    simp [encY] at hx
    subst hx
    rfl
  intro v' Lv' w6 hv' hS
  obtain ⟨Av', cv', rfl, hv'⟩ := hv'.open
  repeat ((conv => whnf); first | (refine nw_f hS ?_; intro b w1 hS) | (refine ld_f hS 0 rfl rfl ?_) | (refine ldA_f hS 0 rfl rfl ?_) | (refine stN_f hS 0 rfl (Nat.le_of_ble_eq_true rfl) rfl rfl ?_; (conv => whnf); intro w1 hS) | (refine stM_f hS 0 rfl (Nat.le_of_ble_eq_true rfl) rfl ?_; (conv => whnf); intro w1 hS))
  refine ⟨(b, .cells #[.slice Av' (bs.length + ys.length) cv'] 106 (0, 0)) :: Lv', ⟨_, Lv', rfl, ?_⟩, ?_⟩
  · rw [flat_append, List.length_append]
    exact hv'
  · exact hS.st.perm (by rw [List.append_nil]; exact (List.perm_append_comm (l₁ := Lv') (l₂ := [_])).symm)
end Go.RV

/- Contracts of functions of chapter 1: numbers that are written. Conditions: none. -/
set_option maxRecDepth 20000
set_option linter.unusedVariables false
set_option linter.unusedSimpArgs false
namespace Go.RV
open Go Go.Proofs

/-- a number's last byte -/
def yI (x : Int) : UInt8 := UInt8.ofNat (x % 256).toNat
theorem yI_val (x : Int) : (((yI x).toNat : Nat) : Int) = x % 256 := by
  unfold yI
  rw [UInt8.toNat_ofNat']
  have h1 : 0 ≤ x % 256 := Int.emod_nonneg _ (by decide)
  have h2 : x % 256 < 256 := Int.emod_lt_of_pos _ (by decide)
  have h3 : (x % 256).toNat % 2 ^ 8 = (x % 256).toNat := Nat.mod_eq_of_lt (by omega)
  rw [h3]
  omega
theorem u8v (x : Int) : [Value.int .u8 (IntKind.u8.wrap x)] = flat encY [yI x] := by
  show _ = [Value.int .u8 (((yI x).toNat : Nat) : Int)]
  rw [yI_val, wrap_u8_mod]
/-- a fixed number's bytes, the highest first -/
def be (n : Int) : Nat → List UInt8
  | 0 => []
  | w+1 => yI (n / 2 ^ (8 * w)) :: be n w
theorem be_len (n : Int) : ∀ w, (be n w).length = w
  | 0 => rfl
  | w+1 => by simp [be, be_len n w]

theorem putv {n : Int} {k : Nat} (h0 : 0 ≤ n) (h1 : n ≤ 4294967295) (hk : k < 4) : IntKind.u8.wrap (bShr .u32 (IntKind.u32.wrap n) (IntKind.i64.wrap (8 * IntKind.i64.wrap (((k + 1 : Nat) : Int) - 1)))) = IntKind.u8.wrap (n / 2 ^ (8 * k)) := by
  rw [wrap_i64 (x := ((k + 1 : Nat) : Int) - 1) (by omega) (by omega), wrap_i64 (by omega) (by omega), wrap_u32 h0 (by omega)]
  unfold bShr
  have e : min (8 * (((k + 1 : Nat) : Int) - 1)).toNat IntKind.u32.bits = 8 * k := by
    have : IntKind.u32.bits = 32 := rfl
    rw [this]
    omega
  rw [e, Int.fdiv_eq_ediv_of_nonneg _ (Int.le_of_lt (Int.pow_pos (by decide)))]
theorem putv' {n : Int} {k : Nat} (h0 : 0 ≤ n) (h1 : n ≤ 4294967295) (hk : k < 4) : IntKind.u8.wrap (bShr .u32 n (IntKind.i64.wrap (8 * IntKind.i64.wrap (((k + 1 : Nat) : Int) - 1)))) = IntKind.u8.wrap (n / 2 ^ (8 * k)) := by
  have := putv h0 h1 hk
  rwa [wrap_u32 h0 (by omega)] at this
theorem putv0 {k : Nat} (hk : k < 4) : 0 ≤ IntKind.i64.wrap (8 * IntKind.i64.wrap (((k + 1 : Nat) : Int) - 1)) := by
  rw [wrap_i64 (x := ((k + 1 : Nat) : Int) - 1) (by omega) (by omega), wrap_i64 (by omega) (by omega)]
  omega

theorem put8_c (bw : Nat) (bs : List UInt8) (L : LM) (hW : Wr bw bs L) (n : Int) (h0 : 0 ≤ n) (h1 : n ≤ 4294967295) (W : Nat) (hWd : W ≤ 4) (w : World) (hS : St (keys L) w w L) (hn : bs.length ≤ 70368744177664) :
    Fc Tryz.prog 85 [.pointer (some ⟨bw, 0, none⟩), .int .u8 n, .int .i64 W] w fun v w' => ∃ L', Wr bw (bs ++ be n W) L' ∧ St (keys L) w w' L' := by
  refine fc_i TB_ok Tryz.func85 rfl (by kernel_rfl) ?_
  have hS : Sf (keys L) w w (L ++ []) [] := ⟨by simpa using hS⟩
  repeat ((conv => whnf); first | (refine nw_f hS ?_; intro b w1 hS) | (refine ld_f hS 0 rfl rfl ?_) | (refine ldA_f hS 0 rfl rfl ?_) | (refine stN_f hS 0 rfl (Nat.le_of_ble_eq_true rfl) rfl rfl ?_; (conv => whnf); intro w1 hS) | (refine stM_f hS 0 rfl (Nat.le_of_ble_eq_true rfl) rfl ?_; (conv => whnf); intro w1 hS))
  refine loop_i TB_ok (fun s : Nat × List UInt8 => [(2, .int .i64 s.1)]) (fun s w' => s.1 ≤ W ∧ s.2 ++ be n s.1 = be n W ∧ ∃ L', Wr bw (bs ++ s.2) L' ∧ Sf (keys L) w w' (L' ++ []) []) (fun s => s.1) (W, []) rfl ⟨Nat.le_refl _, rfl, L, by simpa using hW, hS⟩ ?_
  rintro ⟨k, pre⟩ us w2 ⟨hk, hpre, L', hW', hS⟩
  (conv => whnf)
  refine br_i (fun hb => ?_) (fun hb => ?_)
  · have hlt : 0 < k := by simpa using hb
    obtain ⟨k, rfl⟩ : ∃ j, k = j + 1 := ⟨k - 1, by omega⟩
    simp only at hk hpre hW'
    have hplen : pre.length ≤ 4 := by
      have := congrArg List.length hpre
      rw [List.length_append, be_len, be_len] at this
      omega
    repeat ((conv => whnf); first | (refine nw_f hS ?_; intro b w1 hS) | (refine ld_f hS 0 rfl rfl ?_) | (refine ldA_f hS 0 rfl rfl ?_) | (refine stN_f hS 0 rfl (Nat.le_of_ble_eq_true rfl) rfl rfl ?_; (conv => whnf); intro w1 hS) | (refine stM_f hS 0 rfl (Nat.le_of_ble_eq_true rfl) rfl ?_; (conv => whnf); intro w1 hS))
    refine .mk (putv0 (by omega)) ?_
    repeat ((conv => whnf); first | (refine nw_f hS ?_; intro b w1 hS) | (refine ld_f hS 0 rfl rfl ?_) | (refine ldA_f hS 0 rfl rfl ?_) | (refine stN_f hS 0 rfl (Nat.le_of_ble_eq_true rfl) rfl rfl ?_; (conv => whnf); intro w1 hS) | (refine stM_f hS 0 rfl (Nat.le_of_ble_eq_true rfl) rfl ?_; (conv => whnf); intro w1 hS))
    have hRd := hS.rd 0 rfl
    rw [show #[Value.int .u8 (IntKind.u8.wrap (bShr .u32 (IntKind.u32.wrap n) (IntKind.i64.wrap (8 * IntKind.i64.wrap (((k + 1 : Nat) : Int) - 1)))))].toList = flat encY [yI (n / 2 ^ (8 * k))] from by rw [putv h0 h1 (by omega), ← u8v]] at hRd
    refine fc_m (write_c bw (bs ++ pre) [yI (n / 2 ^ (8 * k))] L' hW' _ _ _ hS.ownF hRd (by simp; omega)) ?_
    rintro v w3 ⟨L2, hW2, hS'⟩
    replace hS := hS.callW hS'
    repeat ((conv => whnf); first | (refine nw_f hS ?_; intro b w1 hS) | (refine ld_f hS 0 rfl rfl ?_) | (refine ldA_f hS 0 rfl rfl ?_) | (refine stN_f hS 0 rfl (Nat.le_of_ble_eq_true rfl) rfl rfl ?_; (conv => whnf); intro w1 hS) | (refine stM_f hS 0 rfl (Nat.le_of_ble_eq_true rfl) rfl ?_; (conv => whnf); intro w1 hS))
    refine ⟨rfl, (k, pre ++ [yI (n / 2 ^ (8 * k))]), ?_, ⟨by simp only; omega, ?_, L2, by simpa [List.append_assoc] using hW2, hS.subs (List.Sublist.refl _) (List.nil_sublist _)⟩, by simp⟩
    · have e1 : IntKind.i64.wrap (((k + 1 : Nat) : Int) - 1) = (k : Int) := by rw [wrap_i64 (by omega) (by omega)]; omega
      rw [e1]
      rfl
    · rw [← hpre]
      simp [be]
  · have hge : k = 0 := by simp at hb; omega
    subst hge
    simp only [be, List.append_nil] at hpre
    repeat ((conv => whnf); first | (refine nw_f hS ?_; intro b w1 hS) | (refine ld_f hS 0 rfl rfl ?_) | (refine ldA_f hS 0 rfl rfl ?_) | (refine stN_f hS 0 rfl (Nat.le_of_ble_eq_true rfl) rfl rfl ?_; (conv => whnf); intro w1 hS) | (refine stM_f hS 0 rfl (Nat.le_of_ble_eq_true rfl) rfl ?_; (conv => whnf); intro w1 hS))
    exact ⟨L', by rw [← hpre]; exact hW', by simpa using hS.st⟩
theorem put16_c (bw : Nat) (bs : List UInt8) (L : LM) (hW : Wr bw bs L) (n : Int) (h0 : 0 ≤ n) (h1 : n ≤ 4294967295) (W : Nat) (hWd : W ≤ 4) (w : World) (hS : St (keys L) w w L) (hn : bs.length ≤ 70368744177664) :
    Fc Tryz.prog 88 [.pointer (some ⟨bw, 0, none⟩), .int .u16 n, .int .i64 W] w fun v w' => ∃ L', Wr bw (bs ++ be n W) L' ∧ St (keys L) w w' L' := by
  refine fc_i TB_ok Tryz.func88 rfl (by kernel_rfl) ?_
  have hS : Sf (keys L) w w (L ++ []) [] := ⟨by simpa using hS⟩
  repeat ((conv => whnf); first | (refine nw_f hS ?_; intro b w1 hS) | (refine ld_f hS 0 rfl rfl ?_) | (refine ldA_f hS 0 rfl rfl ?_) | (refine stN_f hS 0 rfl (Nat.le_of_ble_eq_true rfl) rfl rfl ?_; (conv => whnf); intro w1 hS) | (refine stM_f hS 0 rfl (Nat.le_of_ble_eq_true rfl) rfl ?_; (conv => whnf); intro w1 hS))
  refine loop_i TB_ok (fun s : Nat × List UInt8 => [(2, .int .i64 s.1)]) (fun s w' => s.1 ≤ W ∧ s.2 ++ be n s.1 = be n W ∧ ∃ L', Wr bw (bs ++ s.2) L' ∧ Sf (keys L) w w' (L' ++ []) []) (fun s => s.1) (W, []) rfl ⟨Nat.le_refl _, rfl, L, by simpa using hW, hS⟩ ?_
  rintro ⟨k, pre⟩ us w2 ⟨hk, hpre, L', hW', hS⟩
  (conv => whnf)
  refine br_i (fun hb => ?_) (fun hb => ?_)
  · have hlt : 0 < k := by simpa using hb
    obtain ⟨k, rfl⟩ : ∃ j, k = j + 1 := ⟨k - 1, by omega⟩
    simp only at hk hpre hW'
    have hplen : pre.length ≤ 4 := by
      have := congrArg List.length hpre
      rw [List.length_append, be_len, be_len] at this
      omega
    repeat ((conv => whnf); first | (refine nw_f hS ?_; intro b w1 hS) | (refine ld_f hS 0 rfl rfl ?_) | (refine ldA_f hS 0 rfl rfl ?_) | (refine stN_f hS 0 rfl (Nat.le_of_ble_eq_true rfl) rfl rfl ?_; (conv => whnf); intro w1 hS) | (refine stM_f hS 0 rfl (Nat.le_of_ble_eq_true rfl) rfl ?_; (conv => whnf); intro w1 hS))
    refine .mk (putv0 (by omega)) ?_
    repeat ((conv => whnf); first | (refine nw_f hS ?_; intro b w1 hS) | (refine ld_f hS 0 rfl rfl ?_) | (refine ldA_f hS 0 rfl rfl ?_) | (refine stN_f hS 0 rfl (Nat.le_of_ble_eq_true rfl) rfl rfl ?_; (conv => whnf); intro w1 hS) | (refine stM_f hS 0 rfl (Nat.le_of_ble_eq_true rfl) rfl ?_; (conv => whnf); intro w1 hS))
    have hRd := hS.rd 0 rfl
    rw [show #[Value.int .u8 (IntKind.u8.wrap (bShr .u32 (IntKind.u32.wrap n) (IntKind.i64.wrap (8 * IntKind.i64.wrap (((k + 1 : Nat) : Int) - 1)))))].toList = flat encY [yI (n / 2 ^ (8 * k))] from by rw [putv h0 h1 (by omega), ← u8v]] at hRd
    refine fc_m (write_c bw (bs ++ pre) [yI (n / 2 ^ (8 * k))] L' hW' _ _ _ hS.ownF hRd (by simp; omega)) ?_
    rintro v w3 ⟨L2, hW2, hS'⟩
    replace hS := hS.callW hS'
    repeat ((conv => whnf); first | (refine nw_f hS ?_; intro b w1 hS) | (refine ld_f hS 0 rfl rfl ?_) | (refine ldA_f hS 0 rfl rfl ?_) | (refine stN_f hS 0 rfl (Nat.le_of_ble_eq_true rfl) rfl rfl ?_; (conv => whnf); intro w1 hS) | (refine stM_f hS 0 rfl (Nat.le_of_ble_eq_true rfl) rfl ?_; (conv => whnf); intro w1 hS))
    refine ⟨rfl, (k, pre ++ [yI (n / 2 ^ (8 * k))]), ?_, ⟨by simp only; omega, ?_, L2, by simpa [List.append_assoc] using hW2, hS.subs (List.Sublist.refl _) (List.nil_sublist _)⟩, by simp⟩
    · have e1 : IntKind.i64.wrap (((k + 1 : Nat) : Int) - 1) = (k : Int) := by rw [wrap_i64 (by omega) (by omega)]; omega
      rw [e1]
      rfl
    · rw [← hpre]
      simp [be]
  · have hge : k = 0 := by simp at hb; omega
    subst hge
    simp only [be, List.append_nil] at hpre
    repeat ((conv => whnf); first | (refine nw_f hS ?_; intro b w1 hS) | (refine ld_f hS 0 rfl rfl ?_) | (refine ldA_f hS 0 rfl rfl ?_) | (refine stN_f hS 0 rfl (Nat.le_of_ble_eq_true rfl) rfl rfl ?_; (conv => whnf); intro w1 hS) | (refine stM_f hS 0 rfl (Nat.le_of_ble_eq_true rfl) rfl ?_; (conv => whnf); intro w1 hS))
    exact ⟨L', by rw [← hpre]; exact hW', by simpa using hS.st⟩
theorem put32_c (bw : Nat) (bs : List UInt8) (L : LM) (hW : Wr bw bs L) (n : Int) (h0 : 0 ≤ n) (h1 : n ≤ 4294967295) (W : Nat) (hWd : W ≤ 4) (w : World) (hS : St (keys L) w w L) (hn : bs.length ≤ 70368744177664) :
    Fc Tryz.prog 83 [.pointer (some ⟨bw, 0, none⟩), .int .u32 n, .int .i64 W] w fun v w' => ∃ L', Wr bw (bs ++ be n W) L' ∧ St (keys L) w w' L' := by
  refine fc_i TB_ok Tryz.func83 rfl (by kernel_rfl) ?_
  have hS : Sf (keys L) w w (L ++ []) [] := ⟨by simpa using hS⟩
  repeat ((conv => whnf); first | (refine nw_f hS ?_; intro b w1 hS) | (refine ld_f hS 0 rfl rfl ?_) | (refine ldA_f hS 0 rfl rfl ?_) | (refine stN_f hS 0 rfl (Nat.le_of_ble_eq_true rfl) rfl rfl ?_; (conv => whnf); intro w1 hS) | (refine stM_f hS 0 rfl (Nat.le_of_ble_eq_true rfl) rfl ?_; (conv => whnf); intro w1 hS))
  refine loop_i TB_ok (fun s : Nat × List UInt8 => [(2, .int .i64 s.1)]) (fun s w' => s.1 ≤ W ∧ s.2 ++ be n s.1 = be n W ∧ ∃ L', Wr bw (bs ++ s.2) L' ∧ Sf (keys L) w w' (L' ++ []) []) (fun s => s.1) (W, []) rfl ⟨Nat.le_refl _, rfl, L, by simpa using hW, hS⟩ ?_
  rintro ⟨k, pre⟩ us w2 ⟨hk, hpre, L', hW', hS⟩
  (conv => whnf)
  refine br_i (fun hb => ?_) (fun hb => ?_)
  · have hlt : 0 < k := by simpa using hb
    obtain ⟨k, rfl⟩ : ∃ j, k = j + 1 := ⟨k - 1, by omega⟩
    simp only at hk hpre hW'
    have hplen : pre.length ≤ 4 := by
      have := congrArg List.length hpre
      rw [List.length_append, be_len, be_len] at this
      omega
    repeat ((conv => whnf); first | (refine nw_f hS ?_; intro b w1 hS) | (refine ld_f hS 0 rfl rfl ?_) | (refine ldA_f hS 0 rfl rfl ?_) | (refine stN_f hS 0 rfl (Nat.le_of_ble_eq_true rfl) rfl rfl ?_; (conv => whnf); intro w1 hS) | (refine stM_f hS 0 rfl (Nat.le_of_ble_eq_true rfl) rfl ?_; (conv => whnf); intro w1 hS))
    refine .mk (putv0 (by omega)) ?_
    repeat ((conv => whnf); first | (refine nw_f hS ?_; intro b w1 hS) | (refine ld_f hS 0 rfl rfl ?_) | (refine ldA_f hS 0 rfl rfl ?_) | (refine stN_f hS 0 rfl (Nat.le_of_ble_eq_true rfl) rfl rfl ?_; (conv => whnf); intro w1 hS) | (refine stM_f hS 0 rfl (Nat.le_of_ble_eq_true rfl) rfl ?_; (conv => whnf); intro w1 hS))
    have hRd := hS.rd 0 rfl
    rw [show #[Value.int .u8 (IntKind.u8.wrap (bShr .u32 n (IntKind.i64.wrap (8 * IntKind.i64.wrap (((k + 1 : Nat) : Int) - 1)))))].toList = flat encY [yI (n / 2 ^ (8 * k))] from by rw [putv' h0 h1 (by omega), ← u8v]] at hRd
    refine fc_m (write_c bw (bs ++ pre) [yI (n / 2 ^ (8 * k))] L' hW' _ _ _ hS.ownF hRd (by simp; omega)) ?_
    rintro v w3 ⟨L2, hW2, hS'⟩
    replace hS := hS.callW hS'
    repeat ((conv => whnf); first | (refine nw_f hS ?_; intro b w1 hS) | (refine ld_f hS 0 rfl rfl ?_) | (refine ldA_f hS 0 rfl rfl ?_) | (refine stN_f hS 0 rfl (Nat.le_of_ble_eq_true rfl) rfl rfl ?_; (conv => whnf); intro w1 hS) | (refine stM_f hS 0 rfl (Nat.le_of_ble_eq_true rfl) rfl ?_; (conv => whnf); intro w1 hS))
    refine ⟨rfl, (k, pre ++ [yI (n / 2 ^ (8 * k))]), ?_, ⟨by simp only; omega, ?_, L2, by simpa [List.append_assoc] using hW2, hS.subs (List.Sublist.refl _) (List.nil_sublist _)⟩, by simp⟩
    · have e1 : IntKind.i64.wrap (((k + 1 : Nat) : Int) - 1) = (k : Int) := by rw [wrap_i64 (by omega) (by omega)]; omega
      rw [e1]
      rfl
    · rw [← hpre]
      simp [be]
  · have hge : k = 0 := by simp at hb; omega
    subst hge
    simp only [be, List.append_nil] at hpre
    repeat ((conv => whnf); first | (refine nw_f hS ?_; intro b w1 hS) | (refine ld_f hS 0 rfl rfl ?_) | (refine ldA_f hS 0 rfl rfl ?_) | (refine stN_f hS 0 rfl (Nat.le_of_ble_eq_true rfl) rfl rfl ?_; (conv => whnf); intro w1 hS) | (refine stM_f hS 0 rfl (Nat.le_of_ble_eq_true rfl) rfl ?_; (conv => whnf); intro w1 hS))
    exact ⟨L', by rw [← hpre]; exact hW', by simpa using hS.st⟩
theorem w8_c (bw : Nat) (bs : List UInt8) (L : LM) (hW : Wr bw bs L) (n : Int) (h0 : 0 ≤ n) (h1 : n ≤ 4294967295) (w : World) (hS : St (keys L) w w L) (hn : bs.length ≤ 70368744177664) :
    Fc Tryz.prog 55 [.pointer (some ⟨bw, 0, none⟩), .int .u8 n] w fun v w' => ∃ L', Wr bw (bs ++ be n 1) L' ∧ St (keys L) w w' L' := by
  refine fc_i TB_ok Tryz.func55 rfl (by kernel_rfl) ?_
  have hS : Sf (keys L) w w (L ++ []) [] := ⟨by simpa using hS⟩
  repeat ((conv => whnf); first | (refine nw_f hS ?_; intro b w1 hS) | (refine ld_f hS 0 rfl rfl ?_) | (refine ldA_f hS 0 rfl rfl ?_) | (refine stN_f hS 0 rfl (Nat.le_of_ble_eq_true rfl) rfl rfl ?_; (conv => whnf); intro w1 hS) | (refine stM_f hS 0 rfl (Nat.le_of_ble_eq_true rfl) rfl ?_; (conv => whnf); intro w1 hS))
  refine fc_m (put8_c bw bs L hW n h0 h1 1 (by decide) _ hS.ownF hn) ?_
  rintro v w3 ⟨L2, hW2, hS'⟩
  replace hS := hS.callW hS'
  repeat ((conv => whnf); first | (refine nw_f hS ?_; intro b w1 hS) | (refine ld_f hS 0 rfl rfl ?_) | (refine ldA_f hS 0 rfl rfl ?_) | (refine stN_f hS 0 rfl (Nat.le_of_ble_eq_true rfl) rfl rfl ?_; (conv => whnf); intro w1 hS) | (refine stM_f hS 0 rfl (Nat.le_of_ble_eq_true rfl) rfl ?_; (conv => whnf); intro w1 hS))
  exact ⟨L2, hW2, by simpa using hS.st⟩

theorem w16_c (bw : Nat) (bs : List UInt8) (L : LM) (hW : Wr bw bs L) (n : Int) (h0 : 0 ≤ n) (h1 : n ≤ 4294967295) (w : World) (hS : St (keys L) w w L) (hn : bs.length ≤ 70368744177664) :
    Fc Tryz.prog 59 [.pointer (some ⟨bw, 0, none⟩), .int .u16 n] w fun v w' => ∃ L', Wr bw (bs ++ be n 2) L' ∧ St (keys L) w w' L' := by
  refine fc_i TB_ok Tryz.func59 rfl (by kernel_rfl) ?_
  have hS : Sf (keys L) w w (L ++ []) [] := ⟨by simpa using hS⟩
  repeat ((conv => whnf); first | (refine nw_f hS ?_; intro b w1 hS) | (refine ld_f hS 0 rfl rfl ?_) | (refine ldA_f hS 0 rfl rfl ?_) | (refine stN_f hS 0 rfl (Nat.le_of_ble_eq_true rfl) rfl rfl ?_; (conv => whnf); intro w1 hS) | (refine stM_f hS 0 rfl (Nat.le_of_ble_eq_true rfl) rfl ?_; (conv => whnf); intro w1 hS))
  refine fc_m (put16_c bw bs L hW n h0 h1 2 (by decide) _ hS.ownF hn) ?_
  rintro v w3 ⟨L2, hW2, hS'⟩
  replace hS := hS.callW hS'
  repeat ((conv => whnf); first | (refine nw_f hS ?_; intro b w1 hS) | (refine ld_f hS 0 rfl rfl ?_) | (refine ldA_f hS 0 rfl rfl ?_) | (refine stN_f hS 0 rfl (Nat.le_of_ble_eq_true rfl) rfl rfl ?_; (conv => whnf); intro w1 hS) | (refine stM_f hS 0 rfl (Nat.le_of_ble_eq_true rfl) rfl ?_; (conv => whnf); intro w1 hS))
  exact ⟨L2, hW2, by simpa using hS.st⟩

theorem w32_c (bw : Nat) (bs : List UInt8) (L : LM) (hW : Wr bw bs L) (n : Int) (h0 : 0 ≤ n) (h1 : n ≤ 4294967295) (w : World) (hS : St (keys L) w w L) (hn : bs.length ≤ 70368744177664) :
    Fc Tryz.prog 52 [.pointer (some ⟨bw, 0, none⟩), .int .u32 n] w fun v w' => ∃ L', Wr bw (bs ++ be n 4) L' ∧ St (keys L) w w' L' := by
  refine fc_i TB_ok Tryz.func52 rfl (by kernel_rfl) ?_
  have hS : Sf (keys L) w w (L ++ []) [] := ⟨by simpa using hS⟩
  repeat ((conv => whnf); first | (refine nw_f hS ?_; intro b w1 hS) | (refine ld_f hS 0 rfl rfl ?_) | (refine ldA_f hS 0 rfl rfl ?_) | (refine stN_f hS 0 rfl (Nat.le_of_ble_eq_true rfl) rfl rfl ?_; (conv => whnf); intro w1 hS) | (refine stM_f hS 0 rfl (Nat.le_of_ble_eq_true rfl) rfl ?_; (conv => whnf); intro w1 hS))
  refine fc_m (put32_c bw bs L hW n h0 h1 4 (by decide) _ hS.ownF hn) ?_
  rintro v w3 ⟨L2, hW2, hS'⟩
  replace hS := hS.callW hS'
  repeat ((conv => whnf); first | (refine nw_f hS ?_; intro b w1 hS) | (refine ld_f hS 0 rfl rfl ?_) | (refine ldA_f hS 0 rfl rfl ?_) | (refine stN_f hS 0 rfl (Nat.le_of_ble_eq_true rfl) rfl rfl ?_; (conv => whnf); intro w1 hS) | (refine stM_f hS 0 rfl (Nat.le_of_ble_eq_true rfl) rfl ?_; (conv => whnf); intro w1 hS))
  exact ⟨L2, hW2, by simpa using hS.st⟩

end Go.RV

/- Contracts of functions of chapter 1: the document's texts. Conditions: none. -/
set_option maxRecDepth 20000
set_option linter.unusedVariables false
set_option linter.unusedSimpArgs false
namespace Go.RV
open Go Go.Proofs

/-- a var number's bytes -/
def varF : Nat → Int → List UInt8
  | 0, n => [yI n]
  | f+1, n => if 127 < n then yI (128 + n % 128) :: varF f (n / 128) else [yI n]
def varD (n : Int) : List UInt8 := varF 5 n

theorem yI_emod (n : Int) : yI (n % 256) = yI n := by unfold yI; rw [Int.emod_emod_of_dvd _ (by decide)]
theorem be_snoc (n : Int) : ∀ w, yI (n / 2 ^ (8 * w)) :: be n w = be n (w + 1) := fun w => rfl
theorem be_low (n : Int) (h0 : 0 ≤ n) : ∀ (w : Nat), be n (w + 1) = be (n / 256) w ++ [yI n]
  | 0 => by simp [be]
  | w+1 => by
    have ih := be_low n h0 w
    rw [be, ih]
    show _ = (yI (n / 256 / 2 ^ (8 * w)) :: be (n / 256) w) ++ [yI n]
    have e : n / 256 / 2 ^ (8 * w) = n / 2 ^ (8 * (w + 1)) := by
      rw [Int.ediv_ediv_of_nonneg (by decide)]
      congr 1
      rw [show 8 * (w + 1) = 8 * w + 8 from by omega, Int.pow_add, Int.mul_comm]
      rfl
    rw [e]
    rfl

theorem rfixed_c (n0 : Int) (h0 : 0 ≤ n0) (h1 : n0 ≤ 4294967295) (W : Nat) (hW : W ≤ 4) (w : World) :
    Fc Tryz.prog 26 [.int .u32 n0, .int .i64 W] w fun v w' => v = .string (strY (be n0 W)) ∧ St [] w w' [] := by
  refine fc_i TB_ok Tryz.func26 rfl (by kernel_rfl) ?_
  have hS := Sf.refl w
  repeat ((conv => whnf); first | (refine nw_f hS ?_; intro b w1 hS) | (refine ld_f hS 0 rfl rfl ?_) | (refine ldA_f hS 0 rfl rfl ?_) | (refine stN_f hS 0 rfl (Nat.le_of_ble_eq_true rfl) rfl rfl ?_; (conv => whnf); intro w1 hS) | (refine stM_f hS 0 rfl (Nat.le_of_ble_eq_true rfl) rfl ?_; (conv => whnf); intro w1 hS))
  refine loop_i TB_ok (fun s : Nat × Int × List UInt8 => [(6, .int .i64 s.1), (0, .int .u32 s.2.1), (5, .string (strY s.2.2))]) (fun s w' => s.1 ≤ W ∧ (0 ≤ s.2.1 ∧ s.2.1 ≤ 4294967295) ∧ be s.2.1 (W - s.1) ++ s.2.2 = be n0 W ∧ s.2.2.length = s.1 ∧ Sf [] w w' [] []) (fun s => W - s.1) (0, n0, []) rfl ⟨Nat.zero_le _, ⟨h0, h1⟩, by simp, rfl, hS⟩ ?_
  rintro ⟨i, n, s⟩ us w2 ⟨hi, hn, hs, hl, hS⟩
  simp only at hi hn hs hl
  (conv => whnf)
  refine br_i (fun hb => ?_) (fun hb => ?_)
  · have hlt : i < W := by simpa using hb
    repeat ((conv => whnf); first | (refine nw_f hS ?_; intro b w1 hS) | (refine ld_f hS 0 rfl rfl ?_) | (refine ldA_f hS 0 rfl rfl ?_) | (refine stN_f hS 0 rfl (Nat.le_of_ble_eq_true rfl) rfl rfl ?_; (conv => whnf); intro w1 hS) | (refine stM_f hS 0 rfl (Nat.le_of_ble_eq_true rfl) rfl ?_; (conv => whnf); intro w1 hS) | (refine .mk (by decide) ?_))
    have hRd : Rd _ _ [Value.int .u8 (IntKind.u8.wrap (n.tmod 256))] := hS.rd 0 rfl
    rw [u8v, Int.tmod_eq_emod_of_nonneg hn.1, yI_emod] at hRd
    refine bStr_i Tryz.underlying95 Tryz.underlying5 Tryz.underlying9 hRd rfl ?_
    repeat ((conv => whnf); first | (refine nw_f hS ?_; intro b w1 hS) | (refine ld_f hS 0 rfl rfl ?_) | (refine ldA_f hS 0 rfl rfl ?_) | (refine stN_f hS 0 rfl (Nat.le_of_ble_eq_true rfl) rfl rfl ?_; (conv => whnf); intro w1 hS) | (refine stM_f hS 0 rfl (Nat.le_of_ble_eq_true rfl) rfl ?_; (conv => whnf); intro w1 hS))
    refine .mk (by show (strY [yI n]).size + (strY s).size ≤ _; rw [strY_size, strY_size]; simp; omega) ?_
    repeat ((conv => whnf); first | (refine nw_f hS ?_; intro b w1 hS) | (refine ld_f hS 0 rfl rfl ?_) | (refine ldA_f hS 0 rfl rfl ?_) | (refine stN_f hS 0 rfl (Nat.le_of_ble_eq_true rfl) rfl rfl ?_; (conv => whnf); intro w1 hS) | (refine stM_f hS 0 rfl (Nat.le_of_ble_eq_true rfl) rfl ?_; (conv => whnf); intro w1 hS) | (refine .mk (by decide) ?_))
    refine ⟨rfl, (i + 1, n / 256, yI n :: s), ?_, ⟨by simp only; omega, by simp only; omega, ?_, by simp [hl], hS.subs (List.Sublist.refl _) (List.nil_sublist _)⟩, by simp only; omega⟩
    · rw [wi hlt (by omega), Int.tdiv_eq_ediv_of_nonneg hn.1, wrap_u32 (by omega) (by omega), strY_append]
      rfl
    · rw [← hs, show W - i = (W - (i + 1)) + 1 from by omega, be_low n hn.1]
      simp
  · have hge : i = W := by simp at hb; omega
    subst hge
    repeat ((conv => whnf); first | (refine nw_f hS ?_; intro b w1 hS) | (refine ld_f hS 0 rfl rfl ?_) | (refine ldA_f hS 0 rfl rfl ?_) | (refine stN_f hS 0 rfl (Nat.le_of_ble_eq_true rfl) rfl rfl ?_; (conv => whnf); intro w1 hS) | (refine stM_f hS 0 rfl (Nat.le_of_ble_eq_true rfl) rfl ?_; (conv => whnf); intro w1 hS))
    refine ⟨?_, hS.nil⟩
    simp [be] at hs
    rw [hs]

theorem varF_len : ∀ (f : Nat) (n : Int), (varF f n).length ≤ f + 1
  | 0, n => by simp [varF]
  | f+1, n => by
    rw [varF]
    split
    · have := varF_len f (n / 128)
      simp; omega
    · simp
theorem varD_len (n : Int) : (varD n).length ≤ 6 := varF_len 5 n
def textD (s : List UInt8) : List UInt8 := varD s.length ++ s
theorem bytes_c (bw : Nat) (bs : List UInt8) (L : LM) (hW : Wr bw bs L) (w : World) (hS : St (keys L) w w L) :
    Fc Tryz.prog 54 [.pointer (some ⟨bw, 0, none⟩)] w fun v w' => v = .string (strY bs) ∧ St [] w w' [] := by
  refine fc_i TB_ok Tryz.func54 rfl (by kernel_rfl) ?_
  obtain ⟨v, Lv, rfl, hv⟩ := hW.out
  obtain ⟨Av, cv, rfl, hv⟩ := hv.open
  have hH : Holds w ((bw, .cells #[.slice Av bs.length cv] 106 (0, 0)) :: Lv) := fun x hx => hS.own x.1 x.2 hx
  have hRv : Rd w Av (flat encY bs) := hv.rd hS (fun x hx => List.mem_cons_of_mem _ hx)
  replace hS := Sf.refl w
  repeat ((conv => whnf); first | (refine nw_f hS ?_; intro b w1 hS) | (refine ld_f hS 0 rfl rfl ?_) | (refine ldA_f hS 0 rfl rfl ?_) | (refine stN_f hS 0 rfl (Nat.le_of_ble_eq_true rfl) rfl rfl ?_; (conv => whnf); intro w1 hS) | (refine stM_f hS 0 rfl (Nat.le_of_ble_eq_true rfl) rfl ?_; (conv => whnf); intro w1 hS) | (refine ld_h hS.nil hH 0 rfl rfl ?_))
  refine bStr_i Tryz.underlying95 Tryz.underlying5 Tryz.underlying9 hRv rfl ?_
  repeat ((conv => whnf); first | (refine nw_f hS ?_; intro b w1 hS) | (refine ld_f hS 0 rfl rfl ?_) | (refine ldA_f hS 0 rfl rfl ?_) | (refine stN_f hS 0 rfl (Nat.le_of_ble_eq_true rfl) rfl rfl ?_; (conv => whnf); intro w1 hS) | (refine stM_f hS 0 rfl (Nat.le_of_ble_eq_true rfl) rfl ?_; (conv => whnf); intro w1 hS))
  exact ⟨rfl, hS.nil⟩

theorem raw_c (bw : Nat) (bs s : List UInt8) (L : LM) (hW : Wr bw bs L) (w : World) (hS : St (keys L) w w L) (hn : bs.length + s.length ≤ 140737488355328) :
    Fc Tryz.prog 51 [.pointer (some ⟨bw, 0, none⟩), .string (strY s)] w fun v w' => ∃ L', Wr bw (bs ++ s) L' ∧ St (keys L) w w' L' := by
  refine fc_i TB_ok Tryz.func51 rfl (by kernel_rfl) ?_
  have hS : Sf (keys L) w w (L ++ []) [] := ⟨by simpa using hS⟩
  repeat ((conv => whnf); first | (refine nw_f hS ?_; intro b w1 hS) | (refine ld_f hS 0 rfl rfl ?_) | (refine ldA_f hS 0 rfl rfl ?_) | (refine stN_f hS 0 rfl (Nat.le_of_ble_eq_true rfl) rfl rfl ?_; (conv => whnf); intro w1 hS) | (refine stM_f hS 0 rfl (Nat.le_of_ble_eq_true rfl) rfl ?_; (conv => whnf); intro w1 hS))
  refine sBytes_i Tryz.underlying9 Tryz.underlying95 Tryz.underlying5 hS ?_
  intro br cap C w1 hcap hrow hS
  have hsz : (strY s).size = s.length := strY_size s
  have hd : (strY s).data.toList = s := by simp [strY]
  rw [hd] at hrow
  rw [hsz]
  repeat ((conv => whnf); first | (refine nw_f hS ?_; intro b w1 hS) | (refine ld_f hS 0 rfl rfl ?_) | (refine ldA_f hS 0 rfl rfl ?_) | (refine stN_f hS 0 rfl (Nat.le_of_ble_eq_true rfl) rfl rfl ?_; (conv => whnf); intro w1 hS) | (refine stM_f hS 0 rfl (Nat.le_of_ble_eq_true rfl) rfl ?_; (conv => whnf); intro w1 hS))
  refine fc_m (write_c bw bs s L hW _ _ _ hS.ownF (hrow.rd hS) hn) ?_
  rintro v w3 ⟨L2, hW2, hS'⟩
  replace hS := hS.callW hS'
  repeat ((conv => whnf); first | (refine nw_f hS ?_; intro b w1 hS) | (refine ld_f hS 0 rfl rfl ?_) | (refine ldA_f hS 0 rfl rfl ?_) | (refine stN_f hS 0 rfl (Nat.le_of_ble_eq_true rfl) rfl rfl ?_; (conv => whnf); intro w1 hS) | (refine stM_f hS 0 rfl (Nat.le_of_ble_eq_true rfl) rfl ?_; (conv => whnf); intro w1 hS))
  exact ⟨L2, hW2, by simpa using hS.fr (List.Sublist.refl _)⟩
end Go.RV

/- Contracts of functions of chapter 1: a var number that is written. Conditions: none. -/
set_option maxRecDepth 20000
set_option linter.unusedVariables false
set_option linter.unusedSimpArgs false
namespace Go.RV
open Go Go.Proofs

theorem digits_c (n : Int) (w : World) : Fc Tryz.prog 111 [.int .u32 n] w fun v w' => ∃ b, v = .func (.func 121) #[] #[.pointer (some ⟨b, 0, none⟩)] ∧ St [] w w' [(b, .cells #[.int .u32 n] 22 (0, 0))] := by
  refine fc_i TB_ok Tryz.func111 rfl (by kernel_rfl) ?_
  have hS := Sf.refl w
  repeat ((conv => whnf); first | (refine nw_f hS ?_; intro b w1 hS) | (refine ld_f hS 0 rfl rfl ?_) | (refine ld_f hS 1 rfl rfl ?_) | (refine ldA_f hS 0 rfl rfl ?_) | (refine ldA_f hS 1 rfl rfl ?_) | (refine stN_f hS 0 rfl (Nat.le_of_ble_eq_true rfl) rfl rfl ?_; (conv => whnf); intro w1 hS) | (refine stN_f hS 1 rfl (Nat.le_of_ble_eq_true rfl) rfl rfl ?_; (conv => whnf); intro w1 hS) | (refine stM_f hS 0 rfl (Nat.le_of_ble_eq_true rfl) rfl ?_; (conv => whnf); intro w1 hS) | (refine stM_f hS 1 rfl (Nat.le_of_ble_eq_true rfl) rfl ?_; (conv => whnf); intro w1 hS))
  exact ⟨_, rfl, hS.sub (by repeat (first | exact List.Sublist.refl _ | apply List.Sublist.cons_cons | apply List.Sublist.cons))⟩

theorem u8var {n : Int} (h : 0 ≤ n) : [Value.int .u8 (IntKind.u8.wrap (IntKind.u8.wrap (n.tmod 128) + 128))] = flat encY [yI (128 + n % 128)] := by
  rw [Int.tmod_eq_emod_of_nonneg h, wrap_u8 (x := n % 128) (by omega) (by omega), Int.add_comm, u8v]

theorem wvar_c (bw : Nat) (bs : List UInt8) (L : LM) (hW : Wr bw bs L) (n0 : Int) (h0 : 0 ≤ n0) (h1 : n0 ≤ 4294967295) (w : World) (hS : St (keys L) w w L) (hn : bs.length ≤ 70368744177664) :
    Fc Tryz.prog 92 [.pointer (some ⟨bw, 0, none⟩), .int .u32 n0] w fun v w' => ∃ L', Wr bw (bs ++ varD n0) L' ∧ St (keys L) w w' L' := by
  refine fc_i TB_ok Tryz.func92 rfl (by kernel_rfl) ?_
  have hS : Sf (keys L) w w (L ++ []) [] := ⟨by simpa using hS⟩
  repeat ((conv => whnf); first | (refine nw_f hS ?_; intro b w1 hS) | (refine ld_f hS 0 rfl rfl ?_) | (refine ld_f hS 1 rfl rfl ?_) | (refine ldA_f hS 0 rfl rfl ?_) | (refine ldA_f hS 1 rfl rfl ?_) | (refine stN_f hS 0 rfl (Nat.le_of_ble_eq_true rfl) rfl rfl ?_; (conv => whnf); intro w1 hS) | (refine stN_f hS 1 rfl (Nat.le_of_ble_eq_true rfl) rfl rfl ?_; (conv => whnf); intro w1 hS) | (refine stM_f hS 0 rfl (Nat.le_of_ble_eq_true rfl) rfl ?_; (conv => whnf); intro w1 hS) | (refine stM_f hS 1 rfl (Nat.le_of_ble_eq_true rfl) rfl ?_; (conv => whnf); intro w1 hS))
  refine fc_m (digits_c n0 _) ?_
  rintro v w1 ⟨bn, rfl, hS'⟩
  replace hS := hS.call' hS'
  repeat ((conv => whnf); first | (refine nw_f hS ?_; intro b w1 hS) | (refine ld_f hS 0 rfl rfl ?_) | (refine ld_f hS 1 rfl rfl ?_) | (refine ldA_f hS 0 rfl rfl ?_) | (refine ldA_f hS 1 rfl rfl ?_) | (refine stN_f hS 0 rfl (Nat.le_of_ble_eq_true rfl) rfl rfl ?_; (conv => whnf); intro w1 hS) | (refine stN_f hS 1 rfl (Nat.le_of_ble_eq_true rfl) rfl rfl ?_; (conv => whnf); intro w1 hS) | (refine stM_f hS 0 rfl (Nat.le_of_ble_eq_true rfl) rfl ?_; (conv => whnf); intro w1 hS) | (refine stM_f hS 1 rfl (Nat.le_of_ble_eq_true rfl) rfl ?_; (conv => whnf); intro w1 hS))
  refine range_i rfl Tryz.func121 rfl (by kernel_rfl) hS ?_
  intro fi bd l w2 hS
  refine fc_i TB_ok Tryz.func121 rfl (by kernel_rfl) ?_
  repeat ((conv => whnf); first | (refine nw_f hS ?_; intro b w1 hS) | (refine ld_f hS 0 rfl rfl ?_) | (refine ld_f hS 1 rfl rfl ?_) | (refine ld_f hS 2 rfl rfl ?_) | (refine ld_f hS 3 rfl rfl ?_) | (refine ldA_f hS 0 rfl rfl ?_) | (refine ldA_f hS 1 rfl rfl ?_) | (refine ldA_f hS 2 rfl rfl ?_) | (refine ldA_f hS 3 rfl rfl ?_) | (refine stN_f hS 0 rfl (Nat.le_of_ble_eq_true rfl) rfl rfl ?_; (conv => whnf); intro w1 hS) | (refine stN_f hS 1 rfl (Nat.le_of_ble_eq_true rfl) rfl rfl ?_; (conv => whnf); intro w1 hS) | (refine stN_f hS 2 rfl (Nat.le_of_ble_eq_true rfl) rfl rfl ?_; (conv => whnf); intro w1 hS) | (refine stN_f hS 3 rfl (Nat.le_of_ble_eq_true rfl) rfl rfl ?_; (conv => whnf); intro w1 hS) | (refine stM_f hS 0 rfl (Nat.le_of_ble_eq_true rfl) rfl ?_; (conv => whnf); intro w1 hS) | (refine stM_f hS 1 rfl (Nat.le_of_ble_eq_true rfl) rfl ?_; (conv => whnf); intro w1 hS) | (refine stM_f hS 2 rfl (Nat.le_of_ble_eq_true rfl) rfl ?_; (conv => whnf); intro w1 hS) | (refine stM_f hS 3 rfl (Nat.le_of_ble_eq_true rfl) rfl ?_; (conv => whnf); intro w1 hS))
  refine loop_i TB_ok (fun s : Nat × Int × List UInt8 => []) (fun s w' => (s.1 ≤ 5 ∧ 1 ≤ s.1) ∧ (0 ≤ s.2.1 ∧ s.2.1 ≤ 4294967295 ∧ s.2.1 < 2 ^ (7 * s.1)) ∧ s.2.2 ++ varF s.1 s.2.1 = varD n0 ∧ s.2.2.length = 5 - s.1 ∧ ∃ L', Wr bw (bs ++ s.2.2) L' ∧ Sf (keys L) w w' (L' ++ []) [_, _, _, (bn, .cells #[.int .u32 s.2.1] 22 (0, 0))]) (fun s => s.1) (5, n0, []) rfl ⟨⟨Nat.le_refl _, by show 1 ≤ 5; decide⟩, ⟨h0, h1, by show n0 < 2 ^ 35; omega⟩, rfl, rfl, L, by simpa using hW, hS⟩ ?_
  rintro ⟨f, n, pre⟩ us w3 ⟨hf, hn', hs, hl, L', hW', hS⟩
  simp only at hf hn' hs hl hW'
  obtain ⟨f, rfl⟩ : ∃ j, f = j + 1 := ⟨f - 1, by omega⟩
  repeat ((conv => whnf); first | (refine nw_f hS ?_; intro b w1 hS) | (refine ld_f hS 0 rfl rfl ?_) | (refine ld_f hS 1 rfl rfl ?_) | (refine ld_f hS 2 rfl rfl ?_) | (refine ld_f hS 3 rfl rfl ?_) | (refine ldA_f hS 0 rfl rfl ?_) | (refine ldA_f hS 1 rfl rfl ?_) | (refine ldA_f hS 2 rfl rfl ?_) | (refine ldA_f hS 3 rfl rfl ?_) | (refine stN_f hS 0 rfl (Nat.le_of_ble_eq_true rfl) rfl rfl ?_; (conv => whnf); intro w1 hS) | (refine stN_f hS 1 rfl (Nat.le_of_ble_eq_true rfl) rfl rfl ?_; (conv => whnf); intro w1 hS) | (refine stN_f hS 2 rfl (Nat.le_of_ble_eq_true rfl) rfl rfl ?_; (conv => whnf); intro w1 hS) | (refine stN_f hS 3 rfl (Nat.le_of_ble_eq_true rfl) rfl rfl ?_; (conv => whnf); intro w1 hS) | (refine stM_f hS 0 rfl (Nat.le_of_ble_eq_true rfl) rfl ?_; (conv => whnf); intro w1 hS) | (refine stM_f hS 1 rfl (Nat.le_of_ble_eq_true rfl) rfl ?_; (conv => whnf); intro w1 hS) | (refine stM_f hS 2 rfl (Nat.le_of_ble_eq_true rfl) rfl ?_; (conv => whnf); intro w1 hS) | (refine stM_f hS 3 rfl (Nat.le_of_ble_eq_true rfl) rfl ?_; (conv => whnf); intro w1 hS))
  refine br_i (fun hb => ?_) (fun hb => ?_)
  · have hlt : 127 < n := by have : (128 : Int) ≤ n := of_decide_eq_true hb; omega
    have hf1 : 1 ≤ f := by
      rcases Nat.lt_or_ge 0 f with h | h
      · exact h
      · obtain rfl : f = 0 := by omega
        have := hn'.2.2
        simp at this
        omega
    rw [varF, if_pos hlt] at hs
    repeat ((conv => whnf); first | (refine nw_f hS ?_; intro b w1 hS) | (refine ld_f hS 0 rfl rfl ?_) | (refine ld_f hS 1 rfl rfl ?_) | (refine ld_f hS 2 rfl rfl ?_) | (refine ld_f hS 3 rfl rfl ?_) | (refine ldA_f hS 0 rfl rfl ?_) | (refine ldA_f hS 1 rfl rfl ?_) | (refine ldA_f hS 2 rfl rfl ?_) | (refine ldA_f hS 3 rfl rfl ?_) | (refine stN_f hS 0 rfl (Nat.le_of_ble_eq_true rfl) rfl rfl ?_; (conv => whnf); intro w1 hS) | (refine stN_f hS 1 rfl (Nat.le_of_ble_eq_true rfl) rfl rfl ?_; (conv => whnf); intro w1 hS) | (refine stN_f hS 2 rfl (Nat.le_of_ble_eq_true rfl) rfl rfl ?_; (conv => whnf); intro w1 hS) | (refine stN_f hS 3 rfl (Nat.le_of_ble_eq_true rfl) rfl rfl ?_; (conv => whnf); intro w1 hS) | (refine stM_f hS 0 rfl (Nat.le_of_ble_eq_true rfl) rfl ?_; (conv => whnf); intro w1 hS) | (refine stM_f hS 1 rfl (Nat.le_of_ble_eq_true rfl) rfl ?_; (conv => whnf); intro w1 hS) | (refine stM_f hS 2 rfl (Nat.le_of_ble_eq_true rfl) rfl ?_; (conv => whnf); intro w1 hS) | (refine stM_f hS 3 rfl (Nat.le_of_ble_eq_true rfl) rfl ?_; (conv => whnf); intro w1 hS) | (refine .mk (by decide) ?_))
    (conv => whnf)
    refine yield1_i TB_ok (hS.obj 0 rfl) rfl ?_
    (conv => whnf)
    refine begin_f hS 0 rfl rfl ?_
    (conv => whnf)
    intro w5 hS
    repeat ((conv => whnf); first | (refine nw_f hS ?_; intro b w1 hS) | (refine ld_f hS 0 rfl rfl ?_) | (refine ld_f hS 1 rfl rfl ?_) | (refine ld_f hS 2 rfl rfl ?_) | (refine ld_f hS 3 rfl rfl ?_) | (refine ldA_f hS 0 rfl rfl ?_) | (refine ldA_f hS 1 rfl rfl ?_) | (refine ldA_f hS 2 rfl rfl ?_) | (refine ldA_f hS 3 rfl rfl ?_) | (refine stN_f hS 0 rfl (Nat.le_of_ble_eq_true rfl) rfl rfl ?_; (conv => whnf); intro w1 hS) | (refine stN_f hS 1 rfl (Nat.le_of_ble_eq_true rfl) rfl rfl ?_; (conv => whnf); intro w1 hS) | (refine stN_f hS 2 rfl (Nat.le_of_ble_eq_true rfl) rfl rfl ?_; (conv => whnf); intro w1 hS) | (refine stN_f hS 3 rfl (Nat.le_of_ble_eq_true rfl) rfl rfl ?_; (conv => whnf); intro w1 hS) | (refine stM_f hS 0 rfl (Nat.le_of_ble_eq_true rfl) rfl ?_; (conv => whnf); intro w1 hS) | (refine stM_f hS 1 rfl (Nat.le_of_ble_eq_true rfl) rfl ?_; (conv => whnf); intro w1 hS) | (refine stM_f hS 2 rfl (Nat.le_of_ble_eq_true rfl) rfl ?_; (conv => whnf); intro w1 hS) | (refine stM_f hS 3 rfl (Nat.le_of_ble_eq_true rfl) rfl ?_; (conv => whnf); intro w1 hS))
    have hRd : Rd _ _ [Value.int .u8 (IntKind.u8.wrap (IntKind.u8.wrap (n.tmod 128) + 128))] := hS.rd 0 rfl
    rw [u8var hn'.1] at hRd
    refine fc_m (write_c bw (bs ++ pre) [yI (128 + n % 128)] L' hW' _ _ _ hS.ownF hRd (by have h1 : pre.length = 5 - (f + 1) := hl; simp; omega)) ?_
    rintro v w6 ⟨L2, hW2, hS'⟩
    replace hS := hS.callW hS'
    (conv => whnf)
    refine end_f hS 1 rfl ?_
    (conv => whnf)
    intro w7 hS
    repeat ((conv => whnf); first | (refine nw_f hS ?_; intro b w1 hS) | (refine ld_f hS 0 rfl rfl ?_) | (refine ld_f hS 1 rfl rfl ?_) | (refine ld_f hS 2 rfl rfl ?_) | (refine ld_f hS 3 rfl rfl ?_) | (refine ld_f hS 4 rfl rfl ?_) | (refine ldA_f hS 0 rfl rfl ?_) | (refine ldA_f hS 1 rfl rfl ?_) | (refine ldA_f hS 2 rfl rfl ?_) | (refine ldA_f hS 3 rfl rfl ?_) | (refine ldA_f hS 4 rfl rfl ?_) | (refine stN_f hS 0 rfl (Nat.le_of_ble_eq_true rfl) rfl rfl ?_; (conv => whnf); intro w1 hS) | (refine stN_f hS 1 rfl (Nat.le_of_ble_eq_true rfl) rfl rfl ?_; (conv => whnf); intro w1 hS) | (refine stN_f hS 2 rfl (Nat.le_of_ble_eq_true rfl) rfl rfl ?_; (conv => whnf); intro w1 hS) | (refine stN_f hS 3 rfl (Nat.le_of_ble_eq_true rfl) rfl rfl ?_; (conv => whnf); intro w1 hS) | (refine stN_f hS 4 rfl (Nat.le_of_ble_eq_true rfl) rfl rfl ?_; (conv => whnf); intro w1 hS) | (refine stM_f hS 0 rfl (Nat.le_of_ble_eq_true rfl) rfl ?_; (conv => whnf); intro w1 hS) | (refine stM_f hS 1 rfl (Nat.le_of_ble_eq_true rfl) rfl ?_; (conv => whnf); intro w1 hS) | (refine stM_f hS 2 rfl (Nat.le_of_ble_eq_true rfl) rfl ?_; (conv => whnf); intro w1 hS) | (refine stM_f hS 3 rfl (Nat.le_of_ble_eq_true rfl) rfl ?_; (conv => whnf); intro w1 hS) | (refine stM_f hS 4 rfl (Nat.le_of_ble_eq_true rfl) rfl ?_; (conv => whnf); intro w1 hS) | (refine .mk (by decide) ?_))
    have e : IntKind.u32.wrap (n.tdiv 128) = n / 128 := by rw [Int.tdiv_eq_ediv_of_nonneg hn'.1, wrap_u32 (by omega) (by omega)]
    have hl' : pre.length = 5 - (f + 1) := hl
    refine ⟨rfl, (f, IntKind.u32.wrap (n.tdiv 128), pre ++ [yI (128 + n % 128)]), rfl, ⟨by simp only; omega, ⟨by simp only; rw [e]; omega, by simp only; rw [e]; omega, ?_⟩, by simp only; rw [e, ← hs]; simp, by simp; omega, L2, by simpa [List.append_assoc] using hW2, hS.subs (List.Sublist.refl _) (by repeat (first | exact List.Sublist.refl _ | apply List.Sublist.cons_cons | apply List.Sublist.cons))⟩, by simp⟩
    simp only
    rw [e]
    have h := hn'.2.2
    rw [show 7 * (f + 1) = 7 * f + 7 from by omega, Int.pow_add] at h
    have h7 : (2 : Int) ^ 7 = 128 := by decide
    rw [h7] at h
    exact Int.ediv_lt_of_lt_mul (by decide) h
  · have hge : ¬ 127 < n := by have : ¬ (128 : Int) ≤ n := of_decide_eq_false hb; omega
    rw [varF, if_neg hge] at hs
    repeat ((conv => whnf); first | (refine nw_f hS ?_; intro b w1 hS) | (refine ld_f hS 0 rfl rfl ?_) | (refine ld_f hS 1 rfl rfl ?_) | (refine ld_f hS 2 rfl rfl ?_) | (refine ld_f hS 3 rfl rfl ?_) | (refine ldA_f hS 0 rfl rfl ?_) | (refine ldA_f hS 1 rfl rfl ?_) | (refine ldA_f hS 2 rfl rfl ?_) | (refine ldA_f hS 3 rfl rfl ?_) | (refine stN_f hS 0 rfl (Nat.le_of_ble_eq_true rfl) rfl rfl ?_; (conv => whnf); intro w1 hS) | (refine stN_f hS 1 rfl (Nat.le_of_ble_eq_true rfl) rfl rfl ?_; (conv => whnf); intro w1 hS) | (refine stN_f hS 2 rfl (Nat.le_of_ble_eq_true rfl) rfl rfl ?_; (conv => whnf); intro w1 hS) | (refine stN_f hS 3 rfl (Nat.le_of_ble_eq_true rfl) rfl rfl ?_; (conv => whnf); intro w1 hS) | (refine stM_f hS 0 rfl (Nat.le_of_ble_eq_true rfl) rfl ?_; (conv => whnf); intro w1 hS) | (refine stM_f hS 1 rfl (Nat.le_of_ble_eq_true rfl) rfl ?_; (conv => whnf); intro w1 hS) | (refine stM_f hS 2 rfl (Nat.le_of_ble_eq_true rfl) rfl ?_; (conv => whnf); intro w1 hS) | (refine stM_f hS 3 rfl (Nat.le_of_ble_eq_true rfl) rfl ?_; (conv => whnf); intro w1 hS))
    (conv => whnf)
    refine yield1_i TB_ok (hS.obj 0 rfl) rfl ?_
    (conv => whnf)
    refine begin_f hS 0 rfl rfl ?_
    (conv => whnf)
    intro w5 hS
    repeat ((conv => whnf); first | (refine nw_f hS ?_; intro b w1 hS) | (refine ld_f hS 0 rfl rfl ?_) | (refine ld_f hS 1 rfl rfl ?_) | (refine ld_f hS 2 rfl rfl ?_) | (refine ld_f hS 3 rfl rfl ?_) | (refine ldA_f hS 0 rfl rfl ?_) | (refine ldA_f hS 1 rfl rfl ?_) | (refine ldA_f hS 2 rfl rfl ?_) | (refine ldA_f hS 3 rfl rfl ?_) | (refine stN_f hS 0 rfl (Nat.le_of_ble_eq_true rfl) rfl rfl ?_; (conv => whnf); intro w1 hS) | (refine stN_f hS 1 rfl (Nat.le_of_ble_eq_true rfl) rfl rfl ?_; (conv => whnf); intro w1 hS) | (refine stN_f hS 2 rfl (Nat.le_of_ble_eq_true rfl) rfl rfl ?_; (conv => whnf); intro w1 hS) | (refine stN_f hS 3 rfl (Nat.le_of_ble_eq_true rfl) rfl rfl ?_; (conv => whnf); intro w1 hS) | (refine stM_f hS 0 rfl (Nat.le_of_ble_eq_true rfl) rfl ?_; (conv => whnf); intro w1 hS) | (refine stM_f hS 1 rfl (Nat.le_of_ble_eq_true rfl) rfl ?_; (conv => whnf); intro w1 hS) | (refine stM_f hS 2 rfl (Nat.le_of_ble_eq_true rfl) rfl ?_; (conv => whnf); intro w1 hS) | (refine stM_f hS 3 rfl (Nat.le_of_ble_eq_true rfl) rfl ?_; (conv => whnf); intro w1 hS))
    have hRd : Rd _ _ [Value.int .u8 (IntKind.u8.wrap n)] := hS.rd 0 rfl
    rw [u8v] at hRd
    refine fc_m (write_c bw (bs ++ pre) [yI n] L' hW' _ _ _ hS.ownF hRd (by have h1 : pre.length = 5 - (f + 1) := hl; simp; omega)) ?_
    rintro v w6 ⟨L2, hW2, hS'⟩
    replace hS := hS.callW hS'
    (conv => whnf)
    refine end_f hS 1 rfl ?_
    (conv => whnf)
    intro w7 hS
    (conv => whnf)
    refine loopEnd_f hS 1 rfl rfl rfl ?_
    (conv => whnf)
    intro w8 hS
    (conv => whnf)
    refine take_f hS 2 rfl ?_
    (conv => whnf)
    intro w9 hS
    (conv => whnf)
    refine ⟨L2, ?_, by simpa using hS.fr (List.Sublist.refl _)⟩
    rw [← hs, ← List.append_assoc]
    exact hW2
end Go.RV

/- Contracts of functions of chapter 1: texts that are written; items. Conditions: none. -/
set_option maxRecDepth 20000
set_option linter.unusedVariables false
set_option linter.unusedSimpArgs false
namespace Go.RV
open Go Go.Proofs

/-- an item -/
structure Itm where
  kind : Int
  n : Int
  s : List UInt8
def itmV (x : Itm) : Value := .agg #[.int .u8 x.kind, .int .u32 x.n, .string (strY x.s)]
def encI (x : Itm) : List Value := [.int .u8 x.kind, .int .u32 x.n, .string (strY x.s)]
theorem encI_len (x : Itm) : (encI x).length = 3 := rfl
def itmOk (x : Itm) : Prop := 0 ≤ x.kind ∧ 0 ≤ x.n ∧ x.n ≤ 4294967295
def itmD (x : Itm) : List UInt8 :=
  if x.kind % 6 = 0 then be x.n 1 else if x.kind % 6 = 1 then be x.n 2 else if x.kind % 6 = 2 then be x.n 4 else if x.kind % 6 = 3 then varD x.n else if x.kind % 6 = 4 then x.s else textD x.s

theorem yI_congr {a b : Int} (h : a % 256 = b % 256) : yI a = yI b := by unfold yI; rw [h]
theorem be1w (n : Int) (h : 0 ≤ n) : be (IntKind.u8.wrap n) 1 = be n 1 := by
  rw [wrap_u8_mod]
  simp only [be, List.cons.injEq, and_true]
  exact yI_congr (by simp)
theorem be2w (n : Int) (h : 0 ≤ n) : be (IntKind.u16.wrap n) 2 = be n 2 := by
  rw [wrap_u16_mod]
  simp only [be, List.cons.injEq, and_true]
  refine ⟨yI_congr ?_, yI_congr ?_⟩
  · show n % 65536 / 256 % 256 = n / 256 % 256
    omega
  · simp

end Go.RV

/- Contracts of functions of chapter 1: the reader. Conditions: none. -/
set_option maxRecDepth 20000
set_option linter.unusedVariables false
set_option linter.unusedSimpArgs false
namespace Go.RV
open Go Go.Proofs

/-- a reader's state -/
structure RS where
  rest : List UInt8
  e : Int
def rdO (s : RS) : Obj := .cells #[.string (strY s.rest), .int .i64 s.e] 131 (0, 0)
theorem strY_extract (l : List UInt8) (a b : Nat) : (strY l).extract a b = strY ((l.take b).drop a) := by
  apply ByteArray.ext
  simp [strY, List.drop_take]
def fixedR (s : RS) (n : Int) : List UInt8 × RS := if s.e ≠ 0 ∨ n ≤ 0 then ([], s) else if (s.rest.length : Int) < n then ([], ⟨[], 10⟩) else (s.rest.take n.toNat, ⟨s.rest.drop n.toNat, s.e⟩)

theorem read_c (s : List UInt8) (w : World) : Fc Tryz.prog 35 [.string (strY s)] w fun v w' => ∃ b, v = .pointer (some ⟨b, 0, none⟩) ∧ St [] w w' [(b, rdO ⟨s, 0⟩)] := by
  refine fc_i TB_ok Tryz.func35 rfl (by kernel_rfl) ?_
  have hS := Sf.refl w
  repeat ((conv => whnf); first | (refine nw_f hS ?_; intro b w1 hS) | (refine ld_f hS 0 rfl rfl ?_) | (refine ldA_f hS 0 rfl rfl ?_) | (refine stN_f hS 0 rfl (Nat.le_of_ble_eq_true rfl) rfl rfl ?_; (conv => whnf); intro w1 hS) | (refine stM_f hS 0 rfl (Nat.le_of_ble_eq_true rfl) rfl ?_; (conv => whnf); intro w1 hS))
  exact ⟨_, rfl, hS.sub (by repeat (first | exact List.Sublist.refl _ | apply List.Sublist.cons_cons | apply List.Sublist.cons))⟩
theorem rerr_c (b : Nat) (s : RS) (w : World) (hS : St [b] w w [(b, rdO s)]) : Fc Tryz.prog 71 [.pointer (some ⟨b, 0, none⟩)] w fun v w' => v = .int .i64 s.e ∧ St [] w w' [] := by
  refine fc_i TB_ok Tryz.func71 rfl (by kernel_rfl) ?_
  have hH : Holds w [(b, .cells #[.string (strY s.rest), .int .i64 s.e] 131 (0, 0))] := fun x hx => hS.own x.1 x.2 hx
  replace hS := Sf.refl w
  repeat ((conv => whnf); first | (refine nw_f hS ?_; intro b w1 hS) | (refine ld_f hS 0 rfl rfl ?_) | (refine ldA_f hS 0 rfl rfl ?_) | (refine stN_f hS 0 rfl (Nat.le_of_ble_eq_true rfl) rfl rfl ?_; (conv => whnf); intro w1 hS) | (refine stM_f hS 0 rfl (Nat.le_of_ble_eq_true rfl) rfl ?_; (conv => whnf); intro w1 hS) | (refine ld_h hS.nil hH 0 rfl rfl ?_))
  exact ⟨rfl, hS.nil⟩
theorem rrest_c (b : Nat) (s : RS) (w : World) (hS : St [b] w w [(b, rdO s)]) : Fc Tryz.prog 40 [.pointer (some ⟨b, 0, none⟩)] w fun v w' => v = .string (strY s.rest) ∧ St [] w w' [] := by
  refine fc_i TB_ok Tryz.func40 rfl (by kernel_rfl) ?_
  have hH : Holds w [(b, .cells #[.string (strY s.rest), .int .i64 s.e] 131 (0, 0))] := fun x hx => hS.own x.1 x.2 hx
  replace hS := Sf.refl w
  repeat ((conv => whnf); first | (refine nw_f hS ?_; intro b w1 hS) | (refine ld_f hS 0 rfl rfl ?_) | (refine ldA_f hS 0 rfl rfl ?_) | (refine stN_f hS 0 rfl (Nat.le_of_ble_eq_true rfl) rfl rfl ?_; (conv => whnf); intro w1 hS) | (refine stM_f hS 0 rfl (Nat.le_of_ble_eq_true rfl) rfl ?_; (conv => whnf); intro w1 hS) | (refine ld_h hS.nil hH 0 rfl rfl ?_))
  exact ⟨rfl, hS.nil⟩
theorem rfail_c (b : Nat) (s : RS) (e : Int) (w : World) (hS : St [b] w w [(b, rdO s)]) : Fc Tryz.prog 99 [.pointer (some ⟨b, 0, none⟩), .int .i64 e] w fun v w' => St [b] w w' [(b, rdO ⟨[], e⟩)] := by
  refine fc_i TB_ok Tryz.func99 rfl (by kernel_rfl) ?_
  have hS : Sf [b] w w [] [(b, .cells #[.string (strY s.rest), .int .i64 s.e] 131 (0, 0))] := ⟨hS⟩
  repeat ((conv => whnf); first | (refine nw_f hS ?_; intro b w1 hS) | (refine ld_f hS 0 rfl rfl ?_) | (refine ldA_f hS 0 rfl rfl ?_) | (refine stN_f hS 0 rfl (Nat.le_of_ble_eq_true rfl) rfl rfl ?_; (conv => whnf); intro w1 hS) | (refine stM_f hS 0 rfl (Nat.le_of_ble_eq_true rfl) rfl ?_; (conv => whnf); intro w1 hS))
  exact hS.st

theorem rfixed0_c (b : Nat) (s : RS) (n : Int) (w : World) (hS : St [b] w w [(b, rdO s)]) :
    Fc Tryz.prog 72 [.pointer (some ⟨b, 0, none⟩), .int .i64 n] w fun v w' => v = .string (strY (fixedR s n).1) ∧ St [b] w w' [(b, rdO (fixedR s n).2)] := by
  refine fc_i TB_ok Tryz.func72 rfl (by kernel_rfl) ?_
  have hS : Sf [b] w w [] [(b, .cells #[.string (strY s.rest), .int .i64 s.e] 131 (0, 0))] := ⟨hS⟩
  repeat ((conv => whnf); first | (refine nw_f hS ?_; intro b w1 hS) | (refine ld_f hS 0 rfl rfl ?_) | (refine ldA_f hS 0 rfl rfl ?_) | (refine stN_f hS 0 rfl (Nat.le_of_ble_eq_true rfl) rfl rfl ?_; (conv => whnf); intro w1 hS) | (refine stM_f hS 0 rfl (Nat.le_of_ble_eq_true rfl) rfl ?_; (conv => whnf); intro w1 hS))
  refine br_i (fun h0 => ?_) (fun h0 => ?_)
  · repeat ((conv => whnf); first | (refine nw_f hS ?_; intro b w1 hS) | (refine ld_f hS 0 rfl rfl ?_) | (refine ldA_f hS 0 rfl rfl ?_) | (refine stN_f hS 0 rfl (Nat.le_of_ble_eq_true rfl) rfl rfl ?_; (conv => whnf); intro w1 hS) | (refine stM_f hS 0 rfl (Nat.le_of_ble_eq_true rfl) rfl ?_; (conv => whnf); intro w1 hS))
    have hc : s.e ≠ 0 ∨ n ≤ 0 := .inl (by simpa using h0)
    exact ⟨by rw [fixedR, if_pos hc]; rfl, by rw [fixedR, if_pos hc]; exact hS.st⟩
  · repeat ((conv => whnf); first | (refine nw_f hS ?_; intro b w1 hS) | (refine ld_f hS 0 rfl rfl ?_) | (refine ldA_f hS 0 rfl rfl ?_) | (refine stN_f hS 0 rfl (Nat.le_of_ble_eq_true rfl) rfl rfl ?_; (conv => whnf); intro w1 hS) | (refine stM_f hS 0 rfl (Nat.le_of_ble_eq_true rfl) rfl ?_; (conv => whnf); intro w1 hS))
    refine br_i (fun h1 => ?_) (fun h1 => ?_)
    · repeat ((conv => whnf); first | (refine nw_f hS ?_; intro b w1 hS) | (refine ld_f hS 0 rfl rfl ?_) | (refine ldA_f hS 0 rfl rfl ?_) | (refine stN_f hS 0 rfl (Nat.le_of_ble_eq_true rfl) rfl rfl ?_; (conv => whnf); intro w1 hS) | (refine stM_f hS 0 rfl (Nat.le_of_ble_eq_true rfl) rfl ?_; (conv => whnf); intro w1 hS))
      have hc : s.e ≠ 0 ∨ n ≤ 0 := .inr (by simpa using h1)
      exact ⟨by rw [fixedR, if_pos hc]; rfl, by rw [fixedR, if_pos hc]; exact hS.st⟩
    · have hc : ¬ (s.e ≠ 0 ∨ n ≤ 0) := by simp at h0 h1; omega
      have hsz := strY_size s.rest
      repeat ((conv => whnf); first | (refine nw_f hS ?_; intro b w1 hS) | (refine ld_f hS 0 rfl rfl ?_) | (refine ldA_f hS 0 rfl rfl ?_) | (refine stN_f hS 0 rfl (Nat.le_of_ble_eq_true rfl) rfl rfl ?_; (conv => whnf); intro w1 hS) | (refine stM_f hS 0 rfl (Nat.le_of_ble_eq_true rfl) rfl ?_; (conv => whnf); intro w1 hS))
      refine br_i (fun h2 => ?_) (fun h2 => ?_)
      · have h2' : (s.rest.length : Int) < n := by have := of_decide_eq_true h2; omega
        repeat ((conv => whnf); first | (refine nw_f hS ?_; intro b w1 hS) | (refine ld_f hS 0 rfl rfl ?_) | (refine ldA_f hS 0 rfl rfl ?_) | (refine stN_f hS 0 rfl (Nat.le_of_ble_eq_true rfl) rfl rfl ?_; (conv => whnf); intro w1 hS) | (refine stM_f hS 0 rfl (Nat.le_of_ble_eq_true rfl) rfl ?_; (conv => whnf); intro w1 hS))
        refine fc_m (rfail_c b s 10 _ (hS.ownL (Lw := [(b, rdO s)]) (List.Sublist.refl _))) ?_
        rintro v w1 hS'
        have hS2 : Sf [b] w w1 [] [(b, rdO ⟨[], 10⟩)] := ⟨by simpa using hS.st.callM hS' (Lk := []) (fun b' hb => ⟨_, by simp at hb; subst hb; exact List.mem_singleton.2 rfl⟩) (List.nil_sublist _) (fun x hx => by cases hx)⟩
        replace hS := hS2
        repeat ((conv => whnf); first | (refine nw_f hS ?_; intro b w1 hS) | (refine ld_f hS 0 rfl rfl ?_) | (refine ldA_f hS 0 rfl rfl ?_) | (refine stN_f hS 0 rfl (Nat.le_of_ble_eq_true rfl) rfl rfl ?_; (conv => whnf); intro w1 hS) | (refine stM_f hS 0 rfl (Nat.le_of_ble_eq_true rfl) rfl ?_; (conv => whnf); intro w1 hS))
        exact ⟨by rw [fixedR, if_neg hc, if_pos h2']; rfl, by rw [fixedR, if_neg hc, if_pos h2']; exact hS.st⟩
      · have h2' : ¬ (s.rest.length : Int) < n := by have := of_decide_eq_false h2; omega
        repeat ((conv => whnf); first | (refine nw_f hS ?_; intro b w1 hS) | (refine ld_f hS 0 rfl rfl ?_) | (refine ldA_f hS 0 rfl rfl ?_) | (refine stN_f hS 0 rfl (Nat.le_of_ble_eq_true rfl) rfl rfl ?_; (conv => whnf); intro w1 hS) | (refine stM_f hS 0 rfl (Nat.le_of_ble_eq_true rfl) rfl ?_; (conv => whnf); intro w1 hS))
        refine drawf TB_ok rfl (by kernel_rfl) (by kernel_rfl) hS (List.Sublist.refl _) (List.Sublist.refl _) ?_
        intro w1 hS
        repeat ((conv => whnf); apply q_i; focus (intro w1 hS; (conv => whnf); first | exact ⟨rfl, rfl⟩ | (refine ld_f hS 0 rfl rfl ?_; (conv => whnf); exact ⟨rfl, rfl⟩) | (refine ldA_f hS 0 rfl rfl ?_; (conv => whnf); exact ⟨rfl, rfl⟩) | (refine .mk ⟨by omega, by omega⟩ ?_; (conv => whnf); exact ⟨rfl, rfl⟩)))
        (conv => whnf)
        refine stN_f hS 0 rfl (Nat.le_of_ble_eq_true rfl) rfl rfl ?_
        (conv => whnf)
        intro w2 hS
        repeat ((conv => whnf); first | (refine nw_f hS ?_; intro b w1 hS) | (refine ld_f hS 0 rfl rfl ?_) | (refine ldA_f hS 0 rfl rfl ?_) | (refine stN_f hS 0 rfl (Nat.le_of_ble_eq_true rfl) rfl rfl ?_; (conv => whnf); intro w1 hS) | (refine stM_f hS 0 rfl (Nat.le_of_ble_eq_true rfl) rfl ?_; (conv => whnf); intro w1 hS))
        rw [fixedR, if_neg hc, if_neg h2']
        refine ⟨?_, ?_⟩
        · rw [strY_extract]
          simp
        · have e : (strY s.rest).extract n.toNat (strY s.rest).size = strY (s.rest.drop n.toNat) := by
            rw [strY_extract, hsz, List.take_length]
          rw [e] at hS
          exact hS.st
end Go.RV

/- Contracts of functions of chapter 1: the reader's numbers. Conditions: none. -/
set_option maxRecDepth 20000
set_option linter.unusedVariables false
set_option linter.unusedSimpArgs false
namespace Go.RV
open Go Go.Proofs

def numF (n : Int) (l : List UInt8) : Int := l.foldl (fun n c => n * 256 + (c.toNat : Int)) n
theorem or_add {n c : Nat} (hc : c < 256) : (n * 256) ||| c = n * 256 + c := by
  rw [show n * 256 = n <<< 8 from by rw [Nat.shiftLeft_eq]]
  exact (Nat.shiftLeft_add_eq_or_of_lt hc n).symm
theorem orv {n : Int} {c : Nat} (h0 : 0 ≤ n) (h1 : n < 16777216) (hc : c < 256) : bOr .u32 (bShl .u32 n 8) (c : Int) = n * 256 + c := by
  obtain ⟨m, rfl⟩ := Int.eq_ofNat_of_zero_le h0
  have e8 : bShl .u32 (m : Int) 8 = ((m * 256 : Nat) : Int) := by
    unfold bShl
    have e : min (8 : Int).toNat IntKind.u32.bits = 8 := rfl
    rw [e]
    show IntKind.u32.wrap ((m : Int) * 256) = _
    rw [wrap_u32 (by omega) (by omega)]
    omega
  rw [e8]
  unfold bOr
  have hb : IntKind.u32.bits = 32 := rfl
  rw [hb]
  have e1 : BitVec.ofInt 32 ((m * 256 : Nat) : Int) = BitVec.ofNat 32 (m * 256) := BitVec.ofInt_natCast 32 _
  have e2 : BitVec.ofInt 32 ((c : Nat) : Int) = BitVec.ofNat 32 c := BitVec.ofInt_natCast 32 _
  rw [e1, e2, BitVec.toNat_or, BitVec.toNat_ofNat, BitVec.toNat_ofNat, Nat.mod_eq_of_lt (by omega), Nat.mod_eq_of_lt (by omega), or_add hc, wrap_u32 (by omega) (by omega)]
  omega
theorem numF_bound : ∀ (l : List UInt8) (n : Int), 0 ≤ n → 0 ≤ numF n l ∧ numF n l < (n + 1) * 256 ^ l.length
  | [], n, h => by simp [numF]; omega
  | c :: l, n, h => by
    have hc : c.toNat < 256 := c.toNat_lt
    have ih := numF_bound l (n * 256 + c.toNat) (by omega)
    refine ⟨ih.1, Int.lt_of_lt_of_le ih.2 ?_⟩
    rw [List.length_cons, Int.pow_succ, Int.mul_comm (256 ^ l.length) 256, ← Int.mul_assoc]
    exact Int.mul_le_mul_of_nonneg_right (by omega) (Int.pow_nonneg (by decide))
theorem fixedR_len (s : RS) (W : Nat) : (fixedR s W).1.length ≤ W := by
  unfold fixedR
  split
  · simp
  · split
    · simp
    · simp; omega

theorem get8_c (b : Nat) (s : RS) (W : Nat) (hW : W ≤ 4) (w : World) (hS : St [b] w w [(b, rdO s)]) :
    Fc Tryz.prog 98 [.pointer (some ⟨b, 0, none⟩), .int .i64 W] w fun v w' => v = .int .u8 (IntKind.u8.wrap (numF 0 (fixedR s W).1)) ∧ St [b] w w' [(b, rdO (fixedR s W).2)] := by
  refine fc_i TB_ok Tryz.func98 rfl (by kernel_rfl) ?_
  have hS : Sf [b] w w ([(b, rdO s)] ++ []) [] := ⟨hS⟩
  repeat ((conv => whnf); first | (refine nw_f hS ?_; intro b w1 hS) | (refine ld_f hS 0 rfl rfl ?_) | (refine ldA_f hS 0 rfl rfl ?_) | (refine stN_f hS 0 rfl (Nat.le_of_ble_eq_true rfl) rfl rfl ?_; (conv => whnf); intro w1 hS) | (refine stM_f hS 0 rfl (Nat.le_of_ble_eq_true rfl) rfl ?_; (conv => whnf); intro w1 hS))
  refine fc_m (rfixed0_c b s W _ hS.ownF) ?_
  rintro v w1 ⟨rfl, hS'⟩
  replace hS := hS.callW hS'
  have hl := fixedR_len s W
  generalize (fixedR s W).1 = bs at *
  generalize (fixedR s W).2 = s2 at *
  (conv => whnf)
  refine sBytes_i Tryz.underlying9 Tryz.underlying95 Tryz.underlying5 hS ?_
  intro br cap C w1 hcap hrow hS
  have hsz : (strY bs).size = bs.length := strY_size bs
  have hd : (strY bs).data.toList = bs := by simp [strY]
  rw [hd] at hrow
  rw [hsz]
  repeat ((conv => whnf); first | (refine nw_f hS ?_; intro b w1 hS) | (refine ld_f hS 0 rfl rfl ?_) | (refine ldA_f hS 0 rfl rfl ?_) | (refine stN_f hS 0 rfl (Nat.le_of_ble_eq_true rfl) rfl rfl ?_; (conv => whnf); intro w1 hS) | (refine stM_f hS 0 rfl (Nat.le_of_ble_eq_true rfl) rfl ?_; (conv => whnf); intro w1 hS))
  refine loop_i TB_ok (fun i : Nat => [(13, .int .i64 i), (5, .int .u32 (numF 0 (bs.take i)))]) (fun i w' => i ≤ bs.length ∧ Sf [b] w w' ([(b, rdO s2)] ++ []) [(br, _)]) (fun i => bs.length - i) 0 rfl ⟨Nat.zero_le _, hS⟩ ?_
  rintro i us w3 ⟨hi, hS⟩
  (conv => whnf)
  refine br_i (fun hb => ?_) (fun hb => ?_)
  · have hlt : i < bs.length := by simpa using hb
    have hR := hrow.rd hS
    have hstep : numF 0 (bs.take (i+1)) = numF 0 (bs.take i) * 256 + (bs[i].toNat : Int) := by
      unfold numF
      rw [List.take_succ_eq_append_getElem hlt, List.foldl_append]
      rfl
    repeat ((conv => whnf); first | (refine nw_f hS ?_; intro b w1 hS) | (refine ld_f hS 0 rfl rfl ?_) | (refine ldA_f hS 0 rfl rfl ?_) | (refine stN_f hS 0 rfl (Nat.le_of_ble_eq_true rfl) rfl rfl ?_; (conv => whnf); intro w1 hS) | (refine stM_f hS 0 rfl (Nat.le_of_ble_eq_true rfl) rfl ?_; (conv => whnf); intro w1 hS) | (refine .mk ⟨by omega, by omega⟩ ?_; refine ix_i rfl ?_) | (refine ld_el encY_len hR.at (i := i) (k := 0) hlt (by omega) rfl (v := .int .u8 (bs[i].toNat : Int)) rfl ?_) | (refine .mk (by decide) ?_))
    have hbd := numF_bound (bs.take i) 0 (by decide)
    have hpow : (256 : Int) ^ (bs.take i).length ≤ 256 ^ 3 := by
      rw [List.length_take]
      have : min i bs.length ≤ 3 := by omega
      exact_mod_cast Nat.pow_le_pow_right (by decide) this
    have h24 : (256 : Int) ^ 3 = 16777216 := by decide
    refine ⟨rfl, i + 1, ?_, ⟨by omega, hS⟩, by omega⟩
    have hc := bs[i].toNat_lt
    have ev : bOr .u32 (bShl .u32 (numF 0 (bs.take i)) 8) (IntKind.u32.wrap (bs[i].toNat : Int)) = numF 0 (bs.take i) * 256 + (bs[i].toNat : Int) := by
      rw [wrap_u32 (by omega) (by omega)]
      exact orv hbd.1 (by omega) hc
    rw [wi hlt (by omega), hstep, ← ev]
    rfl
  · have hge : i = bs.length := by simp at hb; omega
    subst hge
    repeat ((conv => whnf); first | (refine nw_f hS ?_; intro b w1 hS) | (refine ld_f hS 0 rfl rfl ?_) | (refine ldA_f hS 0 rfl rfl ?_) | (refine stN_f hS 0 rfl (Nat.le_of_ble_eq_true rfl) rfl rfl ?_; (conv => whnf); intro w1 hS) | (refine stM_f hS 0 rfl (Nat.le_of_ble_eq_true rfl) rfl ?_; (conv => whnf); intro w1 hS))
    rw [List.take_length]
    exact ⟨rfl, by simpa using hS.fr (List.Sublist.refl _)⟩
theorem get16_c (b : Nat) (s : RS) (W : Nat) (hW : W ≤ 4) (w : World) (hS : St [b] w w [(b, rdO s)]) :
    Fc Tryz.prog 100 [.pointer (some ⟨b, 0, none⟩), .int .i64 W] w fun v w' => v = .int .u16 (IntKind.u16.wrap (numF 0 (fixedR s W).1)) ∧ St [b] w w' [(b, rdO (fixedR s W).2)] := by
  refine fc_i TB_ok Tryz.func100 rfl (by kernel_rfl) ?_
  have hS : Sf [b] w w ([(b, rdO s)] ++ []) [] := ⟨hS⟩
  repeat ((conv => whnf); first | (refine nw_f hS ?_; intro b w1 hS) | (refine ld_f hS 0 rfl rfl ?_) | (refine ldA_f hS 0 rfl rfl ?_) | (refine stN_f hS 0 rfl (Nat.le_of_ble_eq_true rfl) rfl rfl ?_; (conv => whnf); intro w1 hS) | (refine stM_f hS 0 rfl (Nat.le_of_ble_eq_true rfl) rfl ?_; (conv => whnf); intro w1 hS))
  refine fc_m (rfixed0_c b s W _ hS.ownF) ?_
  rintro v w1 ⟨rfl, hS'⟩
  replace hS := hS.callW hS'
  have hl := fixedR_len s W
  generalize (fixedR s W).1 = bs at *
  generalize (fixedR s W).2 = s2 at *
  (conv => whnf)
  refine sBytes_i Tryz.underlying9 Tryz.underlying95 Tryz.underlying5 hS ?_
  intro br cap C w1 hcap hrow hS
  have hsz : (strY bs).size = bs.length := strY_size bs
  have hd : (strY bs).data.toList = bs := by simp [strY]
  rw [hd] at hrow
  rw [hsz]
  repeat ((conv => whnf); first | (refine nw_f hS ?_; intro b w1 hS) | (refine ld_f hS 0 rfl rfl ?_) | (refine ldA_f hS 0 rfl rfl ?_) | (refine stN_f hS 0 rfl (Nat.le_of_ble_eq_true rfl) rfl rfl ?_; (conv => whnf); intro w1 hS) | (refine stM_f hS 0 rfl (Nat.le_of_ble_eq_true rfl) rfl ?_; (conv => whnf); intro w1 hS))
  refine loop_i TB_ok (fun i : Nat => [(13, .int .i64 i), (5, .int .u32 (numF 0 (bs.take i)))]) (fun i w' => i ≤ bs.length ∧ Sf [b] w w' ([(b, rdO s2)] ++ []) [(br, _)]) (fun i => bs.length - i) 0 rfl ⟨Nat.zero_le _, hS⟩ ?_
  rintro i us w3 ⟨hi, hS⟩
  (conv => whnf)
  refine br_i (fun hb => ?_) (fun hb => ?_)
  · have hlt : i < bs.length := by simpa using hb
    have hR := hrow.rd hS
    have hstep : numF 0 (bs.take (i+1)) = numF 0 (bs.take i) * 256 + (bs[i].toNat : Int) := by
      unfold numF
      rw [List.take_succ_eq_append_getElem hlt, List.foldl_append]
      rfl
    repeat ((conv => whnf); first | (refine nw_f hS ?_; intro b w1 hS) | (refine ld_f hS 0 rfl rfl ?_) | (refine ldA_f hS 0 rfl rfl ?_) | (refine stN_f hS 0 rfl (Nat.le_of_ble_eq_true rfl) rfl rfl ?_; (conv => whnf); intro w1 hS) | (refine stM_f hS 0 rfl (Nat.le_of_ble_eq_true rfl) rfl ?_; (conv => whnf); intro w1 hS) | (refine .mk ⟨by omega, by omega⟩ ?_; refine ix_i rfl ?_) | (refine ld_el encY_len hR.at (i := i) (k := 0) hlt (by omega) rfl (v := .int .u8 (bs[i].toNat : Int)) rfl ?_) | (refine .mk (by decide) ?_))
    have hbd := numF_bound (bs.take i) 0 (by decide)
    have hpow : (256 : Int) ^ (bs.take i).length ≤ 256 ^ 3 := by
      rw [List.length_take]
      have : min i bs.length ≤ 3 := by omega
      exact_mod_cast Nat.pow_le_pow_right (by decide) this
    have h24 : (256 : Int) ^ 3 = 16777216 := by decide
    refine ⟨rfl, i + 1, ?_, ⟨by omega, hS⟩, by omega⟩
    have hc := bs[i].toNat_lt
    have ev : bOr .u32 (bShl .u32 (numF 0 (bs.take i)) 8) (IntKind.u32.wrap (bs[i].toNat : Int)) = numF 0 (bs.take i) * 256 + (bs[i].toNat : Int) := by
      rw [wrap_u32 (by omega) (by omega)]
      exact orv hbd.1 (by omega) hc
    rw [wi hlt (by omega), hstep, ← ev]
    rfl
  · have hge : i = bs.length := by simp at hb; omega
    subst hge
    repeat ((conv => whnf); first | (refine nw_f hS ?_; intro b w1 hS) | (refine ld_f hS 0 rfl rfl ?_) | (refine ldA_f hS 0 rfl rfl ?_) | (refine stN_f hS 0 rfl (Nat.le_of_ble_eq_true rfl) rfl rfl ?_; (conv => whnf); intro w1 hS) | (refine stM_f hS 0 rfl (Nat.le_of_ble_eq_true rfl) rfl ?_; (conv => whnf); intro w1 hS))
    rw [List.take_length]
    exact ⟨rfl, by simpa using hS.fr (List.Sublist.refl _)⟩
end Go.RV

/- Contracts of functions of chapter 1: the reader's methods. Conditions: none. -/
set_option maxRecDepth 20000
set_option linter.unusedVariables false
set_option linter.unusedSimpArgs false
namespace Go.RV
open Go Go.Proofs

theorem streq_strY (a b : List UInt8) : streq (strY a) (strY b) = decide (a = b) := by
  unfold streq
  rw [ByteArray.toList_eq, ByteArray.toList_eq]
  show ((⟨a.toArray⟩ : ByteArray).data.toList == (⟨b.toArray⟩ : ByteArray).data.toList) = _
  rw [Bool.eq_iff_iff]
  simp
theorem r8_c (b : Nat) (s : RS) (w : World) (hS : St [b] w w [(b, rdO s)]) :
    Fc Tryz.prog 70 [.pointer (some ⟨b, 0, none⟩)] w fun v w' => v = .int .u8 (IntKind.u8.wrap (numF 0 (fixedR s 1).1)) ∧ St [b] w w' [(b, rdO (fixedR s 1).2)] := by
  refine fc_i TB_ok Tryz.func70 rfl (by kernel_rfl) ?_
  have hS : Sf [b] w w ([(b, rdO s)] ++ []) [] := ⟨hS⟩
  repeat ((conv => whnf); first | (refine nw_f hS ?_; intro b w1 hS) | (refine ld_f hS 0 rfl rfl ?_) | (refine ldA_f hS 0 rfl rfl ?_) | (refine stN_f hS 0 rfl (Nat.le_of_ble_eq_true rfl) rfl rfl ?_; (conv => whnf); intro w1 hS) | (refine stM_f hS 0 rfl (Nat.le_of_ble_eq_true rfl) rfl ?_; (conv => whnf); intro w1 hS))
  refine fc_m (get8_c b s 1 (by decide) _ hS.ownF) ?_
  rintro v w1 ⟨rfl, hS'⟩
  replace hS := hS.callW hS'
  repeat ((conv => whnf); first | (refine nw_f hS ?_; intro b w1 hS) | (refine ld_f hS 0 rfl rfl ?_) | (refine ldA_f hS 0 rfl rfl ?_) | (refine stN_f hS 0 rfl (Nat.le_of_ble_eq_true rfl) rfl rfl ?_; (conv => whnf); intro w1 hS) | (refine stM_f hS 0 rfl (Nat.le_of_ble_eq_true rfl) rfl ?_; (conv => whnf); intro w1 hS))
  exact ⟨rfl, by simpa using hS.fr (List.Sublist.refl _)⟩
theorem r16_c (b : Nat) (s : RS) (w : World) (hS : St [b] w w [(b, rdO s)]) :
    Fc Tryz.prog 73 [.pointer (some ⟨b, 0, none⟩)] w fun v w' => v = .int .u16 (IntKind.u16.wrap (numF 0 (fixedR s 2).1)) ∧ St [b] w w' [(b, rdO (fixedR s 2).2)] := by
  refine fc_i TB_ok Tryz.func73 rfl (by kernel_rfl) ?_
  have hS : Sf [b] w w ([(b, rdO s)] ++ []) [] := ⟨hS⟩
  repeat ((conv => whnf); first | (refine nw_f hS ?_; intro b w1 hS) | (refine ld_f hS 0 rfl rfl ?_) | (refine ldA_f hS 0 rfl rfl ?_) | (refine stN_f hS 0 rfl (Nat.le_of_ble_eq_true rfl) rfl rfl ?_; (conv => whnf); intro w1 hS) | (refine stM_f hS 0 rfl (Nat.le_of_ble_eq_true rfl) rfl ?_; (conv => whnf); intro w1 hS))
  refine fc_m (get16_c b s 2 (by decide) _ hS.ownF) ?_
  rintro v w1 ⟨rfl, hS'⟩
  replace hS := hS.callW hS'
  repeat ((conv => whnf); first | (refine nw_f hS ?_; intro b w1 hS) | (refine ld_f hS 0 rfl rfl ?_) | (refine ldA_f hS 0 rfl rfl ?_) | (refine stN_f hS 0 rfl (Nat.le_of_ble_eq_true rfl) rfl rfl ?_; (conv => whnf); intro w1 hS) | (refine stM_f hS 0 rfl (Nat.le_of_ble_eq_true rfl) rfl ?_; (conv => whnf); intro w1 hS))
  exact ⟨rfl, by simpa using hS.fr (List.Sublist.refl _)⟩
def endR (s : RS) : Int := if s.e ≠ 0 then s.e else if s.rest ≠ [] then 4 else 0
end Go.RV

/- Contracts of functions of chapter 1: a var number that is read. Conditions: none. -/
set_option maxRecDepth 20000
set_option linter.unusedVariables false
set_option linter.unusedSimpArgs false
namespace Go.RV
open Go Go.Proofs

def varRF : Nat → Nat → Int → RS → Int × RS
  | 0, _, _, s => (0, s)
  | f+1, k, n, s => if s.e ≠ 0 then (0, s) else match s.rest with
    | [] => (0, ⟨[], 10⟩)
    | c :: t => if (k = 4 ∧ 15 < c.toNat) ∨ (0 < k ∧ c.toNat = 0) then (0, ⟨[], 4⟩) else
      if c.toNat < 128 then (n + (c.toNat % 128 : Nat) * 2 ^ (7 * k), ⟨t, 0⟩) else varRF f (k+1) (n + (c.toNat % 128 : Nat) * 2 ^ (7 * k)) ⟨t, 0⟩
def varR (s : RS) : Int × RS := varRF 5 0 0 s

theorem fixedR_one_nil {s : RS} (h : s.e = 0) (hr : s.rest = []) : fixedR s 1 = ([], ⟨[], 10⟩) := by
  rw [fixedR, if_neg (by simp [h]), if_pos (by simp [hr])]
theorem fixedR_one_cons {s : RS} {c : UInt8} {t : List UInt8} (h : s.e = 0) (hr : s.rest = c :: t) : fixedR s 1 = ([c], ⟨t, 0⟩) := by
  rw [fixedR, if_neg (by simp [h]), if_neg (by simp [hr]; omega)]
  simp [hr, h]
theorem numF_one (c : UInt8) : IntKind.u8.wrap (numF 0 [c]) = (c.toNat : Int) := by
  have hc := c.toNat_lt
  simp only [numF, List.foldl_cons, List.foldl_nil]
  rw [wrap_u8 (by omega) (by omega)]
  omega
theorem orShift {n : Int} {x k : Nat} (h0 : 0 ≤ n) (h1 : n < 2 ^ (7 * k)) (hk : k ≤ 4) (hx : x < 128) (hx4 : k = 4 → x < 16) : bOr .u32 n (bShl .u32 (x : Int) ((7 * k : Nat) : Int)) = n + (x : Int) * 2 ^ (7 * k) := by
  obtain ⟨m, rfl⟩ := Int.eq_ofNat_of_zero_le h0
  have hm : m < 2 ^ (7 * k) := by exact_mod_cast h1
  have hb : IntKind.u32.bits = 32 := rfl
  have hlt : x * 2 ^ (7 * k) + m < 4294967296 := by
    have hk5 : k = 0 ∨ k = 1 ∨ k = 2 ∨ k = 3 ∨ k = 4 := by omega
    rcases hk5 with rfl | rfl | rfl | rfl | rfl <;> simp at hm ⊢ <;> first | omega | (have := hx4 rfl; omega)
  have e8 : bShl .u32 (x : Int) ((7 * k : Nat) : Int) = ((x * 2 ^ (7 * k) : Nat) : Int) := by
    unfold bShl
    rw [hb, Int.toNat_natCast, Nat.min_eq_left (by omega)]
    have : ((x : Int) * 2 ^ (7 * k)) = ((x * 2 ^ (7 * k) : Nat) : Int) := by simp
    rw [this, wrap_u32 (by omega) (by omega)]
  rw [e8]
  unfold bOr
  rw [hb]
  have e1 : BitVec.ofInt 32 ((m : Nat) : Int) = BitVec.ofNat 32 m := BitVec.ofInt_natCast 32 _
  have e2 : BitVec.ofInt 32 ((x * 2 ^ (7 * k) : Nat) : Int) = BitVec.ofNat 32 (x * 2 ^ (7 * k)) := BitVec.ofInt_natCast 32 _
  rw [e1, e2, BitVec.toNat_or, BitVec.toNat_ofNat, BitVec.toNat_ofNat, Nat.mod_eq_of_lt (by omega), Nat.mod_eq_of_lt (by omega)]
  have e3 : m ||| x * 2 ^ (7 * k) = x * 2 ^ (7 * k) + m := by
    rw [Nat.or_comm, ← Nat.shiftLeft_eq]
    exact (Nat.shiftLeft_add_eq_or_of_lt hm x).symm
  rw [e3, wrap_u32 (by omega) (by omega)]
  simp
  omega

end Go.RV

/- Contracts of functions of chapter 1: a text that is read, and the document's reader. Conditions: none. -/
set_option maxRecDepth 20000
set_option linter.unusedVariables false
set_option linter.unusedSimpArgs false
namespace Go.RV
open Go Go.Proofs

theorem varRF_bound : ∀ (f k : Nat) (n : Int) (s : RS), f + k = 5 → 0 ≤ n → n < 2 ^ (7 * k) → 0 ≤ (varRF f k n s).1 ∧ (varRF f k n s).1 ≤ 4294967295
  | 0, _, _, _, _, _, _ => by simp [varRF]
  | f+1, k, n, s, hk, h0, h1 => by
    rw [varRF]
    split
    · simp
    · split
      · simp
      · rename_i c t hr
        split
        · simp
        · rename_i hB
          have hc := c.toNat_lt
          have hlt : n + (c.toNat % 128 : Nat) * 2 ^ (7 * k) ≤ 4294967295 ∧ (k ≤ 3 → n + (c.toNat % 128 : Nat) * 2 ^ (7 * k) < 2 ^ (7 * (k + 1))) := by
            have hk5 : k = 0 ∨ k = 1 ∨ k = 2 ∨ k = 3 ∨ k = 4 := by omega
            rcases hk5 with rfl | rfl | rfl | rfl | rfl <;> simp at h1 hB ⊢ <;> omega
          have h0' : 0 ≤ n + (c.toNat % 128 : Nat) * 2 ^ (7 * k) := Int.add_nonneg h0 (Int.mul_nonneg (Int.natCast_nonneg _) (Int.pow_nonneg (by decide)))
          split
          · exact ⟨h0', hlt.1⟩
          · by_cases hk3 : k ≤ 3
            · exact varRF_bound f (k + 1) _ _ (by omega) h0' (hlt.2 hk3)
            · obtain rfl : f = 0 := by omega
              simp [varRF]
theorem varR_bound (s : RS) : 0 ≤ (varR s).1 ∧ (varR s).1 ≤ 4294967295 := varRF_bound 5 0 0 s rfl (by decide) (by decide)
def textR (s : RS) : List UInt8 × RS := fixedR (varR s).2 (varR s).1
/-- the document's reader: of this text, in this state -/
def qdO (S : List UInt8) (a : Nat) (e : Int) : Obj := .cells #[.string (strY S), .int .i64 a, .int .i64 e] 83 (0, 0)
structure QR (b : Nat) (S : List UInt8) (s : RS) (L : LM) : Prop where
  out : ∃ a : Nat, L = [(b, qdO S a s.e)] ∧ a ≤ S.length ∧ (s.e = 0 → s.rest = S.drop a) ∧ (s.e ≠ 0 → s.rest = [])
theorem qfixed_c (b : Nat) (S : List UInt8) (s : RS) (L : LM) (hQ : QR b S s L) (hs : S.length ≤ 4611686018427387904) (n : Int) (w : World) (hS : St (keys L) w w L) :
    Fc Tryz.prog 75 [.pointer (some ⟨b, 0, none⟩), .int .i64 n] w fun v w' => v = .string (strY (fixedR s n).1) ∧ ∃ L', QR b S (fixedR s n).2 L' ∧ St (keys L) w w' L' := by
  refine fc_i TB_ok Tryz.func75 rfl (by kernel_rfl) ?_
  obtain ⟨a, rfl, ha, hr0, hr1⟩ := hQ.out
  have hS : Sf (keys [(b, qdO S a s.e)]) w w [] [(b, .cells #[.string (strY S), .int .i64 a, .int .i64 s.e] 83 (0, 0))] := ⟨hS⟩
  have hsz := strY_size S
  have ed : IntKind.i64.wrap (((strY S).size : Int) - (a : Int)) = ((S.length - a : Nat) : Int) := by rw [hsz, wrap_i64 (by omega) (by omega)]; omega
  by_cases hc : s.e ≠ 0 ∨ n ≤ 0
  · rw [fixedR, if_pos hc]
    repeat' ((conv => whnf); first | (refine nw_f hS ?_; intro b w1 hS) | (refine ld_f hS 0 rfl rfl ?_) | (refine ldA_f hS 0 rfl rfl ?_) | (refine stN_f hS 0 rfl (Nat.le_of_ble_eq_true rfl) rfl rfl ?_; (conv => whnf); intro w1 hS) | (refine stM_f hS 0 rfl (Nat.le_of_ble_eq_true rfl) rfl ?_; (conv => whnf); intro w1 hS) | (refine br_i (fun _ => ?_) (fun _ => ?_)))
    all_goals first
      | exact ⟨rfl, _, hQ, hS.st⟩
      | (exfalso; simp at *; omega)
  · have he : s.e = 0 := by omega
    have hn : 0 < n := by omega
    have hrl : s.rest.length = S.length - a := by rw [hr0 he]; simp
    repeat ((conv => whnf); first | (refine nw_f hS ?_; intro b w1 hS) | (refine ld_f hS 0 rfl rfl ?_) | (refine ldA_f hS 0 rfl rfl ?_) | (refine stN_f hS 0 rfl (Nat.le_of_ble_eq_true rfl) rfl rfl ?_; (conv => whnf); intro w1 hS) | (refine stM_f hS 0 rfl (Nat.le_of_ble_eq_true rfl) rfl ?_; (conv => whnf); intro w1 hS))
    refine br_f (by simp [he]) ?_
    repeat ((conv => whnf); first | (refine nw_f hS ?_; intro b w1 hS) | (refine ld_f hS 0 rfl rfl ?_) | (refine ldA_f hS 0 rfl rfl ?_) | (refine stN_f hS 0 rfl (Nat.le_of_ble_eq_true rfl) rfl rfl ?_; (conv => whnf); intro w1 hS) | (refine stM_f hS 0 rfl (Nat.le_of_ble_eq_true rfl) rfl ?_; (conv => whnf); intro w1 hS))
    refine br_f (by simpa using hn) ?_
    repeat ((conv => whnf); first | (apply q_i; focus (intro w1 hS; (conv => whnf); first | exact ⟨rfl, rfl⟩ | ((refine ld_f hS 0 rfl rfl ?_); (conv => whnf); exact ⟨rfl, rfl⟩) | ((refine ldA_f hS 0 rfl rfl ?_); (conv => whnf); exact ⟨rfl, rfl⟩))) | (refine nw_f hS ?_; intro b w1 hS) | (refine as_i hS ?_) | (refine as_i (hS.subs (List.nil_sublist _) (by repeat (first | exact List.Sublist.refl _ | apply List.Sublist.cons_cons | apply List.Sublist.cons))) ?_) | (refine as_i (hS.subs (List.Sublist.refl _) (by repeat (first | exact List.Sublist.refl _ | apply List.Sublist.cons_cons | apply List.Sublist.cons))) ?_) | (refine bar_f hS ?_) | (refine ld_f hS 0 rfl rfl ?_) | (refine ldA_f hS 0 rfl rfl ?_) | (refine stN_f hS 0 rfl (Nat.le_of_ble_eq_true rfl) rfl rfl ?_; (conv => whnf); intro w1 hS) | (refine stM_f hS 0 rfl (Nat.le_of_ble_eq_true rfl) rfl ?_; (conv => whnf); intro w1 hS) | (refine drawf TB_ok rfl (by kernel_rfl) (by kernel_rfl) hS (List.Sublist.refl _) (List.Sublist.refl _) ?_; intro w1 hS) | (refine br_t (by assumption) ?_) | (refine br_f (by assumption) ?_))
    refine br_i (fun h2 => ?_) (fun h2 => ?_)
    · have h2' : (s.rest.length : Int) < n := by have := of_decide_eq_true h2; omega
      rw [fixedR, if_neg hc, if_pos h2']
      repeat ((conv => whnf); first | (apply q_i; focus (intro w1 hS; (conv => whnf); first | exact ⟨rfl, rfl⟩ | ((refine ld_f hS 0 rfl rfl ?_); (conv => whnf); exact ⟨rfl, rfl⟩) | ((refine ldA_f hS 0 rfl rfl ?_); (conv => whnf); exact ⟨rfl, rfl⟩))) | (refine nw_f hS ?_; intro b w1 hS) | (refine as_i hS ?_) | (refine as_i (hS.subs (List.nil_sublist _) (by repeat (first | exact List.Sublist.refl _ | apply List.Sublist.cons_cons | apply List.Sublist.cons))) ?_) | (refine as_i (hS.subs (List.Sublist.refl _) (by repeat (first | exact List.Sublist.refl _ | apply List.Sublist.cons_cons | apply List.Sublist.cons))) ?_) | (refine bar_f hS ?_) | (refine ld_f hS 0 rfl rfl ?_) | (refine ldA_f hS 0 rfl rfl ?_) | (refine stN_f hS 0 rfl (Nat.le_of_ble_eq_true rfl) rfl rfl ?_; (conv => whnf); intro w1 hS) | (refine stM_f hS 0 rfl (Nat.le_of_ble_eq_true rfl) rfl ?_; (conv => whnf); intro w1 hS) | (refine drawf TB_ok rfl (by kernel_rfl) (by kernel_rfl) hS (List.Sublist.refl _) (List.Sublist.refl _) ?_; intro w1 hS) | (refine br_t (by assumption) ?_) | (refine br_f (by assumption) ?_))
      exact ⟨rfl, _, ⟨a, rfl, ha, fun h => absurd h (by decide), fun _ => rfl⟩, hS.st⟩
    · have h2' : ¬ (s.rest.length : Int) < n := by have := of_decide_eq_false h2; omega
      rw [fixedR, if_neg hc, if_neg h2']
      have ea : IntKind.i64.wrap ((a : Int) + n) = ((a + n.toNat : Nat) : Int) := by rw [wrap_i64 (by omega) (by omega)]; omega
      have eb : IntKind.i64.wrap (IntKind.i64.wrap ((a : Int) + n) - n) = (a : Int) := by rw [ea, wrap_i64 (by omega) (by omega)]; omega
      have e3 : (strY S).extract (IntKind.i64.wrap (IntKind.i64.wrap ((a : Int) + n) - n)).toNat (IntKind.i64.wrap ((a : Int) + n)).toNat = strY (s.rest.take n.toNat) := by
        rw [eb, ea, strY_extract, hr0 he, List.drop_take]
        simp only [Int.toNat_natCast]
        rw [show a + n.toNat - a = n.toNat from by omega]
      repeat ((conv => whnf); first | (apply q_i; focus (intro w1 hS; (conv => whnf); first | exact ⟨rfl, rfl⟩ | ((refine ld_f hS 0 rfl rfl ?_); (conv => whnf); exact ⟨rfl, rfl⟩) | ((refine ldA_f hS 0 rfl rfl ?_); (conv => whnf); exact ⟨rfl, rfl⟩) | ((refine .mk ⟨by rw [ea]; omega, by rw [ea]; omega⟩ ?_; (conv => whnf); refine .mk ⟨by rw [eb]; omega, by rw [eb, ea]; omega⟩ ?_); (conv => whnf); exact ⟨rfl, rfl⟩))) | (refine nw_f hS ?_; intro b w1 hS) | (refine as_i hS ?_) | (refine as_i (hS.subs (List.nil_sublist _) (by repeat (first | exact List.Sublist.refl _ | apply List.Sublist.cons_cons | apply List.Sublist.cons))) ?_) | (refine as_i (hS.subs (List.Sublist.refl _) (by repeat (first | exact List.Sublist.refl _ | apply List.Sublist.cons_cons | apply List.Sublist.cons))) ?_) | (refine bar_f hS ?_) | (refine ld_f hS 0 rfl rfl ?_) | (refine ldA_f hS 0 rfl rfl ?_) | (refine stN_f hS 0 rfl (Nat.le_of_ble_eq_true rfl) rfl rfl ?_; (conv => whnf); intro w1 hS) | (refine stM_f hS 0 rfl (Nat.le_of_ble_eq_true rfl) rfl ?_; (conv => whnf); intro w1 hS) | (refine .mk ⟨by rw [ea]; omega, by rw [ea]; omega⟩ ?_; (conv => whnf); refine .mk ⟨by rw [eb]; omega, by rw [eb, ea]; omega⟩ ?_) | (refine drawf TB_ok rfl (by kernel_rfl) (by kernel_rfl) hS (List.Sublist.refl _) (List.Sublist.refl _) ?_; intro w1 hS) | (refine br_t (by assumption) ?_) | (refine br_f (by assumption) ?_))
      refine ⟨congrArg Value.string e3, _, ⟨a + n.toNat, by rw [ea]; rfl, by omega, fun _ => by rw [hr0 he, List.drop_drop], fun h => absurd he h⟩, hS.st⟩

theorem byteAt_strY {l : List UInt8} {i : Nat} (h : i < l.length) : byteAt (strY l) i = (l[i].toNat : Int) := by
  unfold byteAt strY
  simp [h]
theorem qnumber_c (b : Nat) (S : List UInt8) (s : RS) (L : LM) (hQ : QR b S s L) (hs : S.length ≤ 4611686018427387904) (W : Nat) (hW : W ≤ 4) (w : World) (hS : St (keys L) w w L) :
    Fc Tryz.prog 102 [.pointer (some ⟨b, 0, none⟩), .int .i64 W] w fun v w' => v = .int .u32 (numF 0 (fixedR s W).1) ∧ ∃ L', QR b S (fixedR s W).2 L' ∧ St (keys L) w w' L' := by
  refine fc_i TB_ok Tryz.func102 rfl (by kernel_rfl) ?_
  have hS : Sf (keys L) w w (L ++ []) [] := ⟨by simpa using hS⟩
  repeat ((conv => whnf); first | (refine nw_f hS ?_; intro b w1 hS) | (refine ld_f hS 0 rfl rfl ?_) | (refine ldA_f hS 0 rfl rfl ?_) | (refine stN_f hS 0 rfl (Nat.le_of_ble_eq_true rfl) rfl rfl ?_; (conv => whnf); intro w1 hS) | (refine stM_f hS 0 rfl (Nat.le_of_ble_eq_true rfl) rfl ?_; (conv => whnf); intro w1 hS))
  refine fc_m (qfixed_c b S s L hQ hs W _ hS.ownF) ?_
  rintro v w1 ⟨rfl, L1, hQ1, hS'⟩
  replace hS := hS.callW hS'
  have hl := fixedR_len s W
  generalize (fixedR s W).1 = bs at *
  generalize (fixedR s W).2 = s2 at *
  have hsz : (strY bs).size = bs.length := strY_size bs
  repeat ((conv => whnf); first | (refine nw_f hS ?_; intro b w1 hS) | (refine ld_f hS 0 rfl rfl ?_) | (refine ldA_f hS 0 rfl rfl ?_) | (refine stN_f hS 0 rfl (Nat.le_of_ble_eq_true rfl) rfl rfl ?_; (conv => whnf); intro w1 hS) | (refine stM_f hS 0 rfl (Nat.le_of_ble_eq_true rfl) rfl ?_; (conv => whnf); intro w1 hS))
  refine loop_i TB_ok (fun i : Nat => [(7, .int .i64 i), (6, .int .u32 (numF 0 (bs.take i)))]) (fun i w' => i ≤ bs.length ∧ Sf (keys L) w w' (L1 ++ []) []) (fun i => bs.length - i) 0 rfl ⟨Nat.zero_le _, hS⟩ ?_
  rintro i us w3 ⟨hi, hS⟩
  (conv => whnf)
  refine br_i (fun hb => ?_) (fun hb => ?_)
  · have hlt : i < bs.length := by have := of_decide_eq_true hb; omega
    have hstep : numF 0 (bs.take (i+1)) = numF 0 (bs.take i) * 256 + (bs[i].toNat : Int) := by
      unfold numF
      rw [List.take_succ_eq_append_getElem hlt, List.foldl_append]
      rfl
    have hbd := numF_bound (bs.take i) 0 (by decide)
    have hpow : (256 : Int) ^ (bs.take i).length ≤ 256 ^ 3 := by
      rw [List.length_take]
      have : min i bs.length ≤ 3 := by omega
      exact_mod_cast Nat.pow_le_pow_right (by decide) this
    have h24 : (256 : Int) ^ 3 = 16777216 := by decide
    have hc := bs[i].toNat_lt
    repeat ((conv => whnf); first | (refine nw_f hS ?_; intro b w1 hS) | (refine ld_f hS 0 rfl rfl ?_) | (refine ldA_f hS 0 rfl rfl ?_) | (refine stN_f hS 0 rfl (Nat.le_of_ble_eq_true rfl) rfl rfl ?_; (conv => whnf); intro w1 hS) | (refine stM_f hS 0 rfl (Nat.le_of_ble_eq_true rfl) rfl ?_; (conv => whnf); intro w1 hS) | (refine .mk ⟨by omega, by omega⟩ ?_))
    have eB : byteAt (strY bs) (i : Int).toNat = (bs[i].toNat : Int) := byteAt_strY hlt
    refine ⟨rfl, i + 1, ?_, ⟨by omega, hS⟩, by omega⟩
    rw [wi hlt (by omega), hstep, eB, wrap_u32 (x := 256 * numF 0 (bs.take i)) (by omega) (by omega), wrap_u32 (x := (bs[i].toNat : Int)) (by omega) (by omega), wrap_u32 (by omega) (by omega), Int.mul_comm]
    rfl
  · have hge : i = bs.length := by have := of_decide_eq_false hb; omega
    subst hge
    repeat ((conv => whnf); first | (refine nw_f hS ?_; intro b w1 hS) | (refine ld_f hS 0 rfl rfl ?_) | (refine ldA_f hS 0 rfl rfl ?_) | (refine stN_f hS 0 rfl (Nat.le_of_ble_eq_true rfl) rfl rfl ?_; (conv => whnf); intro w1 hS) | (refine stM_f hS 0 rfl (Nat.le_of_ble_eq_true rfl) rfl ?_; (conv => whnf); intro w1 hS))
    rw [List.take_length]
    exact ⟨rfl, _, hQ1, by simpa using hS.fr (List.Sublist.refl _)⟩
end Go.RV

/- Contracts of functions of chapter 1: the document's reader. Conditions: none. -/
set_option maxRecDepth 20000
set_option linter.unusedVariables false
set_option linter.unusedSimpArgs false
namespace Go.RV
open Go Go.Proofs

theorem wrap_u64 {x : Int} (h0 : 0 ≤ x) (h1 : x ≤ 18446744073709551615) : IntKind.u64.wrap x = x := by
  show x.emod 18446744073709551616 = x
  exact Int.emod_eq_of_lt h0 (by omega)
theorem fixedR_err {s : RS} (h : s.e ≠ 0) (n : Int) : fixedR s n = ([], s) := by rw [fixedR, if_pos (.inl h)]
theorem accB {n : Int} {x k : Nat} (h0 : 0 ≤ n) (h1 : n < 2 ^ (7 * k)) (hk : k ≤ 3) (hx : x < 128) : 0 ≤ n + (x : Int) * 2 ^ (7 * k) ∧ n + (x : Int) * 2 ^ (7 * k) < 2 ^ (7 * (k + 1)) := by
  have hk5 : k = 0 ∨ k = 1 ∨ k = 2 ∨ k = 3 := by omega
  rcases hk5 with rfl | rfl | rfl | rfl <;> simp at h1 ⊢ <;> omega
theorem over4 {n : Int} {x k : Nat} (h0 : 0 ≤ n) (h1 : n < 2 ^ (7 * k)) (hk : k ≤ 4) (hx : x < 128) : 4294967295 < n + (x : Int) * 2 ^ (7 * k) ↔ k = 4 ∧ 15 < x := by
  have hk5 : k = 0 ∨ k = 1 ∨ k = 2 ∨ k = 3 ∨ k = 4 := by omega
  rcases hk5 with rfl | rfl | rfl | rfl | rfl <;> simp at h1 ⊢ <;> omega
theorem accW {n : Int} {x k : Nat} (h0 : 0 ≤ n) (h1 : n < 2 ^ (7 * k)) (hk : k ≤ 4) (hx : x < 128) : IntKind.u64.wrap (n + IntKind.u64.wrap ((x : Int) * 2 ^ (7 * k))) = n + (x : Int) * 2 ^ (7 * k) := by
  have hk5 : k = 0 ∨ k = 1 ∨ k = 2 ∨ k = 3 ∨ k = 4 := by omega
  have h : 0 ≤ (x : Int) * 2 ^ (7 * k) ∧ (x : Int) * 2 ^ (7 * k) ≤ 1152921504606846976 ∧ n ≤ 1152921504606846976 := by
    rcases hk5 with rfl | rfl | rfl | rfl | rfl <;> simp at h1 ⊢ <;> omega
  rw [wrap_u64 h.1 (by omega), wrap_u64 (by omega) (by omega)]

end Go.RV

/- Contracts of functions of chapter 1: few, reads, awake; CodecWrites walked. Conditions: none. -/
set_option maxRecDepth 20000
set_option linter.unusedVariables false
set_option linter.unusedSimpArgs false
namespace Go.RV
open Go Go.Proofs

theorem Wr.new (b : Nat) : Wr b [] [(b, .cells #[.slice none 0 0] 106 (0, 0))] := ⟨_, [], rfl, .nil⟩
theorem lit_eq {bs : List UInt8} (l : List UInt8) (h : bs = l) : streq (strY bs) (strY l) = true := by rw [streq_strY, h]; simp
theorem bytesK {bw : Nat} {bs : List UInt8} {L : LM} (a : ByteArray) (e : streq (strY bs) a = true) (hW : Wr bw bs L) {w : World} (hS : St (keys L) w w L) :
    Fc Tryz.prog 54 [.pointer (some ⟨bw, 0, none⟩)] w fun v w' => ∃ s, v = .string s ∧ streq s a = true ∧ St [] w w' [] :=
  Fc.mono (bytes_c bw bs L hW w hS) fun v w' h => ⟨_, h.1, e, h.2⟩

theorem itmD_len (x : Itm) (hs : x.s.length ≤ 300) : (itmD x).length ≤ 306 := by
  have h1 := varD_len x.n
  have h2 := varD_len (x.s.length : Int)
  unfold itmD
  repeat' split
  all_goals first | (rw [be_len]; omega) | omega | (simp only [textD, List.length_append]; omega)
def itmsD (l : List Itm) : List UInt8 := l.flatMap itmD
theorem itmsD_len : ∀ (l : List Itm), (∀ x ∈ l, x.s.length ≤ 300) → (itmsD l).length ≤ 306 * l.length
  | [], _ => by simp [itmsD]
  | x :: l, h => by
    have h1 := itmD_len x (h x (by simp))
    have h2 := itmsD_len l (fun y hy => h y (by simp [hy]))
    have e : itmsD (x :: l) = itmD x ++ itmsD l := by simp [itmsD]
    rw [e, List.length_append, List.length_cons]
    omega
theorem itmsD_snoc (l : List Itm) {i : Nat} (h : i < l.length) : itmsD (l.take (i + 1)) = itmsD (l.take i) ++ itmD l[i] := by
  unfold itmsD
  rw [List.take_succ_eq_append_getElem h, List.flatMap_append]
  simp

end Go.RV
