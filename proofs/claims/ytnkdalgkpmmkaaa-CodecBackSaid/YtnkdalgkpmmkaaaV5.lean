/- Contracts of functions of chapter 1: texts that are written; items. Conditions: none. -/
import Derived.Test.YtnkdalgkpmmkaaaV4
set_option maxRecDepth 20000
set_option linter.unusedVariables false
set_option linter.unusedSimpArgs false
namespace Go.RV
open Go Go.Proofs

theorem wtext_c (bw : Nat) (bs s : List UInt8) (L : LM) (hW : Wr bw bs L) (w : World) (hS : St (keys L) w w L) (hn : bs.length ≤ 35184372088832) (hs : s.length ≤ 4294967295) :
    Fc Try.prog 22 [.pointer (some ⟨bw, 0, none⟩), .string (strY s)] w fun v w' => ∃ L', Wr bw (bs ++ textD s) L' ∧ St (keys L) w w' L' := by
  refine fc_i TB_ok Try.func22 rfl (by kernel_rfl) ?_
  have hS : Sf (keys L) w w (L ++ []) [] := ⟨by simpa using hS⟩
  have e : IntKind.u32.wrap ((strY s).size : Int) = (s.length : Int) := by rw [strY_size, wrap_u32 (by omega) (by omega)]
  have hl := varD_len (IntKind.u32.wrap ((strY s).size : Int))
  (conv => whnf)
  refine fc_m (wvar_c bw bs L hW (IntKind.u32.wrap ((strY s).size : Int)) (by rw [e]; omega) (by rw [e]; omega) _ hS.ownF (by omega)) ?_
  rintro v w1 ⟨L1, hW1, hS'⟩
  replace hS := hS.callW hS'
  (conv => whnf)
  refine fc_m (raw_c bw (bs ++ varD (IntKind.u32.wrap ((strY s).size : Int))) s L1 hW1 _ hS.ownF (by rw [List.length_append]; omega)) ?_
  rintro v w2 ⟨L2, hW2, hS'⟩
  replace hS := hS.callW hS'
  (conv => whnf)
  refine ⟨L2, ?_, by simpa using hS.st⟩
  rw [e, List.append_assoc] at hW2
  exact hW2

/-- an item -/
structure Itm where
  kind : Int
  n : Int
  s : List UInt8
def itmV (x : Itm) : Value := .agg #[.int .u8 x.kind, .int .u32 x.n, .string (strY x.s)]
def encI (x : Itm) : List Value := [.int .u8 x.kind, .int .u32 x.n, .string (strY x.s)]
theorem encI_len (x : Itm) : (encI x).length = 3 := rfl
def itmOk (x : Itm) : Prop := 0 ≤ x.kind ∧ 0 ≤ x.n ∧ x.n ≤ 4294967295
def itmD (x : Itm) : List UInt8 :=
  if x.kind % 6 = 0 then be x.n 1 else if x.kind % 6 = 1 then be x.n 2 else if x.kind % 6 = 2 then be x.n 4 else if x.kind % 6 = 3 then varD x.n else if x.kind % 6 = 4 then x.s else textD x.s

theorem yI_congr {a b : Int} (h : a % 256 = b % 256) : yI a = yI b := by unfold yI; rw [h]
theorem be1w (n : Int) (h : 0 ≤ n) : be (IntKind.u8.wrap n) 1 = be n 1 := by
  rw [wrap_u8_mod]
  simp only [be, List.cons.injEq, and_true]
  exact yI_congr (by simp)
theorem be2w (n : Int) (h : 0 ≤ n) : be (IntKind.u16.wrap n) 2 = be n 2 := by
  rw [wrap_u16_mod]
  simp only [be, List.cons.injEq, and_true]
  refine ⟨yI_congr ?_, yI_congr ?_⟩
  · show n % 65536 / 256 % 256 = n / 256 % 256
    omega
  · simp

theorem put_c (bw : Nat) (bs : List UInt8) (L : LM) (hW : Wr bw bs L) (x : Itm) (hx : itmOk x) (hxs : x.s.length ≤ 300) (w : World) (hS : St (keys L) w w L) (hn : bs.length ≤ 1073741824) :
    Fc Try.prog 10 [.pointer (some ⟨bw, 0, none⟩), itmV x] w fun v w' => v = .string (strY (itmD x)) ∧ ∃ L', Wr bw (bs ++ itmD x) L' ∧ St (keys L) w w' L' := by
  refine fc_i TB_ok Try.func10 rfl (by kernel_rfl) ?_
  have hS : Sf (keys L) w w (L ++ []) [] := ⟨by simpa using hS⟩
  obtain ⟨hk, hn0, hn1⟩ := hx
  have hlv := varD_len x.n
  have htm : x.kind.tmod 6 = x.kind % 6 := Int.tmod_eq_emod_of_nonneg hk
  repeat ((conv => whnf); first | (refine nw_f hS ?_; intro b w1 hS) | (refine ld_f hS 0 rfl rfl ?_) | (refine ldA_f hS 0 rfl rfl ?_) | (refine stN_f hS 0 rfl (Nat.le_of_ble_eq_true rfl) rfl rfl ?_; (conv => whnf); intro w1 hS) | (refine stM_f hS 0 rfl (Nat.le_of_ble_eq_true rfl) rfl ?_; (conv => whnf); intro w1 hS) | (refine .mk (by decide) ?_))
  refine br_i (fun hb => ?_) (fun hb => ?_)
  · have h0 : x.kind % 6 = 0 := by rw [← htm]; simpa using hb
    repeat ((conv => whnf); first | (refine nw_f hS ?_; intro b w1 hS) | (refine ld_f hS 0 rfl rfl ?_) | (refine ldA_f hS 0 rfl rfl ?_) | (refine stN_f hS 0 rfl (Nat.le_of_ble_eq_true rfl) rfl rfl ?_; (conv => whnf); intro w1 hS) | (refine stM_f hS 0 rfl (Nat.le_of_ble_eq_true rfl) rfl ?_; (conv => whnf); intro w1 hS))
    refine fc_m (w8_c bw bs L hW (IntKind.u8.wrap x.n) (by rw [wrap_u8_mod]; omega) (by rw [wrap_u8_mod]; omega) _ hS.ownF (by omega)) ?_
    rintro v w1 ⟨L1, hW1, hS'⟩
    replace hS := hS.callW hS'
    repeat ((conv => whnf); first | (refine nw_f hS ?_; intro b w1 hS) | (refine ld_f hS 0 rfl rfl ?_) | (refine ldA_f hS 0 rfl rfl ?_) | (refine stN_f hS 0 rfl (Nat.le_of_ble_eq_true rfl) rfl rfl ?_; (conv => whnf); intro w1 hS) | (refine stM_f hS 0 rfl (Nat.le_of_ble_eq_true rfl) rfl ?_; (conv => whnf); intro w1 hS))
    refine fc_m (rfixed_c x.n hn0 hn1 1 (by decide) _) ?_
    rintro v w2 ⟨rfl, hS'⟩
    replace hS := hS.call0 hS'
    repeat ((conv => whnf); first | (refine nw_f hS ?_; intro b w1 hS) | (refine ld_f hS 0 rfl rfl ?_) | (refine ldA_f hS 0 rfl rfl ?_) | (refine stN_f hS 0 rfl (Nat.le_of_ble_eq_true rfl) rfl rfl ?_; (conv => whnf); intro w1 hS) | (refine stM_f hS 0 rfl (Nat.le_of_ble_eq_true rfl) rfl ?_; (conv => whnf); intro w1 hS))
    exact ⟨by rw [itmD, if_pos h0], L1, by rw [itmD, if_pos h0]; rw [be1w x.n hn0] at hW1; exact hW1, by simpa using hS.fr (List.Sublist.refl _)⟩
  have h0 : ¬ x.kind % 6 = 0 := by rw [← htm]; simpa using hb
  repeat ((conv => whnf); first | (refine nw_f hS ?_; intro b w1 hS) | (refine ld_f hS 0 rfl rfl ?_) | (refine ldA_f hS 0 rfl rfl ?_) | (refine stN_f hS 0 rfl (Nat.le_of_ble_eq_true rfl) rfl rfl ?_; (conv => whnf); intro w1 hS) | (refine stM_f hS 0 rfl (Nat.le_of_ble_eq_true rfl) rfl ?_; (conv => whnf); intro w1 hS))
  refine br_i (fun hb => ?_) (fun hb => ?_)
  · have h1 : x.kind % 6 = 1 := by rw [← htm]; simpa using hb
    repeat ((conv => whnf); first | (refine nw_f hS ?_; intro b w1 hS) | (refine ld_f hS 0 rfl rfl ?_) | (refine ldA_f hS 0 rfl rfl ?_) | (refine stN_f hS 0 rfl (Nat.le_of_ble_eq_true rfl) rfl rfl ?_; (conv => whnf); intro w1 hS) | (refine stM_f hS 0 rfl (Nat.le_of_ble_eq_true rfl) rfl ?_; (conv => whnf); intro w1 hS))
    refine fc_m (w16_c bw bs L hW (IntKind.u16.wrap x.n) (by rw [wrap_u16_mod]; omega) (by rw [wrap_u16_mod]; omega) _ hS.ownF (by omega)) ?_
    rintro v w1 ⟨L1, hW1, hS'⟩
    replace hS := hS.callW hS'
    repeat ((conv => whnf); first | (refine nw_f hS ?_; intro b w1 hS) | (refine ld_f hS 0 rfl rfl ?_) | (refine ldA_f hS 0 rfl rfl ?_) | (refine stN_f hS 0 rfl (Nat.le_of_ble_eq_true rfl) rfl rfl ?_; (conv => whnf); intro w1 hS) | (refine stM_f hS 0 rfl (Nat.le_of_ble_eq_true rfl) rfl ?_; (conv => whnf); intro w1 hS))
    refine fc_m (rfixed_c x.n hn0 hn1 2 (by decide) _) ?_
    rintro v w2 ⟨rfl, hS'⟩
    replace hS := hS.call0 hS'
    repeat ((conv => whnf); first | (refine nw_f hS ?_; intro b w1 hS) | (refine ld_f hS 0 rfl rfl ?_) | (refine ldA_f hS 0 rfl rfl ?_) | (refine stN_f hS 0 rfl (Nat.le_of_ble_eq_true rfl) rfl rfl ?_; (conv => whnf); intro w1 hS) | (refine stM_f hS 0 rfl (Nat.le_of_ble_eq_true rfl) rfl ?_; (conv => whnf); intro w1 hS))
    exact ⟨by rw [itmD, if_neg h0, if_pos h1], L1, by rw [itmD, if_neg h0, if_pos h1]; rw [be2w x.n hn0] at hW1; exact hW1, by simpa using hS.fr (List.Sublist.refl _)⟩
  have h1 : ¬ x.kind % 6 = 1 := by rw [← htm]; simpa using hb
  repeat ((conv => whnf); first | (refine nw_f hS ?_; intro b w1 hS) | (refine ld_f hS 0 rfl rfl ?_) | (refine ldA_f hS 0 rfl rfl ?_) | (refine stN_f hS 0 rfl (Nat.le_of_ble_eq_true rfl) rfl rfl ?_; (conv => whnf); intro w1 hS) | (refine stM_f hS 0 rfl (Nat.le_of_ble_eq_true rfl) rfl ?_; (conv => whnf); intro w1 hS))
  refine br_i (fun hb => ?_) (fun hb => ?_)
  · have h2 : x.kind % 6 = 2 := by rw [← htm]; simpa using hb
    repeat ((conv => whnf); first | (refine nw_f hS ?_; intro b w1 hS) | (refine ld_f hS 0 rfl rfl ?_) | (refine ldA_f hS 0 rfl rfl ?_) | (refine stN_f hS 0 rfl (Nat.le_of_ble_eq_true rfl) rfl rfl ?_; (conv => whnf); intro w1 hS) | (refine stM_f hS 0 rfl (Nat.le_of_ble_eq_true rfl) rfl ?_; (conv => whnf); intro w1 hS))
    refine fc_m (w32_c bw bs L hW x.n hn0 hn1 _ hS.ownF (by omega)) ?_
    rintro v w1 ⟨L1, hW1, hS'⟩
    replace hS := hS.callW hS'
    repeat ((conv => whnf); first | (refine nw_f hS ?_; intro b w1 hS) | (refine ld_f hS 0 rfl rfl ?_) | (refine ldA_f hS 0 rfl rfl ?_) | (refine stN_f hS 0 rfl (Nat.le_of_ble_eq_true rfl) rfl rfl ?_; (conv => whnf); intro w1 hS) | (refine stM_f hS 0 rfl (Nat.le_of_ble_eq_true rfl) rfl ?_; (conv => whnf); intro w1 hS))
    refine fc_m (rfixed_c x.n hn0 hn1 4 (by decide) _) ?_
    rintro v w2 ⟨rfl, hS'⟩
    replace hS := hS.call0 hS'
    repeat ((conv => whnf); first | (refine nw_f hS ?_; intro b w1 hS) | (refine ld_f hS 0 rfl rfl ?_) | (refine ldA_f hS 0 rfl rfl ?_) | (refine stN_f hS 0 rfl (Nat.le_of_ble_eq_true rfl) rfl rfl ?_; (conv => whnf); intro w1 hS) | (refine stM_f hS 0 rfl (Nat.le_of_ble_eq_true rfl) rfl ?_; (conv => whnf); intro w1 hS))
    exact ⟨by rw [itmD, if_neg h0, if_neg h1, if_pos h2], L1, by rw [itmD, if_neg h0, if_neg h1, if_pos h2]; exact hW1, by simpa using hS.fr (List.Sublist.refl _)⟩
  have h2 : ¬ x.kind % 6 = 2 := by rw [← htm]; simpa using hb
  repeat ((conv => whnf); first | (refine nw_f hS ?_; intro b w1 hS) | (refine ld_f hS 0 rfl rfl ?_) | (refine ldA_f hS 0 rfl rfl ?_) | (refine stN_f hS 0 rfl (Nat.le_of_ble_eq_true rfl) rfl rfl ?_; (conv => whnf); intro w1 hS) | (refine stM_f hS 0 rfl (Nat.le_of_ble_eq_true rfl) rfl ?_; (conv => whnf); intro w1 hS))
  refine br_i (fun hb => ?_) (fun hb => ?_)
  · have h3 : x.kind % 6 = 3 := by rw [← htm]; simpa using hb
    repeat ((conv => whnf); first | (refine nw_f hS ?_; intro b w1 hS) | (refine ld_f hS 0 rfl rfl ?_) | (refine ldA_f hS 0 rfl rfl ?_) | (refine stN_f hS 0 rfl (Nat.le_of_ble_eq_true rfl) rfl rfl ?_; (conv => whnf); intro w1 hS) | (refine stM_f hS 0 rfl (Nat.le_of_ble_eq_true rfl) rfl ?_; (conv => whnf); intro w1 hS))
    refine fc_m (wvar_c bw bs L hW x.n hn0 hn1 _ hS.ownF (by omega)) ?_
    rintro v w1 ⟨L1, hW1, hS'⟩
    replace hS := hS.callW hS'
    repeat ((conv => whnf); first | (refine nw_f hS ?_; intro b w1 hS) | (refine ld_f hS 0 rfl rfl ?_) | (refine ldA_f hS 0 rfl rfl ?_) | (refine stN_f hS 0 rfl (Nat.le_of_ble_eq_true rfl) rfl rfl ?_; (conv => whnf); intro w1 hS) | (refine stM_f hS 0 rfl (Nat.le_of_ble_eq_true rfl) rfl ?_; (conv => whnf); intro w1 hS))
    refine fc_m (rvar_c x.n hn0 hn1 _) ?_
    rintro v w2 ⟨rfl, hS'⟩
    replace hS := hS.call0 hS'
    repeat ((conv => whnf); first | (refine nw_f hS ?_; intro b w1 hS) | (refine ld_f hS 0 rfl rfl ?_) | (refine ldA_f hS 0 rfl rfl ?_) | (refine stN_f hS 0 rfl (Nat.le_of_ble_eq_true rfl) rfl rfl ?_; (conv => whnf); intro w1 hS) | (refine stM_f hS 0 rfl (Nat.le_of_ble_eq_true rfl) rfl ?_; (conv => whnf); intro w1 hS))
    exact ⟨by rw [itmD, if_neg h0, if_neg h1, if_neg h2, if_pos h3], L1, by rw [itmD, if_neg h0, if_neg h1, if_neg h2, if_pos h3]; exact hW1, by simpa using hS.fr (List.Sublist.refl _)⟩
  have h3 : ¬ x.kind % 6 = 3 := by rw [← htm]; simpa using hb
  repeat ((conv => whnf); first | (refine nw_f hS ?_; intro b w1 hS) | (refine ld_f hS 0 rfl rfl ?_) | (refine ldA_f hS 0 rfl rfl ?_) | (refine stN_f hS 0 rfl (Nat.le_of_ble_eq_true rfl) rfl rfl ?_; (conv => whnf); intro w1 hS) | (refine stM_f hS 0 rfl (Nat.le_of_ble_eq_true rfl) rfl ?_; (conv => whnf); intro w1 hS))
  refine br_i (fun hb => ?_) (fun hb => ?_)
  · have h4 : x.kind % 6 = 4 := by rw [← htm]; simpa using hb
    repeat ((conv => whnf); first | (refine nw_f hS ?_; intro b w1 hS) | (refine ld_f hS 0 rfl rfl ?_) | (refine ldA_f hS 0 rfl rfl ?_) | (refine stN_f hS 0 rfl (Nat.le_of_ble_eq_true rfl) rfl rfl ?_; (conv => whnf); intro w1 hS) | (refine stM_f hS 0 rfl (Nat.le_of_ble_eq_true rfl) rfl ?_; (conv => whnf); intro w1 hS))
    refine fc_m (raw_c bw bs x.s L hW _ hS.ownF (by omega)) ?_
    rintro v w1 ⟨L1, hW1, hS'⟩
    replace hS := hS.callW hS'
    repeat ((conv => whnf); first | (refine nw_f hS ?_; intro b w1 hS) | (refine ld_f hS 0 rfl rfl ?_) | (refine ldA_f hS 0 rfl rfl ?_) | (refine stN_f hS 0 rfl (Nat.le_of_ble_eq_true rfl) rfl rfl ?_; (conv => whnf); intro w1 hS) | (refine stM_f hS 0 rfl (Nat.le_of_ble_eq_true rfl) rfl ?_; (conv => whnf); intro w1 hS))
    exact ⟨by rw [itmD, if_neg h0, if_neg h1, if_neg h2, if_neg h3, if_pos h4], L1, by rw [itmD, if_neg h0, if_neg h1, if_neg h2, if_neg h3, if_pos h4]; exact hW1, by simpa using hS.fr (List.Sublist.refl _)⟩
  have h4 : ¬ x.kind % 6 = 4 := by rw [← htm]; simpa using hb
  repeat ((conv => whnf); first | (refine nw_f hS ?_; intro b w1 hS) | (refine ld_f hS 0 rfl rfl ?_) | (refine ldA_f hS 0 rfl rfl ?_) | (refine stN_f hS 0 rfl (Nat.le_of_ble_eq_true rfl) rfl rfl ?_; (conv => whnf); intro w1 hS) | (refine stM_f hS 0 rfl (Nat.le_of_ble_eq_true rfl) rfl ?_; (conv => whnf); intro w1 hS))
  refine fc_m (wtext_c bw bs x.s L hW _ hS.ownF (by omega) (by omega)) ?_
  rintro v w1 ⟨L1, hW1, hS'⟩
  replace hS := hS.callW hS'
  repeat ((conv => whnf); first | (refine nw_f hS ?_; intro b w1 hS) | (refine ld_f hS 0 rfl rfl ?_) | (refine ldA_f hS 0 rfl rfl ?_) | (refine stN_f hS 0 rfl (Nat.le_of_ble_eq_true rfl) rfl rfl ?_; (conv => whnf); intro w1 hS) | (refine stM_f hS 0 rfl (Nat.le_of_ble_eq_true rfl) rfl ?_; (conv => whnf); intro w1 hS))
  refine fc_m (rtext_c x.s (by omega) _) ?_
  rintro v w2 ⟨rfl, hS'⟩
  replace hS := hS.call0 hS'
  repeat ((conv => whnf); first | (refine nw_f hS ?_; intro b w1 hS) | (refine ld_f hS 0 rfl rfl ?_) | (refine ldA_f hS 0 rfl rfl ?_) | (refine stN_f hS 0 rfl (Nat.le_of_ble_eq_true rfl) rfl rfl ?_; (conv => whnf); intro w1 hS) | (refine stM_f hS 0 rfl (Nat.le_of_ble_eq_true rfl) rfl ?_; (conv => whnf); intro w1 hS))
  exact ⟨by rw [itmD, if_neg h0, if_neg h1, if_neg h2, if_neg h3, if_neg h4], L1, by rw [itmD, if_neg h0, if_neg h1, if_neg h2, if_neg h3, if_neg h4]; exact hW1, by simpa using hS.fr (List.Sublist.refl _)⟩
end Go.RV
