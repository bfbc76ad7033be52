/- Contracts of functions of chapter 28: contexts that are written; what may be. Conditions: none. -/
import Derived.Test.YtnhlpmnehdackaaMa4
set_option maxRecDepth 20000
set_option linter.unusedVariables false
set_option linter.unusedSimpArgs false
namespace Go.RV
open Go Go.Proofs Go.RowKit

theorem idxV {P : Program} {T : Tab} (hT : TabOk P T) {t e : TypeId} (hu : P.underlying t = some (.array 8 e)) (he : P.underlying e = some (.int .u32)) (hs : tsz T e = some 1) {f : Nat → Int} {i : Nat} (hi : i < 8) {w : World} {K : Value → World → Prop} (k : K (.int .u32 (f i)) w) :
    SemN P (Instr.index t (.agg (vecF f).toArray) (.int .i64 (i : Int))) w K := by
  refine ⟨SemW.of_run (a := .int .u32 (f i)) (w' := w) ?_ k⟩
  unfold Instr.index
  have hp : (part e (vecF f).toArray (i * 1)).run P w = .ok (.int .u32 (f i)) w := part_plain ⟨_, he, by simp, by simp⟩ (by simpa using vget (f := f) hi (by omega))
  have hlt : 0 ≤ (i : Int) ∧ (i : Int) < ((8 : Nat) : Int) := by omega
  simp only [Sem.run_bind, asIntOf, Sem.run_pure, Result.andThen_ok, run_underlying hu, if_pos hlt, run_sizeOf_ok hT hs, Int.toNat_natCast, hp]
theorem idxVec {f : Nat → Int} {i : Nat} (hi : i < 8) {w : World} {K : Value → World → Prop} (k : K (.int .u32 (f i)) w) :
    SemN Try.prog (Instr.index 24 (.agg (vecF f).toArray) (.int .i64 (i : Int))) w K := idxV TB_ok Try.underlying24 Try.underlying22 rfl hi k
theorem num2_len (f : Nat → Int) : ∀ k, (num2 f k).length ≤ 2 * k
  | 0 => Nat.le_refl _
  | k+1 => by
    have := num2_len f k
    unfold num2
    split
    · rw [List.length_append, be_len]; omega
    · omega
theorem mput_c (bw : Nat) (bs : List UInt8) (L : LM) (hW : Wr bw bs L) (f : Nat → Int) (hf : ∀ j, j < 8 → 0 ≤ f j ∧ f j ≤ 65535) (w : World) (hS : St (keys L) w w L) (hn : bs.length ≤ 1073741824) :
    Fc Try.prog 32 [.pointer (some ⟨bw, 0, none⟩), vecV f] w fun v w' => ∃ L', Wr bw (bs ++ ctxT f) L' ∧ St (keys L) w w' L' := by
  refine fc_i TB_ok Try.func32 rfl (by kernel_rfl) ?_
  have hS : Sf (keys L) w w (L ++ []) [] := ⟨by simpa using hS⟩
  repeat ((conv => whnf); first | (apply q_i; focus (intro w1 hS; (conv => whnf); first | exact ⟨rfl, rfl⟩ | ((refine ld_f hS 0 rfl rfl ?_); (conv => whnf); exact ⟨rfl, rfl⟩) | ((refine ldA_f hS 0 rfl rfl ?_); (conv => whnf); exact ⟨rfl, rfl⟩))) | (refine nw_f hS ?_; intro b w1 hS) | (refine as_i hS ?_) | (refine as_i (hS.subs (List.nil_sublist _) (by repeat (first | exact List.Sublist.refl _ | apply List.Sublist.cons_cons | apply List.Sublist.cons))) ?_) | (refine as_i (hS.subs (List.Sublist.refl _) (by repeat (first | exact List.Sublist.refl _ | apply List.Sublist.cons_cons | apply List.Sublist.cons))) ?_) | (refine bar_f hS ?_) | (refine ld_f hS 0 rfl rfl ?_) | (refine ldA_f hS 0 rfl rfl ?_) | (refine stN_f hS 0 rfl (Nat.le_of_ble_eq_true rfl) rfl rfl ?_; (conv => whnf); intro w1 hS) | (refine stM_f hS 0 rfl (Nat.le_of_ble_eq_true rfl) rfl ?_; (conv => whnf); intro w1 hS) | (refine drawf TB_ok rfl (by kernel_rfl) (by kernel_rfl) hS (List.Sublist.refl _) (List.Sublist.refl _) ?_; intro w1 hS) | (refine br_t (by assumption) ?_) | (refine br_f (by assumption) ?_))
  refine loop_i TB_ok (fun i : Nat => [(10, .int .i64 i), (4, .int .u8 (bitsN f i))]) (fun i w' => i ≤ 8 ∧ Sf (keys L) w w' (L ++ []) [_]) (fun i => 8 - i) 0 rfl ⟨Nat.zero_le _, hS⟩ ?_
  rintro i us w2 ⟨hi, hS⟩
  (conv => whnf)
  refine br_i (fun hb => ?_) (fun hb => ?_)
  · have hlt : i < 8 := by have := of_decide_eq_true hb; omega
    have hfi := hf i hlt
    have hbl := bitsN_lt f i
    repeat ((conv => whnf); first | (apply q_i; focus (intro w1 hS; (conv => whnf); first | exact ⟨rfl, rfl⟩ | ((refine ld_f hS 0 rfl rfl ?_); (conv => whnf); exact ⟨rfl, rfl⟩) | ((refine ldA_f hS 0 rfl rfl ?_); (conv => whnf); exact ⟨rfl, rfl⟩) | ((refine idxVec (f := f) hlt ?_); (conv => whnf); exact ⟨rfl, rfl⟩))) | (refine nw_f hS ?_; intro b w1 hS) | (refine as_i hS ?_) | (refine as_i (hS.subs (List.nil_sublist _) (by repeat (first | exact List.Sublist.refl _ | apply List.Sublist.cons_cons | apply List.Sublist.cons))) ?_) | (refine as_i (hS.subs (List.Sublist.refl _) (by repeat (first | exact List.Sublist.refl _ | apply List.Sublist.cons_cons | apply List.Sublist.cons))) ?_) | (refine bar_f hS ?_) | (refine ld_f hS 0 rfl rfl ?_) | (refine ldA_f hS 0 rfl rfl ?_) | (refine stN_f hS 0 rfl (Nat.le_of_ble_eq_true rfl) rfl rfl ?_; (conv => whnf); intro w1 hS) | (refine stM_f hS 0 rfl (Nat.le_of_ble_eq_true rfl) rfl ?_; (conv => whnf); intro w1 hS) | (refine idxVec (f := f) hlt ?_) | (refine drawf TB_ok rfl (by kernel_rfl) (by kernel_rfl) hS (List.Sublist.refl _) (List.Sublist.refl _) ?_; intro w1 hS) | (refine br_t (by assumption) ?_) | (refine br_f (by assumption) ?_))
    refine br_i (fun h1 => ?_) (fun h1 => ?_)
    · have h1' : 0 < f i := of_decide_eq_true h1
      repeat ((conv => whnf); first | (apply q_i; focus (intro w1 hS; (conv => whnf); first | exact ⟨rfl, rfl⟩ | ((refine ld_f hS 0 rfl rfl ?_); (conv => whnf); exact ⟨rfl, rfl⟩) | ((refine ldA_f hS 0 rfl rfl ?_); (conv => whnf); exact ⟨rfl, rfl⟩) | ((refine .mk (by show (0 : Int) ≤ ((i : Nat) : Int); omega) ?_); (conv => whnf); exact ⟨rfl, rfl⟩))) | (refine nw_f hS ?_; intro b w1 hS) | (refine as_i hS ?_) | (refine as_i (hS.subs (List.nil_sublist _) (by repeat (first | exact List.Sublist.refl _ | apply List.Sublist.cons_cons | apply List.Sublist.cons))) ?_) | (refine as_i (hS.subs (List.Sublist.refl _) (by repeat (first | exact List.Sublist.refl _ | apply List.Sublist.cons_cons | apply List.Sublist.cons))) ?_) | (refine bar_f hS ?_) | (refine ld_f hS 0 rfl rfl ?_) | (refine ldA_f hS 0 rfl rfl ?_) | (refine stN_f hS 0 rfl (Nat.le_of_ble_eq_true rfl) rfl rfl ?_; (conv => whnf); intro w1 hS) | (refine stM_f hS 0 rfl (Nat.le_of_ble_eq_true rfl) rfl ?_; (conv => whnf); intro w1 hS) | (refine .mk (by show (0 : Int) ≤ ((i : Nat) : Int); omega) ?_) | (refine drawf TB_ok rfl (by kernel_rfl) (by kernel_rfl) hS (List.Sublist.refl _) (List.Sublist.refl _) ?_; intro w1 hS) | (refine br_t (by assumption) ?_) | (refine br_f (by assumption) ?_))
      refine ⟨rfl, i + 1, ?_, ⟨by omega, hS⟩, by omega⟩
      have e1 : bitsN f (i + 1) = bOr .u8 (bitsN f i) (bShl .u8 1 (i : Int)) := by rw [orBit' hbl.1 hbl.2 hlt, bitsN, if_pos h1']
      rw [wi8 hlt, e1]
      rfl
    · have h1' : ¬ 0 < f i := of_decide_eq_false h1
      repeat ((conv => whnf); first | (apply q_i; focus (intro w1 hS; (conv => whnf); first | exact ⟨rfl, rfl⟩ | ((refine ld_f hS 0 rfl rfl ?_); (conv => whnf); exact ⟨rfl, rfl⟩) | ((refine ldA_f hS 0 rfl rfl ?_); (conv => whnf); exact ⟨rfl, rfl⟩))) | (refine nw_f hS ?_; intro b w1 hS) | (refine as_i hS ?_) | (refine as_i (hS.subs (List.nil_sublist _) (by repeat (first | exact List.Sublist.refl _ | apply List.Sublist.cons_cons | apply List.Sublist.cons))) ?_) | (refine as_i (hS.subs (List.Sublist.refl _) (by repeat (first | exact List.Sublist.refl _ | apply List.Sublist.cons_cons | apply List.Sublist.cons))) ?_) | (refine bar_f hS ?_) | (refine ld_f hS 0 rfl rfl ?_) | (refine ldA_f hS 0 rfl rfl ?_) | (refine stN_f hS 0 rfl (Nat.le_of_ble_eq_true rfl) rfl rfl ?_; (conv => whnf); intro w1 hS) | (refine stM_f hS 0 rfl (Nat.le_of_ble_eq_true rfl) rfl ?_; (conv => whnf); intro w1 hS) | (refine drawf TB_ok rfl (by kernel_rfl) (by kernel_rfl) hS (List.Sublist.refl _) (List.Sublist.refl _) ?_; intro w1 hS) | (refine br_t (by assumption) ?_) | (refine br_f (by assumption) ?_))
      refine ⟨rfl, i + 1, ?_, ⟨by omega, hS⟩, by omega⟩
      rw [wi8 hlt, show bitsN f (i + 1) = bitsN f i from by rw [bitsN, if_neg h1']]
      rfl
  · have hge : i = 8 := by have := of_decide_eq_false hb; omega
    subst hge
    have hbl := bitsN_lt f 8
    repeat ((conv => whnf); first | (apply q_i; focus (intro w1 hS; (conv => whnf); first | exact ⟨rfl, rfl⟩ | ((refine ld_f hS 0 rfl rfl ?_); (conv => whnf); exact ⟨rfl, rfl⟩) | ((refine ldA_f hS 0 rfl rfl ?_); (conv => whnf); exact ⟨rfl, rfl⟩))) | (refine nw_f hS ?_; intro b w1 hS) | (refine as_i hS ?_) | (refine as_i (hS.subs (List.nil_sublist _) (by repeat (first | exact List.Sublist.refl _ | apply List.Sublist.cons_cons | apply List.Sublist.cons))) ?_) | (refine as_i (hS.subs (List.Sublist.refl _) (by repeat (first | exact List.Sublist.refl _ | apply List.Sublist.cons_cons | apply List.Sublist.cons))) ?_) | (refine bar_f hS ?_) | (refine ld_f hS 0 rfl rfl ?_) | (refine ldA_f hS 0 rfl rfl ?_) | (refine stN_f hS 0 rfl (Nat.le_of_ble_eq_true rfl) rfl rfl ?_; (conv => whnf); intro w1 hS) | (refine stM_f hS 0 rfl (Nat.le_of_ble_eq_true rfl) rfl ?_; (conv => whnf); intro w1 hS) | (refine drawf TB_ok rfl (by kernel_rfl) (by kernel_rfl) hS (List.Sublist.refl _) (List.Sublist.refl _) ?_; intro w1 hS) | (refine br_t (by assumption) ?_) | (refine br_f (by assumption) ?_))
    refine fc_m (w8_c bw bs L hW (bitsN f 8) hbl.1 (by omega) _ hS.ownF (by omega)) ?_
    rintro v w3 ⟨L1, hW1, hS'⟩
    replace hS := hS.callW hS'
    repeat ((conv => whnf); first | (apply q_i; focus (intro w1 hS; (conv => whnf); first | exact ⟨rfl, rfl⟩ | ((refine ld_f hS 0 rfl rfl ?_); (conv => whnf); exact ⟨rfl, rfl⟩) | ((refine ldA_f hS 0 rfl rfl ?_); (conv => whnf); exact ⟨rfl, rfl⟩))) | (refine nw_f hS ?_; intro b w1 hS) | (refine as_i hS ?_) | (refine as_i (hS.subs (List.nil_sublist _) (by repeat (first | exact List.Sublist.refl _ | apply List.Sublist.cons_cons | apply List.Sublist.cons))) ?_) | (refine as_i (hS.subs (List.Sublist.refl _) (by repeat (first | exact List.Sublist.refl _ | apply List.Sublist.cons_cons | apply List.Sublist.cons))) ?_) | (refine bar_f hS ?_) | (refine ld_f hS 0 rfl rfl ?_) | (refine ldA_f hS 0 rfl rfl ?_) | (refine stN_f hS 0 rfl (Nat.le_of_ble_eq_true rfl) rfl rfl ?_; (conv => whnf); intro w1 hS) | (refine stM_f hS 0 rfl (Nat.le_of_ble_eq_true rfl) rfl ?_; (conv => whnf); intro w1 hS) | (refine drawf TB_ok rfl (by kernel_rfl) (by kernel_rfl) hS (List.Sublist.refl _) (List.Sublist.refl _) ?_; intro w1 hS) | (refine br_t (by assumption) ?_) | (refine br_f (by assumption) ?_))
    refine loop_i TB_ok (fun i : Nat => [(25, .int .i64 i)]) (fun i w' => i ≤ 8 ∧ ∃ L', Wr bw (bs ++ be (bitsN f 8) 1 ++ num2 f i) L' ∧ Sf (keys L) w w' (L' ++ []) [_]) (fun i => 8 - i) 0 rfl ⟨Nat.zero_le _, L1, by simpa [num2] using hW1, hS⟩ ?_
    rintro i us w4 ⟨hi, L2, hW2, hS⟩
    (conv => whnf)
    refine br_i (fun hb => ?_) (fun hb => ?_)
    · have hlt : i < 8 := by have := of_decide_eq_true hb; omega
      have hfi := hf i hlt
      have hnl := num2_len f i
      have hbe := be_len (bitsN f 8) 1
      have hw16 : IntKind.u16.wrap (f i) = f i := by rw [wrap_u16_mod]; omega
      repeat ((conv => whnf); first | (apply q_i; focus (intro w1 hS; (conv => whnf); first | exact ⟨rfl, rfl⟩ | ((refine ld_f hS 0 rfl rfl ?_); (conv => whnf); exact ⟨rfl, rfl⟩) | ((refine ldA_f hS 0 rfl rfl ?_); (conv => whnf); exact ⟨rfl, rfl⟩) | ((refine idxVec (f := f) hlt ?_); (conv => whnf); exact ⟨rfl, rfl⟩))) | (refine nw_f hS ?_; intro b w1 hS) | (refine as_i hS ?_) | (refine as_i (hS.subs (List.nil_sublist _) (by repeat (first | exact List.Sublist.refl _ | apply List.Sublist.cons_cons | apply List.Sublist.cons))) ?_) | (refine as_i (hS.subs (List.Sublist.refl _) (by repeat (first | exact List.Sublist.refl _ | apply List.Sublist.cons_cons | apply List.Sublist.cons))) ?_) | (refine bar_f hS ?_) | (refine ld_f hS 0 rfl rfl ?_) | (refine ldA_f hS 0 rfl rfl ?_) | (refine stN_f hS 0 rfl (Nat.le_of_ble_eq_true rfl) rfl rfl ?_; (conv => whnf); intro w1 hS) | (refine stM_f hS 0 rfl (Nat.le_of_ble_eq_true rfl) rfl ?_; (conv => whnf); intro w1 hS) | (refine idxVec (f := f) hlt ?_) | (refine drawf TB_ok rfl (by kernel_rfl) (by kernel_rfl) hS (List.Sublist.refl _) (List.Sublist.refl _) ?_; intro w1 hS) | (refine br_t (by assumption) ?_) | (refine br_f (by assumption) ?_))
      refine br_i (fun h1 => ?_) (fun h1 => ?_)
      · have h1' : 0 < f i := of_decide_eq_true h1
        have hw := w16_c bw _ L2 hW2 (f i) hfi.1 (by omega) w4
        rw [← hw16] at hw
        repeat ((conv => whnf); first | (apply q_i; focus (intro w1 hS; (conv => whnf); first | exact ⟨rfl, rfl⟩ | ((refine ld_f hS 0 rfl rfl ?_); (conv => whnf); exact ⟨rfl, rfl⟩) | ((refine ldA_f hS 0 rfl rfl ?_); (conv => whnf); exact ⟨rfl, rfl⟩))) | (refine nw_f hS ?_; intro b w1 hS) | (refine as_i hS ?_) | (refine as_i (hS.subs (List.nil_sublist _) (by repeat (first | exact List.Sublist.refl _ | apply List.Sublist.cons_cons | apply List.Sublist.cons))) ?_) | (refine as_i (hS.subs (List.Sublist.refl _) (by repeat (first | exact List.Sublist.refl _ | apply List.Sublist.cons_cons | apply List.Sublist.cons))) ?_) | (refine bar_f hS ?_) | (refine ld_f hS 0 rfl rfl ?_) | (refine ldA_f hS 0 rfl rfl ?_) | (refine stN_f hS 0 rfl (Nat.le_of_ble_eq_true rfl) rfl rfl ?_; (conv => whnf); intro w1 hS) | (refine stM_f hS 0 rfl (Nat.le_of_ble_eq_true rfl) rfl ?_; (conv => whnf); intro w1 hS) | (refine drawf TB_ok rfl (by kernel_rfl) (by kernel_rfl) hS (List.Sublist.refl _) (List.Sublist.refl _) ?_; intro w1 hS) | (refine br_t (by assumption) ?_) | (refine br_f (by assumption) ?_))
        (conv => whnf)
        refine fc_m (hw hS.ownF (by rw [List.length_append, List.length_append, hbe]; omega)) ?_
        rintro v w5 ⟨L3, hW3, hS'⟩
        rw [hw16] at hW3
        replace hS := hS.callW hS'
        repeat ((conv => whnf); first | (apply q_i; focus (intro w1 hS; (conv => whnf); first | exact ⟨rfl, rfl⟩ | ((refine ld_f hS 0 rfl rfl ?_); (conv => whnf); exact ⟨rfl, rfl⟩) | ((refine ldA_f hS 0 rfl rfl ?_); (conv => whnf); exact ⟨rfl, rfl⟩))) | (refine nw_f hS ?_; intro b w1 hS) | (refine as_i hS ?_) | (refine as_i (hS.subs (List.nil_sublist _) (by repeat (first | exact List.Sublist.refl _ | apply List.Sublist.cons_cons | apply List.Sublist.cons))) ?_) | (refine as_i (hS.subs (List.Sublist.refl _) (by repeat (first | exact List.Sublist.refl _ | apply List.Sublist.cons_cons | apply List.Sublist.cons))) ?_) | (refine bar_f hS ?_) | (refine ld_f hS 0 rfl rfl ?_) | (refine ldA_f hS 0 rfl rfl ?_) | (refine stN_f hS 0 rfl (Nat.le_of_ble_eq_true rfl) rfl rfl ?_; (conv => whnf); intro w1 hS) | (refine stM_f hS 0 rfl (Nat.le_of_ble_eq_true rfl) rfl ?_; (conv => whnf); intro w1 hS) | (refine drawf TB_ok rfl (by kernel_rfl) (by kernel_rfl) hS (List.Sublist.refl _) (List.Sublist.refl _) ?_; intro w1 hS) | (refine br_t (by assumption) ?_) | (refine br_f (by assumption) ?_))
        refine ⟨rfl, i + 1, ?_, ⟨by omega, L3, ?_, hS⟩, by omega⟩
        · rw [wi8 hlt]
          rfl
        · rw [num2, if_pos h1', ← List.append_assoc]
          exact hW3
      · have h1' : ¬ 0 < f i := of_decide_eq_false h1
        repeat ((conv => whnf); first | (apply q_i; focus (intro w1 hS; (conv => whnf); first | exact ⟨rfl, rfl⟩ | ((refine ld_f hS 0 rfl rfl ?_); (conv => whnf); exact ⟨rfl, rfl⟩) | ((refine ldA_f hS 0 rfl rfl ?_); (conv => whnf); exact ⟨rfl, rfl⟩))) | (refine nw_f hS ?_; intro b w1 hS) | (refine as_i hS ?_) | (refine as_i (hS.subs (List.nil_sublist _) (by repeat (first | exact List.Sublist.refl _ | apply List.Sublist.cons_cons | apply List.Sublist.cons))) ?_) | (refine as_i (hS.subs (List.Sublist.refl _) (by repeat (first | exact List.Sublist.refl _ | apply List.Sublist.cons_cons | apply List.Sublist.cons))) ?_) | (refine bar_f hS ?_) | (refine ld_f hS 0 rfl rfl ?_) | (refine ldA_f hS 0 rfl rfl ?_) | (refine stN_f hS 0 rfl (Nat.le_of_ble_eq_true rfl) rfl rfl ?_; (conv => whnf); intro w1 hS) | (refine stM_f hS 0 rfl (Nat.le_of_ble_eq_true rfl) rfl ?_; (conv => whnf); intro w1 hS) | (refine drawf TB_ok rfl (by kernel_rfl) (by kernel_rfl) hS (List.Sublist.refl _) (List.Sublist.refl _) ?_; intro w1 hS) | (refine br_t (by assumption) ?_) | (refine br_f (by assumption) ?_))
        refine ⟨rfl, i + 1, ?_, ⟨by omega, L2, ?_, hS⟩, by omega⟩
        · rw [wi8 hlt]
          rfl
        · rw [num2, if_neg h1']
          exact hW2
    · have hge : i = 8 := by have := of_decide_eq_false hb; omega
      subst hge
      rw [List.append_assoc] at hW2
      repeat ((conv => whnf); first | (apply q_i; focus (intro w1 hS; (conv => whnf); first | exact ⟨rfl, rfl⟩ | ((refine ld_f hS 0 rfl rfl ?_); (conv => whnf); exact ⟨rfl, rfl⟩) | ((refine ldA_f hS 0 rfl rfl ?_); (conv => whnf); exact ⟨rfl, rfl⟩))) | (refine nw_f hS ?_; intro b w1 hS) | (refine as_i hS ?_) | (refine as_i (hS.subs (List.nil_sublist _) (by repeat (first | exact List.Sublist.refl _ | apply List.Sublist.cons_cons | apply List.Sublist.cons))) ?_) | (refine as_i (hS.subs (List.Sublist.refl _) (by repeat (first | exact List.Sublist.refl _ | apply List.Sublist.cons_cons | apply List.Sublist.cons))) ?_) | (refine bar_f hS ?_) | (refine ld_f hS 0 rfl rfl ?_) | (refine ldA_f hS 0 rfl rfl ?_) | (refine stN_f hS 0 rfl (Nat.le_of_ble_eq_true rfl) rfl rfl ?_; (conv => whnf); intro w1 hS) | (refine stM_f hS 0 rfl (Nat.le_of_ble_eq_true rfl) rfl ?_; (conv => whnf); intro w1 hS) | (refine drawf TB_ok rfl (by kernel_rfl) (by kernel_rfl) hS (List.Sublist.refl _) (List.Sublist.refl _) ?_; intro w1 hS) | (refine br_t (by assumption) ?_) | (refine br_f (by assumption) ?_))
      (conv => whnf)
      have h2 := hS.fr (List.Sublist.refl _)
      rw [List.append_nil] at h2
      exact ⟨L2, hW2, h2⟩
end Go.RV
