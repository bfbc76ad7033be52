/- Contracts of the document's functions of chapter 28: its reader. Conditions: none. -/
import Derived.Test.YtnhlpmnehdackaaGreatMd5
set_option maxRecDepth 20000
set_option linter.unusedVariables false
set_option linter.unusedSimpArgs false
namespace Go.RV
open Go Go.Proofs Go.RowKit

def qrL (bq : Nat) (e : Int) : List Value := [.pointer (some ⟨bq, 0, none⟩), .int .i64 e]
def qrO (bq : Nat) (e : Int) : Obj := .cells (qrL bq e).toArray 85 (0, 0)
section
variable {M : List Nat} {w0 w : World} {F L Lq : LM} {x : Nat × Obj}
theorem Sf.inn (h : Sf M w0 w (Lq ++ F) (x :: L)) : Sf M w0 w ((x :: Lq) ++ F) L := ⟨h.st.perm (pc fun u => by simp only [List.count_append, List.count_cons, List.count_nil]; omega)⟩
theorem Sf.outt (h : Sf M w0 w ((x :: Lq) ++ F) L) : Sf M w0 w (Lq ++ F) (x :: L) := ⟨h.st.perm (pc fun u => by simp only [List.count_append, List.count_cons, List.count_nil]; omega)⟩
end
theorem rfix_c (bd bq : Nat) (S : List UInt8) (s q : RS) (Lq : LM) (hQ : QR bq S q Lq) (hq : s.e = 0 → q = s) (hs : S.length ≤ 4611686018427387904) (W : Int) (w : World) (hS : St (keys ((bd, qrO bq s.e) :: Lq)) w w ((bd, qrO bq s.e) :: Lq)) :
    Fc Tryz.prog 42 [.pointer (some ⟨bd, 0, none⟩), .int .i64 W] w fun v w' => v = .string (strY (fixedR s W).1) ∧ ∃ q' Lq', QR bq S q' Lq' ∧ ((fixedR s W).2.e = 0 → q' = (fixedR s W).2) ∧ St (keys ((bd, qrO bq s.e) :: Lq)) w w' ((bd, qrO bq (fixedR s W).2.e) :: Lq') := by
  obtain ⟨M0, hM0⟩ : ∃ M, M = keys ((bd, qrO bq s.e) :: Lq) := ⟨_, rfl⟩
  rw [← hM0] at hS ⊢
  refine fc_i TB_ok Tryz.func42 rfl (by kernel_rfl) ?_
  have hS : Sf M0 w w (Lq ++ []) [(bd, .cells (qrL bq s.e).toArray 85 (0, 0))] := ⟨hS.perm (pc fun u => by simp only [List.count_append, List.count_cons, List.count_nil, qrO]; omega)⟩
  by_cases he : s.e = 0
  · have g1 : (s.e != 0) = false := by simp [he]
    have hqs := hq he
    subst hqs
    have hz := strY_size q.rest
    repeat ((conv => whnf); first | (apply q_i; focus (intro w1 hS; (conv => whnf); first | exact ⟨rfl, rfl⟩ | ((refine ld_f hS 0 rfl rfl ?_); (conv => whnf); exact ⟨rfl, rfl⟩) | ((refine ldA_f hS 0 rfl rfl ?_); (conv => whnf); exact ⟨rfl, rfl⟩))) | (refine nw_f hS ?_; intro b w1 hS) | (refine as_i hS ?_) | (refine as_i (hS.subs (List.nil_sublist _) (by repeat (first | exact List.Sublist.refl _ | apply List.Sublist.cons_cons | apply List.Sublist.cons))) ?_) | (refine as_i (hS.subs (List.Sublist.refl _) (by repeat (first | exact List.Sublist.refl _ | apply List.Sublist.cons_cons | apply List.Sublist.cons))) ?_) | (refine bar_f hS ?_) | (refine ld_f hS 0 rfl rfl ?_) | (refine ldA_f hS 0 rfl rfl ?_) | (refine stN_f hS 0 rfl (Nat.le_of_ble_eq_true rfl) rfl rfl ?_; (conv => whnf); intro w1 hS) | (refine stM_f hS 0 rfl (Nat.le_of_ble_eq_true rfl) rfl ?_; (conv => whnf); intro w1 hS) | (refine drawf TB_ok rfl (by kernel_rfl) (by kernel_rfl) hS (List.Sublist.refl _) (List.Sublist.refl _) ?_; intro w1 hS) | (refine br_t (by assumption) ?_) | (refine br_f (by assumption) ?_))
    refine fc_m (qrest_c bq S q Lq hQ _ hS.ownF) ?_
    rintro v w1 ⟨rfl, hS'⟩
    replace hS := hS.call0 hS'
    by_cases hlt : (q.rest.length : Int) < W
    · have g2 : decide (((strY q.rest).size : Int) < W) = true := decide_eq_true (by omega)
      have hf : fixedR q W = ([], ⟨[], 10⟩) := by unfold fixedR; rw [if_neg (by omega), if_pos hlt]
      rw [hf]
      repeat ((conv => whnf); first | (apply q_i; focus (intro w1 hS; (conv => whnf); first | exact ⟨rfl, rfl⟩ | ((refine ld_f hS 0 rfl rfl ?_); (conv => whnf); exact ⟨rfl, rfl⟩) | ((refine ldA_f hS 0 rfl rfl ?_); (conv => whnf); exact ⟨rfl, rfl⟩))) | (refine nw_f hS ?_; intro b w1 hS) | (refine as_i hS ?_) | (refine as_i (hS.subs (List.nil_sublist _) (by repeat (first | exact List.Sublist.refl _ | apply List.Sublist.cons_cons | apply List.Sublist.cons))) ?_) | (refine as_i (hS.subs (List.Sublist.refl _) (by repeat (first | exact List.Sublist.refl _ | apply List.Sublist.cons_cons | apply List.Sublist.cons))) ?_) | (refine bar_f hS ?_) | (refine ld_f hS 0 rfl rfl ?_) | (refine ldA_f hS 0 rfl rfl ?_) | (refine stN_f hS 0 rfl (Nat.le_of_ble_eq_true rfl) rfl rfl ?_; (conv => whnf); intro w1 hS) | (refine stM_f hS 0 rfl (Nat.le_of_ble_eq_true rfl) rfl ?_; (conv => whnf); intro w1 hS) | (refine drawf TB_ok rfl (by kernel_rfl) (by kernel_rfl) hS (List.Sublist.refl _) (List.Sublist.refl _) ?_; intro w1 hS) | (refine br_t (by assumption) ?_) | (refine br_f (by assumption) ?_))
      exact ⟨rfl, q, Lq, hQ, fun h => absurd h (by decide), hS.st.perm (pc fun u => by simp only [List.count_append, List.count_cons, List.count_nil, qrO, qrL]; omega)⟩
    · have g2 : decide (((strY q.rest).size : Int) < W) = false := decide_eq_false (by omega)
      have hfe : (fixedR q W).2.e = q.e := by
        unfold fixedR
        split
        · rfl
        · rfl
      repeat ((conv => whnf); first | (apply q_i; focus (intro w1 hS; (conv => whnf); first | exact ⟨rfl, rfl⟩ | ((refine ld_f hS 0 rfl rfl ?_); (conv => whnf); exact ⟨rfl, rfl⟩) | ((refine ldA_f hS 0 rfl rfl ?_); (conv => whnf); exact ⟨rfl, rfl⟩))) | (refine nw_f hS ?_; intro b w1 hS) | (refine as_i hS ?_) | (refine as_i (hS.subs (List.nil_sublist _) (by repeat (first | exact List.Sublist.refl _ | apply List.Sublist.cons_cons | apply List.Sublist.cons))) ?_) | (refine as_i (hS.subs (List.Sublist.refl _) (by repeat (first | exact List.Sublist.refl _ | apply List.Sublist.cons_cons | apply List.Sublist.cons))) ?_) | (refine bar_f hS ?_) | (refine ld_f hS 0 rfl rfl ?_) | (refine ldA_f hS 0 rfl rfl ?_) | (refine stN_f hS 0 rfl (Nat.le_of_ble_eq_true rfl) rfl rfl ?_; (conv => whnf); intro w1 hS) | (refine stM_f hS 0 rfl (Nat.le_of_ble_eq_true rfl) rfl ?_; (conv => whnf); intro w1 hS) | (refine drawf TB_ok rfl (by kernel_rfl) (by kernel_rfl) hS (List.Sublist.refl _) (List.Sublist.refl _) ?_; intro w1 hS) | (refine br_t (by assumption) ?_) | (refine br_f (by assumption) ?_))
      refine fc_m (qfixed_c bq S q Lq hQ hs W _ hS.ownF) ?_
      rintro v w2 ⟨rfl, Lq', hQ', hS'⟩
      replace hS := hS.callW hS'
      repeat ((conv => whnf); first | (apply q_i; focus (intro w1 hS; (conv => whnf); first | exact ⟨rfl, rfl⟩ | ((refine ld_f hS 0 rfl rfl ?_); (conv => whnf); exact ⟨rfl, rfl⟩) | ((refine ldA_f hS 0 rfl rfl ?_); (conv => whnf); exact ⟨rfl, rfl⟩))) | (refine nw_f hS ?_; intro b w1 hS) | (refine as_i hS ?_) | (refine as_i (hS.subs (List.nil_sublist _) (by repeat (first | exact List.Sublist.refl _ | apply List.Sublist.cons_cons | apply List.Sublist.cons))) ?_) | (refine as_i (hS.subs (List.Sublist.refl _) (by repeat (first | exact List.Sublist.refl _ | apply List.Sublist.cons_cons | apply List.Sublist.cons))) ?_) | (refine bar_f hS ?_) | (refine ld_f hS 0 rfl rfl ?_) | (refine ldA_f hS 0 rfl rfl ?_) | (refine stN_f hS 0 rfl (Nat.le_of_ble_eq_true rfl) rfl rfl ?_; (conv => whnf); intro w1 hS) | (refine stM_f hS 0 rfl (Nat.le_of_ble_eq_true rfl) rfl ?_; (conv => whnf); intro w1 hS) | (refine drawf TB_ok rfl (by kernel_rfl) (by kernel_rfl) hS (List.Sublist.refl _) (List.Sublist.refl _) ?_; intro w1 hS) | (refine br_t (by assumption) ?_) | (refine br_f (by assumption) ?_))
      refine ⟨rfl, _, Lq', hQ', fun _ => rfl, ?_⟩
      rw [hfe]
      exact hS.st.perm (pc fun u => by simp only [List.count_append, List.count_cons, List.count_nil, qrO, qrL]; omega)
  · have g1 : (s.e != 0) = true := by simp [he]
    rw [fixedR_err he]
    repeat ((conv => whnf); first | (apply q_i; focus (intro w1 hS; (conv => whnf); first | exact ⟨rfl, rfl⟩ | ((refine ld_f hS 0 rfl rfl ?_); (conv => whnf); exact ⟨rfl, rfl⟩) | ((refine ldA_f hS 0 rfl rfl ?_); (conv => whnf); exact ⟨rfl, rfl⟩))) | (refine nw_f hS ?_; intro b w1 hS) | (refine as_i hS ?_) | (refine as_i (hS.subs (List.nil_sublist _) (by repeat (first | exact List.Sublist.refl _ | apply List.Sublist.cons_cons | apply List.Sublist.cons))) ?_) | (refine as_i (hS.subs (List.Sublist.refl _) (by repeat (first | exact List.Sublist.refl _ | apply List.Sublist.cons_cons | apply List.Sublist.cons))) ?_) | (refine bar_f hS ?_) | (refine ld_f hS 0 rfl rfl ?_) | (refine ldA_f hS 0 rfl rfl ?_) | (refine stN_f hS 0 rfl (Nat.le_of_ble_eq_true rfl) rfl rfl ?_; (conv => whnf); intro w1 hS) | (refine stM_f hS 0 rfl (Nat.le_of_ble_eq_true rfl) rfl ?_; (conv => whnf); intro w1 hS) | (refine drawf TB_ok rfl (by kernel_rfl) (by kernel_rfl) hS (List.Sublist.refl _) (List.Sublist.refl _) ?_; intro w1 hS) | (refine br_t (by assumption) ?_) | (refine br_f (by assumption) ?_))
    exact ⟨rfl, q, Lq, hQ, fun h => absurd h he, hS.st.perm (pc fun u => by simp only [List.count_append, List.count_cons, List.count_nil, qrO, qrL]; omega)⟩
theorem num28_c (bd bq : Nat) (S : List UInt8) (s q : RS) (Lq : LM) (hQ : QR bq S q Lq) (hq : s.e = 0 → q = s) (hs : S.length ≤ 4611686018427387904) (W : Nat) (hW : W ≤ 3) (w : World) (hS : St (keys ((bd, qrO bq s.e) :: Lq)) w w ((bd, qrO bq s.e) :: Lq)) :
    Fc Tryz.prog 41 [.pointer (some ⟨bd, 0, none⟩), .int .i64 W] w fun v w' => v = .int .u32 (numF 0 (fixedR s (W : Nat)).1) ∧ ∃ q' Lq', QR bq S q' Lq' ∧ ((fixedR s (W : Nat)).2.e = 0 → q' = (fixedR s (W : Nat)).2) ∧ St (keys ((bd, qrO bq s.e) :: Lq)) w w' ((bd, qrO bq (fixedR s (W : Nat)).2.e) :: Lq') := by
  refine fc_i TB_ok Tryz.func41 rfl (by kernel_rfl) ?_
  have hS : Sf (keys ((bd, qrO bq s.e) :: Lq)) w w (((bd, qrO bq s.e) :: Lq) ++ []) [] := ⟨by simpa using hS⟩
  repeat ((conv => whnf); first | (apply q_i; focus (intro w1 hS; (conv => whnf); first | exact ⟨rfl, rfl⟩ | ((refine ld_f hS 0 rfl rfl ?_); (conv => whnf); exact ⟨rfl, rfl⟩) | ((refine ldA_f hS 0 rfl rfl ?_); (conv => whnf); exact ⟨rfl, rfl⟩))) | (refine nw_f hS ?_; intro b w1 hS) | (refine as_i hS ?_) | (refine as_i (hS.subs (List.nil_sublist _) (by repeat (first | exact List.Sublist.refl _ | apply List.Sublist.cons_cons | apply List.Sublist.cons))) ?_) | (refine as_i (hS.subs (List.Sublist.refl _) (by repeat (first | exact List.Sublist.refl _ | apply List.Sublist.cons_cons | apply List.Sublist.cons))) ?_) | (refine bar_f hS ?_) | (refine ld_f hS 0 rfl rfl ?_) | (refine ldA_f hS 0 rfl rfl ?_) | (refine stN_f hS 0 rfl (Nat.le_of_ble_eq_true rfl) rfl rfl ?_; (conv => whnf); intro w1 hS) | (refine stM_f hS 0 rfl (Nat.le_of_ble_eq_true rfl) rfl ?_; (conv => whnf); intro w1 hS) | (refine drawf TB_ok rfl (by kernel_rfl) (by kernel_rfl) hS (List.Sublist.refl _) (List.Sublist.refl _) ?_; intro w1 hS) | (refine br_t (by assumption) ?_) | (refine br_f (by assumption) ?_))
  refine fc_m (rfix_c bd bq S s q Lq hQ hq hs W _ hS.ownF) ?_
  rintro v w1 ⟨rfl, q', Lq', hQ', hq', hS'⟩
  replace hS := hS.callW hS'
  have hln := fixedR_len s W
  generalize fixedR s (W : Int) = z at *
  obtain ⟨t, s1⟩ := z
  simp only at hln hq' hS ⊢
  have hz := strY_size t
  repeat ((conv => whnf); first | (apply q_i; focus (intro w1 hS; (conv => whnf); first | exact ⟨rfl, rfl⟩ | ((refine ld_f hS 0 rfl rfl ?_); (conv => whnf); exact ⟨rfl, rfl⟩) | ((refine ldA_f hS 0 rfl rfl ?_); (conv => whnf); exact ⟨rfl, rfl⟩))) | (refine nw_f hS ?_; intro b w1 hS) | (refine as_i hS ?_) | (refine as_i (hS.subs (List.nil_sublist _) (by repeat (first | exact List.Sublist.refl _ | apply List.Sublist.cons_cons | apply List.Sublist.cons))) ?_) | (refine as_i (hS.subs (List.Sublist.refl _) (by repeat (first | exact List.Sublist.refl _ | apply List.Sublist.cons_cons | apply List.Sublist.cons))) ?_) | (refine bar_f hS ?_) | (refine ld_f hS 0 rfl rfl ?_) | (refine ldA_f hS 0 rfl rfl ?_) | (refine stN_f hS 0 rfl (Nat.le_of_ble_eq_true rfl) rfl rfl ?_; (conv => whnf); intro w1 hS) | (refine stM_f hS 0 rfl (Nat.le_of_ble_eq_true rfl) rfl ?_; (conv => whnf); intro w1 hS) | (refine drawf TB_ok rfl (by kernel_rfl) (by kernel_rfl) hS (List.Sublist.refl _) (List.Sublist.refl _) ?_; intro w1 hS) | (refine br_t (by assumption) ?_) | (refine br_f (by assumption) ?_))
  refine loop_i TB_ok (fun i : Nat => [(7, .int .i64 i), (6, .int .u32 (numF 0 (t.take i)))]) (fun i w' => i ≤ t.length ∧ Sf _ w w' (((bd, qrO bq s1.e) :: Lq') ++ []) []) (fun i => t.length - i) 0 rfl ⟨Nat.zero_le _, hS⟩ ?_
  rintro i us w2 ⟨hi, hS⟩
  repeat ((conv => whnf); first | (apply q_i; focus (intro w1 hS; (conv => whnf); first | exact ⟨rfl, rfl⟩ | ((refine ld_f hS 0 rfl rfl ?_); (conv => whnf); exact ⟨rfl, rfl⟩) | ((refine ldA_f hS 0 rfl rfl ?_); (conv => whnf); exact ⟨rfl, rfl⟩))) | (refine nw_f hS ?_; intro b w1 hS) | (refine as_i hS ?_) | (refine as_i (hS.subs (List.nil_sublist _) (by repeat (first | exact List.Sublist.refl _ | apply List.Sublist.cons_cons | apply List.Sublist.cons))) ?_) | (refine as_i (hS.subs (List.Sublist.refl _) (by repeat (first | exact List.Sublist.refl _ | apply List.Sublist.cons_cons | apply List.Sublist.cons))) ?_) | (refine bar_f hS ?_) | (refine ld_f hS 0 rfl rfl ?_) | (refine ldA_f hS 0 rfl rfl ?_) | (refine stN_f hS 0 rfl (Nat.le_of_ble_eq_true rfl) rfl rfl ?_; (conv => whnf); intro w1 hS) | (refine stM_f hS 0 rfl (Nat.le_of_ble_eq_true rfl) rfl ?_; (conv => whnf); intro w1 hS) | (refine drawf TB_ok rfl (by kernel_rfl) (by kernel_rfl) hS (List.Sublist.refl _) (List.Sublist.refl _) ?_; intro w1 hS) | (refine br_t (by assumption) ?_) | (refine br_f (by assumption) ?_))
  (conv => whnf)
  refine br_i (fun hb => ?_) (fun hb => ?_)
  · have hlt : i < t.length := by have := of_decide_eq_true hb; omega
    have hby : byteAt (strY t) i = (t[i].toNat : Int) := byteAt_strY hlt
    have hc := t[i].toNat_lt
    have hnb := numF_bound (t.take i) 0 (by decide)
    have hpw : (256 : Int) ^ (t.take i).length ≤ 65536 := by
      have hl : (t.take i).length ≤ 2 := by rw [List.length_take]; omega
      rcases (show (t.take i).length = 0 ∨ (t.take i).length = 1 ∨ (t.take i).length = 2 by omega) with h | h | h <;> rw [h] <;> decide
    have hsn : numF 0 (t.take (i + 1)) = numF 0 (t.take i) * 256 + t[i].toNat := by
      rw [List.take_succ_eq_append_getElem hlt]
      unfold numF
      rw [List.foldl_append]
      rfl
    repeat ((conv => whnf); first | (apply q_i; focus (intro w1 hS; (conv => whnf); first | exact ⟨rfl, rfl⟩ | ((refine ld_f hS 0 rfl rfl ?_); (conv => whnf); exact ⟨rfl, rfl⟩) | ((refine ldA_f hS 0 rfl rfl ?_); (conv => whnf); exact ⟨rfl, rfl⟩) | ((refine .mk ⟨by omega, by omega⟩ ?_); (conv => whnf); exact ⟨rfl, rfl⟩))) | (refine nw_f hS ?_; intro b w1 hS) | (refine as_i hS ?_) | (refine as_i (hS.subs (List.nil_sublist _) (by repeat (first | exact List.Sublist.refl _ | apply List.Sublist.cons_cons | apply List.Sublist.cons))) ?_) | (refine as_i (hS.subs (List.Sublist.refl _) (by repeat (first | exact List.Sublist.refl _ | apply List.Sublist.cons_cons | apply List.Sublist.cons))) ?_) | (refine bar_f hS ?_) | (refine ld_f hS 0 rfl rfl ?_) | (refine ldA_f hS 0 rfl rfl ?_) | (refine stN_f hS 0 rfl (Nat.le_of_ble_eq_true rfl) rfl rfl ?_; (conv => whnf); intro w1 hS) | (refine stM_f hS 0 rfl (Nat.le_of_ble_eq_true rfl) rfl ?_; (conv => whnf); intro w1 hS) | (refine .mk ⟨by omega, by omega⟩ ?_) | (refine drawf TB_ok rfl (by kernel_rfl) (by kernel_rfl) hS (List.Sublist.refl _) (List.Sublist.refl _) ?_; intro w1 hS) | (refine br_t (by assumption) ?_) | (refine br_f (by assumption) ?_))
    refine ⟨rfl, i + 1, ?_, ⟨by omega, hS⟩, by omega⟩
    generalize numF 0 (t.take i) = y at *
    have hy : y < 65536 := by omega
    have e1 : IntKind.u32.wrap (IntKind.u32.wrap (y * 256) + IntKind.u32.wrap (byteAt (strY t) i)) = y * 256 + t[i].toNat := by
      rw [hby, wrap_u32 (x := y * 256) (by omega) (by omega), wrap_u32 (x := (t[i].toNat : Int)) (by omega) (by omega), wrap_u32 (by omega) (by omega)]
    rw [hsn, wi hlt (by omega), ← e1]
    rfl
  · have hge : i = t.length := by have := of_decide_eq_false hb; omega
    rw [hge, List.take_length]
    repeat ((conv => whnf); first | (apply q_i; focus (intro w1 hS; (conv => whnf); first | exact ⟨rfl, rfl⟩ | ((refine ld_f hS 0 rfl rfl ?_); (conv => whnf); exact ⟨rfl, rfl⟩) | ((refine ldA_f hS 0 rfl rfl ?_); (conv => whnf); exact ⟨rfl, rfl⟩))) | (refine nw_f hS ?_; intro b w1 hS) | (refine as_i hS ?_) | (refine as_i (hS.subs (List.nil_sublist _) (by repeat (first | exact List.Sublist.refl _ | apply List.Sublist.cons_cons | apply List.Sublist.cons))) ?_) | (refine as_i (hS.subs (List.Sublist.refl _) (by repeat (first | exact List.Sublist.refl _ | apply List.Sublist.cons_cons | apply List.Sublist.cons))) ?_) | (refine bar_f hS ?_) | (refine ld_f hS 0 rfl rfl ?_) | (refine ldA_f hS 0 rfl rfl ?_) | (refine stN_f hS 0 rfl (Nat.le_of_ble_eq_true rfl) rfl rfl ?_; (conv => whnf); intro w1 hS) | (refine stM_f hS 0 rfl (Nat.le_of_ble_eq_true rfl) rfl ?_; (conv => whnf); intro w1 hS) | (refine drawf TB_ok rfl (by kernel_rfl) (by kernel_rfl) hS (List.Sublist.refl _) (List.Sublist.refl _) ?_; intro w1 hS) | (refine br_t (by assumption) ?_) | (refine br_f (by assumption) ?_))
    exact ⟨rfl, q', Lq', hQ', hq', by simpa using hS.st⟩
theorem n1_c (bd bq : Nat) (S : List UInt8) (s q : RS) (Lq : LM) (hQ : QR bq S q Lq) (hq : s.e = 0 → q = s) (hs : S.length ≤ 4611686018427387904) (w : World) (hS : St (keys ((bd, qrO bq s.e) :: Lq)) w w ((bd, qrO bq s.e) :: Lq)) :
    Fc Tryz.prog 41 [.pointer (some ⟨bd, 0, none⟩), .int .i64 1] w fun v w' => v = .int .u32 (num1 s) ∧ ∃ q' Lq', QR bq S q' Lq' ∧ ((aft1 s).e = 0 → q' = aft1 s) ∧ St (keys ((bd, qrO bq s.e) :: Lq)) w w' ((bd, qrO bq (aft1 s).e) :: Lq') :=
  num28_c bd bq S s q Lq hQ hq hs 1 (by decide) w hS
theorem n2_c (bd bq : Nat) (S : List UInt8) (s q : RS) (Lq : LM) (hQ : QR bq S q Lq) (hq : s.e = 0 → q = s) (hs : S.length ≤ 4611686018427387904) (w : World) (hS : St (keys ((bd, qrO bq s.e) :: Lq)) w w ((bd, qrO bq s.e) :: Lq)) :
    Fc Tryz.prog 41 [.pointer (some ⟨bd, 0, none⟩), .int .i64 2] w fun v w' => v = .int .u32 (numF 0 (fixedR s (2 : Nat)).1) ∧ ∃ q' Lq', QR bq S q' Lq' ∧ ((fixedR s (2 : Nat)).2.e = 0 → q' = (fixedR s (2 : Nat)).2) ∧ St (keys ((bd, qrO bq s.e) :: Lq)) w w' ((bd, qrO bq (fixedR s (2 : Nat)).2.e) :: Lq') :=
  num28_c bd bq S s q Lq hQ hq hs 2 (by decide) w hS
section
variable {M : List Nat} {w0 w : World} {F r : LM} {a b c x : Nat × Obj}
theorem Sf.sw1 (h : Sf M w0 w F (a :: b :: r)) : Sf M w0 w F (b :: a :: r) := h.pm (.swap _ _ _)
end
end Go.RV
