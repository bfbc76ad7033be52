/- The document's Split. Conditions: none. -/
import Derived.Test.YtdlmjbnggahpjaaDoorPc4
set_option maxRecDepth 20000
set_option linter.unusedVariables false
set_option linter.unusedSimpArgs false
namespace Go.RV
open Go Go.Proofs Go.RowKit

theorem partsC_len (c : UInt8) (l : List UInt8) : (partsC c l).length ≤ l.length + 1 := by
  induction l with
  | nil => simp [partsC]
  | cons b r ih =>
    rw [partsC]
    split
    · simp; omega
    · cases hp : partsC c r with
      | nil => simp
      | cons x xs => rw [hp] at ih; simp at ih ⊢; omega
theorem partsC_each (c : UInt8) (l : List UInt8) : ∀ x ∈ partsC c l, x.length ≤ l.length := by
  induction l with
  | nil => simp [partsC]
  | cons b r ih =>
    rw [partsC]
    split
    · intro x hx
      rcases List.mem_cons.1 hx with rfl | hx
      · simp
      · have := ih x hx; simp; omega
    · cases hp : partsC c r with
      | nil => simp
      | cons y ys =>
        rw [hp] at ih
        intro x hx
        rcases List.mem_cons.1 hx with rfl | hx
        · have := ih y (by simp); simp; omega
        · have := ih x (by simp [hx]); simp; omega
/-- Split's answer, as a value -/
def splitV (s : List UInt8) : Value := .tuple #[.string (strY (splitT s).1), dotV (splitT s).2.1.1 (splitT s).2.1.2, .bool (splitT s).2.2]
theorem splitV_false {s : List UInt8} (h : (splitT s).2.2 = false) : splitV s = .tuple #[.string (strY s), dotV 0 0, .bool false] := by
  unfold splitV
  rw [split_false h]
set_option maxHeartbeats 4000000 in
theorem rsplit_c (s : List UInt8) (hs : s.length ≤ 300) (w : World) : Fc Tryd.prog 16 [.string (strY s)] w fun v w' => v = splitV s ∧ St [] w w' [] := by
  refine fc_i TB_ok Tryd.func16 rfl (by kernel_rfl) ?_
  have hS := Sf.refl w
  have hz := strY_size s
  repeat ((conv => whnf); first | (apply q_i; focus (intro w1 hS; (conv => whnf); first | exact ⟨rfl, rfl⟩ | ((refine ld_f hS 0 rfl rfl ?_); (conv => whnf); exact ⟨rfl, rfl⟩) | ((refine ldA_f hS 0 rfl rfl ?_); (conv => whnf); exact ⟨rfl, rfl⟩))) | (refine nw_f hS ?_; intro b w1 hS) | (refine as_i hS ?_) | (refine as_i (hS.subs (List.nil_sublist _) (by repeat (first | exact List.Sublist.refl _ | apply List.Sublist.cons_cons | apply List.Sublist.cons))) ?_) | (refine as_i (hS.subs (List.Sublist.refl _) (by repeat (first | exact List.Sublist.refl _ | apply List.Sublist.cons_cons | apply List.Sublist.cons))) ?_) | (refine bar_f hS ?_) | (refine ld_f hS 0 rfl rfl ?_) | (refine ldA_f hS 0 rfl rfl ?_) | (refine stN_f hS 0 rfl (Nat.le_of_ble_eq_true rfl) rfl rfl ?_; (conv => whnf); intro w1 hS) | (refine stM_f hS 0 rfl (Nat.le_of_ble_eq_true rfl) rfl ?_; (conv => whnf); intro w1 hS) | (refine drawf TB_ok rfl (by kernel_rfl) (by kernel_rfl) hS (List.Sublist.refl _) (List.Sublist.refl _) ?_; intro w1 hS) | (refine br_t (by assumption) ?_) | (refine br_f (by assumption) ?_))
  refine fc_m (cutN_c s 126 (by omega) _) ?_
  rintro v w1 ⟨A, k, Lv, rfl, hv, hS'⟩
  replace hS := hS.callF hS'
  have hpl := partsC_len 126 s
  have hpe := partsC_each 126 s
  have hno : (splitT s).2.2 = true → ∃ a D, partsC 126 s = [a, D] ∧ _ := fun h => doc_true h
  generalize partsC 126 s = ps at *
  by_cases h2 : ps.length = 2
  case neg =>
    have g1 : ((ps.length : Int) != 2) = true := by simp; omega
    have hf : (splitT s).2.2 = false := by
      cases hb : (splitT s).2.2 with
      | false => rfl
      | true => obtain ⟨a, D, e, _⟩ := hno hb; rw [e] at h2; exact absurd rfl h2
    rw [splitV_false hf]
    repeat ((conv => whnf); first | (apply q_i; focus (intro w1 hS; (conv => whnf); first | exact ⟨rfl, rfl⟩ | ((refine ld_f hS 0 rfl rfl ?_); (conv => whnf); exact ⟨rfl, rfl⟩) | ((refine ldA_f hS 0 rfl rfl ?_); (conv => whnf); exact ⟨rfl, rfl⟩))) | (refine nw_f hS ?_; intro b w1 hS) | (refine as_i hS ?_) | (refine as_i (hS.subs (List.nil_sublist _) (by repeat (first | exact List.Sublist.refl _ | apply List.Sublist.cons_cons | apply List.Sublist.cons))) ?_) | (refine as_i (hS.subs (List.Sublist.refl _) (by repeat (first | exact List.Sublist.refl _ | apply List.Sublist.cons_cons | apply List.Sublist.cons))) ?_) | (refine bar_f hS ?_) | (refine ld_f hS 0 rfl rfl ?_) | (refine ldA_f hS 0 rfl rfl ?_) | (refine stN_f hS 0 rfl (Nat.le_of_ble_eq_true rfl) rfl rfl ?_; (conv => whnf); intro w1 hS) | (refine stM_f hS 0 rfl (Nat.le_of_ble_eq_true rfl) rfl ?_; (conv => whnf); intro w1 hS) | (refine drawf TB_ok rfl (by kernel_rfl) (by kernel_rfl) hS (List.Sublist.refl _) (List.Sublist.refl _) ?_; intro w1 hS) | (refine br_t (by assumption) ?_) | (refine br_f (by assumption) ?_))
    exact ⟨rfl, hS.nil⟩
  obtain ⟨a, D, rfl⟩ : ∃ a D, ps = [a, D] := by
    match ps, h2 with
    | [a, D], _ => exact ⟨a, D, rfl⟩
  have g1 : ((([a, D] : Nm).length : Int) != 2) = false := rfl
  have hal := hpe a (by simp)
  have hDl := hpe D (by simp)
  have hzD := strY_size D
  have hno2 : (splitT s).2.2 = true → 3 ≤ D.length ∧ D.length ≤ 7 ∧ (∀ j (hj : j < D.length), 2 ≤ j → 48 ≤ D[j].toNat ∧ D[j].toNat ≤ 57) ∧
      ∃ (h0 : 0 < D.length) (r : Nat), D[0].toNat = 48 + r ∧ (nameB a && rightB (r : Int) (valD 0 (D.drop 2) : Nat)) = true ∧ confT a (r : Int) ((valD 0 (D.drop 2) : Nat) : Int) = s := by
    intro h
    obtain ⟨a', D', e, h'⟩ := hno h
    simp only [List.cons.injEq, and_true] at e
    obtain ⟨rfl, rfl⟩ := e
    exact h'
  clear hno hpe hpl h2
  have hL1 : (1 : Int) < (([a, D] : Nm).length : Int) := by show (1 : Int) < 2; decide
  have hL0 : (0 : Int) < (([a, D] : Nm).length : Int) := by show (0 : Int) < 2; decide
  have l0 : 0 < ([a, D] : Nm).length := by simp
  have l1 : 1 < ([a, D] : Nm).length := by simp
  obtain ⟨x, off, rfl⟩ := (hv.rdF hS).form (flat_ne encT_len (by omega) l0)
  by_cases hlo : D.length < 3
  · have g2 : decide (((strY D).size : Int) < 3) = true := decide_eq_true (by omega)
    have hf : (splitT s).2.2 = false := by
      cases hb : (splitT s).2.2 with
      | false => rfl
      | true => have := hno2 hb; omega
    rw [splitV_false hf]
    repeat ((conv => whnf); first | (apply q_i; focus (intro w1 hS; (conv => whnf); first | exact ⟨rfl, rfl⟩ | ((refine ld_f hS 0 rfl rfl ?_); (conv => whnf); exact ⟨rfl, rfl⟩) | ((refine ldA_f hS 0 rfl rfl ?_); (conv => whnf); exact ⟨rfl, rfl⟩) | ((refine .mk ⟨by decide, hL1⟩ ?_; refine ix_i rfl ?_); (conv => whnf); exact ⟨rfl, rfl⟩) | ((refine .mk ⟨by decide, hL0⟩ ?_; refine ix_i rfl ?_); (conv => whnf); exact ⟨rfl, rfl⟩) | ((refine ld_el encT_len (hv.rdF hS).at (i := 1) (k := 0) l1 (by omega) rfl (v := .string (strY D)) rfl ?_); (conv => whnf); exact ⟨rfl, rfl⟩))) | (refine nw_f hS ?_; intro b w1 hS) | (refine as_i hS ?_) | (refine as_i (hS.subs (List.nil_sublist _) (by repeat (first | exact List.Sublist.refl _ | apply List.Sublist.cons_cons | apply List.Sublist.cons))) ?_) | (refine as_i (hS.subs (List.Sublist.refl _) (by repeat (first | exact List.Sublist.refl _ | apply List.Sublist.cons_cons | apply List.Sublist.cons))) ?_) | (refine bar_f hS ?_) | (refine ld_f hS 0 rfl rfl ?_) | (refine ldA_f hS 0 rfl rfl ?_) | (refine stN_f hS 0 rfl (Nat.le_of_ble_eq_true rfl) rfl rfl ?_; (conv => whnf); intro w1 hS) | (refine stM_f hS 0 rfl (Nat.le_of_ble_eq_true rfl) rfl ?_; (conv => whnf); intro w1 hS) | (refine .mk ⟨by decide, hL1⟩ ?_; refine ix_i rfl ?_) | (refine .mk ⟨by decide, hL0⟩ ?_; refine ix_i rfl ?_) | (refine ld_el encT_len (hv.rdF hS).at (i := 1) (k := 0) l1 (by omega) rfl (v := .string (strY D)) rfl ?_) | (refine drawf TB_ok rfl (by kernel_rfl) (by kernel_rfl) hS (List.Sublist.refl _) (List.Sublist.refl _) ?_; intro w1 hS) | (refine br_t (by assumption) ?_) | (refine br_f (by assumption) ?_))
    exact ⟨rfl, hS.nil⟩
  have g2 : decide (((strY D).size : Int) < 3) = false := decide_eq_false (by omega)
  by_cases hhi : 7 < D.length
  · have g3 : decide ((7 : Int) < ((strY D).size : Int)) = true := decide_eq_true (by omega)
    have hf : (splitT s).2.2 = false := by
      cases hb : (splitT s).2.2 with
      | false => rfl
      | true => have := hno2 hb; omega
    rw [splitV_false hf]
    repeat ((conv => whnf); first | (apply q_i; focus (intro w1 hS; (conv => whnf); first | exact ⟨rfl, rfl⟩ | ((refine ld_f hS 0 rfl rfl ?_); (conv => whnf); exact ⟨rfl, rfl⟩) | ((refine ldA_f hS 0 rfl rfl ?_); (conv => whnf); exact ⟨rfl, rfl⟩) | ((refine .mk ⟨by decide, hL1⟩ ?_; refine ix_i rfl ?_); (conv => whnf); exact ⟨rfl, rfl⟩) | ((refine .mk ⟨by decide, hL0⟩ ?_; refine ix_i rfl ?_); (conv => whnf); exact ⟨rfl, rfl⟩) | ((refine ld_el encT_len (hv.rdF hS).at (i := 1) (k := 0) l1 (by omega) rfl (v := .string (strY D)) rfl ?_); (conv => whnf); exact ⟨rfl, rfl⟩))) | (refine nw_f hS ?_; intro b w1 hS) | (refine as_i hS ?_) | (refine as_i (hS.subs (List.nil_sublist _) (by repeat (first | exact List.Sublist.refl _ | apply List.Sublist.cons_cons | apply List.Sublist.cons))) ?_) | (refine as_i (hS.subs (List.Sublist.refl _) (by repeat (first | exact List.Sublist.refl _ | apply List.Sublist.cons_cons | apply List.Sublist.cons))) ?_) | (refine bar_f hS ?_) | (refine ld_f hS 0 rfl rfl ?_) | (refine ldA_f hS 0 rfl rfl ?_) | (refine stN_f hS 0 rfl (Nat.le_of_ble_eq_true rfl) rfl rfl ?_; (conv => whnf); intro w1 hS) | (refine stM_f hS 0 rfl (Nat.le_of_ble_eq_true rfl) rfl ?_; (conv => whnf); intro w1 hS) | (refine .mk ⟨by decide, hL1⟩ ?_; refine ix_i rfl ?_) | (refine .mk ⟨by decide, hL0⟩ ?_; refine ix_i rfl ?_) | (refine ld_el encT_len (hv.rdF hS).at (i := 1) (k := 0) l1 (by omega) rfl (v := .string (strY D)) rfl ?_) | (refine drawf TB_ok rfl (by kernel_rfl) (by kernel_rfl) hS (List.Sublist.refl _) (List.Sublist.refl _) ?_; intro w1 hS) | (refine br_t (by assumption) ?_) | (refine br_f (by assumption) ?_))
    exact ⟨rfl, hS.nil⟩
  have g3 : decide ((7 : Int) < ((strY D).size : Int)) = false := decide_eq_false (by omega)
  repeat ((conv => whnf); first | (apply q_i; focus (intro w1 hS; (conv => whnf); first | exact ⟨rfl, rfl⟩ | ((refine ld_f hS 0 rfl rfl ?_); (conv => whnf); exact ⟨rfl, rfl⟩) | ((refine ldA_f hS 0 rfl rfl ?_); (conv => whnf); exact ⟨rfl, rfl⟩) | ((refine .mk ⟨by decide, hL1⟩ ?_; refine ix_i rfl ?_); (conv => whnf); exact ⟨rfl, rfl⟩) | ((refine .mk ⟨by decide, hL0⟩ ?_; refine ix_i rfl ?_); (conv => whnf); exact ⟨rfl, rfl⟩) | ((refine ld_el encT_len (hv.rdF hS).at (i := 1) (k := 0) l1 (by omega) rfl (v := .string (strY D)) rfl ?_); (conv => whnf); exact ⟨rfl, rfl⟩))) | (refine nw_f hS ?_; intro b w1 hS) | (refine as_i hS ?_) | (refine as_i (hS.subs (List.nil_sublist _) (by repeat (first | exact List.Sublist.refl _ | apply List.Sublist.cons_cons | apply List.Sublist.cons))) ?_) | (refine as_i (hS.subs (List.Sublist.refl _) (by repeat (first | exact List.Sublist.refl _ | apply List.Sublist.cons_cons | apply List.Sublist.cons))) ?_) | (refine bar_f hS ?_) | (refine ld_f hS 0 rfl rfl ?_) | (refine ldA_f hS 0 rfl rfl ?_) | (refine stN_f hS 0 rfl (Nat.le_of_ble_eq_true rfl) rfl rfl ?_; (conv => whnf); intro w1 hS) | (refine stM_f hS 0 rfl (Nat.le_of_ble_eq_true rfl) rfl ?_; (conv => whnf); intro w1 hS) | (refine .mk ⟨by decide, hL1⟩ ?_; refine ix_i rfl ?_) | (refine .mk ⟨by decide, hL0⟩ ?_; refine ix_i rfl ?_) | (refine ld_el encT_len (hv.rdF hS).at (i := 1) (k := 0) l1 (by omega) rfl (v := .string (strY D)) rfl ?_) | (refine drawf TB_ok rfl (by kernel_rfl) (by kernel_rfl) hS (List.Sublist.refl _) (List.Sublist.refl _) ?_; intro w1 hS) | (refine br_t (by assumption) ?_) | (refine br_f (by assumption) ?_))
  refine loop_i TB_ok (fun t : Nat × Nat => [(7, .int .i64 t.1), (6, .int .u32 t.2)]) (fun t w' => 2 ≤ t.1 ∧ t.1 ≤ D.length ∧ t.2 = valD 0 ((D.take t.1).drop 2) ∧ t.2 < 10 ^ (t.1 - 2) ∧ (∀ j (hj : j < D.length), 2 ≤ j → j < t.1 → 48 ≤ D[j].toNat ∧ D[j].toNat ≤ 57) ∧ Sf [] w w' (Lv ++ []) [_]) (fun t => D.length - t.1) (2, 0) rfl ⟨Nat.le_refl _, by omega, by rw [List.drop_eq_nil_of_le (by rw [List.length_take]; omega), valD_nil], by decide, fun j hj h1 h2 => by omega, hS⟩ ?_
  clear hS
  rintro ⟨i, n⟩ us w2 ⟨hi2, hi, hn, hn10, hj, hS⟩
  simp only at hi2 hi hn hn10 hj hS ⊢
  by_cases hlt : i < D.length
  · have g4 : decide ((i : Int) < ((strY D).size : Int)) = true := decide_eq_true (by omega)
    have hsx := byteAt_strY hlt
    replace hsx : byteAt (strY D) ((i : Int)).toNat = (D[i].toNat : Int) := hsx
    by_cases hd1 : D[i].toNat < 48
    · have g5 : decide (byteAt (strY D) ((i : Int)).toNat < 48) = true := decide_eq_true (by omega)
      have hf : (splitT s).2.2 = false := by
        cases hb : (splitT s).2.2 with
        | false => rfl
        | true => have := (hno2 hb).2.2.1 i hlt hi2; omega
      rw [splitV_false hf]
      repeat ((conv => whnf); first | (apply q_i; focus (intro w1 hS; (conv => whnf); first | exact ⟨rfl, rfl⟩ | ((refine ld_f hS 0 rfl rfl ?_); (conv => whnf); exact ⟨rfl, rfl⟩) | ((refine ldA_f hS 0 rfl rfl ?_); (conv => whnf); exact ⟨rfl, rfl⟩) | ((refine .mk ⟨by decide, hL1⟩ ?_; refine ix_i rfl ?_); (conv => whnf); exact ⟨rfl, rfl⟩) | ((refine .mk ⟨by decide, hL0⟩ ?_; refine ix_i rfl ?_); (conv => whnf); exact ⟨rfl, rfl⟩) | ((refine ld_el encT_len (hv.rdF hS).at (i := 1) (k := 0) l1 (by omega) rfl (v := .string (strY D)) rfl ?_); (conv => whnf); exact ⟨rfl, rfl⟩) | ((refine .mk ⟨by omega, by omega⟩ ?_); (conv => whnf); exact ⟨rfl, rfl⟩))) | (refine nw_f hS ?_; intro b w1 hS) | (refine as_i hS ?_) | (refine as_i (hS.subs (List.nil_sublist _) (by repeat (first | exact List.Sublist.refl _ | apply List.Sublist.cons_cons | apply List.Sublist.cons))) ?_) | (refine as_i (hS.subs (List.Sublist.refl _) (by repeat (first | exact List.Sublist.refl _ | apply List.Sublist.cons_cons | apply List.Sublist.cons))) ?_) | (refine bar_f hS ?_) | (refine ld_f hS 0 rfl rfl ?_) | (refine ldA_f hS 0 rfl rfl ?_) | (refine stN_f hS 0 rfl (Nat.le_of_ble_eq_true rfl) rfl rfl ?_; (conv => whnf); intro w1 hS) | (refine stM_f hS 0 rfl (Nat.le_of_ble_eq_true rfl) rfl ?_; (conv => whnf); intro w1 hS) | (refine .mk ⟨by decide, hL1⟩ ?_; refine ix_i rfl ?_) | (refine .mk ⟨by decide, hL0⟩ ?_; refine ix_i rfl ?_) | (refine ld_el encT_len (hv.rdF hS).at (i := 1) (k := 0) l1 (by omega) rfl (v := .string (strY D)) rfl ?_) | (refine .mk ⟨by omega, by omega⟩ ?_) | (refine drawf TB_ok rfl (by kernel_rfl) (by kernel_rfl) hS (List.Sublist.refl _) (List.Sublist.refl _) ?_; intro w1 hS) | (refine br_t (by assumption) ?_) | (refine br_f (by assumption) ?_))
      exact ⟨rfl, hS.nil⟩
    have g5 : decide (byteAt (strY D) ((i : Int)).toNat < 48) = false := decide_eq_false (by omega)
    by_cases hd2 : 57 < D[i].toNat
    · have g6 : decide (57 < byteAt (strY D) ((i : Int)).toNat) = true := decide_eq_true (by omega)
      have hf : (splitT s).2.2 = false := by
        cases hb : (splitT s).2.2 with
        | false => rfl
        | true => have := (hno2 hb).2.2.1 i hlt hi2; omega
      rw [splitV_false hf]
      repeat ((conv => whnf); first | (apply q_i; focus (intro w1 hS; (conv => whnf); first | exact ⟨rfl, rfl⟩ | ((refine ld_f hS 0 rfl rfl ?_); (conv => whnf); exact ⟨rfl, rfl⟩) | ((refine ldA_f hS 0 rfl rfl ?_); (conv => whnf); exact ⟨rfl, rfl⟩) | ((refine .mk ⟨by decide, hL1⟩ ?_; refine ix_i rfl ?_); (conv => whnf); exact ⟨rfl, rfl⟩) | ((refine .mk ⟨by decide, hL0⟩ ?_; refine ix_i rfl ?_); (conv => whnf); exact ⟨rfl, rfl⟩) | ((refine ld_el encT_len (hv.rdF hS).at (i := 1) (k := 0) l1 (by omega) rfl (v := .string (strY D)) rfl ?_); (conv => whnf); exact ⟨rfl, rfl⟩) | ((refine .mk ⟨by omega, by omega⟩ ?_); (conv => whnf); exact ⟨rfl, rfl⟩))) | (refine nw_f hS ?_; intro b w1 hS) | (refine as_i hS ?_) | (refine as_i (hS.subs (List.nil_sublist _) (by repeat (first | exact List.Sublist.refl _ | apply List.Sublist.cons_cons | apply List.Sublist.cons))) ?_) | (refine as_i (hS.subs (List.Sublist.refl _) (by repeat (first | exact List.Sublist.refl _ | apply List.Sublist.cons_cons | apply List.Sublist.cons))) ?_) | (refine bar_f hS ?_) | (refine ld_f hS 0 rfl rfl ?_) | (refine ldA_f hS 0 rfl rfl ?_) | (refine stN_f hS 0 rfl (Nat.le_of_ble_eq_true rfl) rfl rfl ?_; (conv => whnf); intro w1 hS) | (refine stM_f hS 0 rfl (Nat.le_of_ble_eq_true rfl) rfl ?_; (conv => whnf); intro w1 hS) | (refine .mk ⟨by decide, hL1⟩ ?_; refine ix_i rfl ?_) | (refine .mk ⟨by decide, hL0⟩ ?_; refine ix_i rfl ?_) | (refine ld_el encT_len (hv.rdF hS).at (i := 1) (k := 0) l1 (by omega) rfl (v := .string (strY D)) rfl ?_) | (refine .mk ⟨by omega, by omega⟩ ?_) | (refine drawf TB_ok rfl (by kernel_rfl) (by kernel_rfl) hS (List.Sublist.refl _) (List.Sublist.refl _) ?_; intro w1 hS) | (refine br_t (by assumption) ?_) | (refine br_f (by assumption) ?_))
      exact ⟨rfl, hS.nil⟩
    have g6 : decide (57 < byteAt (strY D) ((i : Int)).toNat) = false := decide_eq_false (by omega)
    repeat ((conv => whnf); first | (apply q_i; focus (intro w1 hS; (conv => whnf); first | exact ⟨rfl, rfl⟩ | ((refine ld_f hS 0 rfl rfl ?_); (conv => whnf); exact ⟨rfl, rfl⟩) | ((refine ldA_f hS 0 rfl rfl ?_); (conv => whnf); exact ⟨rfl, rfl⟩) | ((refine .mk ⟨by decide, hL1⟩ ?_; refine ix_i rfl ?_); (conv => whnf); exact ⟨rfl, rfl⟩) | ((refine .mk ⟨by decide, hL0⟩ ?_; refine ix_i rfl ?_); (conv => whnf); exact ⟨rfl, rfl⟩) | ((refine ld_el encT_len (hv.rdF hS).at (i := 1) (k := 0) l1 (by omega) rfl (v := .string (strY D)) rfl ?_); (conv => whnf); exact ⟨rfl, rfl⟩) | ((refine .mk ⟨by omega, by omega⟩ ?_); (conv => whnf); exact ⟨rfl, rfl⟩))) | (refine nw_f hS ?_; intro b w1 hS) | (refine as_i hS ?_) | (refine as_i (hS.subs (List.nil_sublist _) (by repeat (first | exact List.Sublist.refl _ | apply List.Sublist.cons_cons | apply List.Sublist.cons))) ?_) | (refine as_i (hS.subs (List.Sublist.refl _) (by repeat (first | exact List.Sublist.refl _ | apply List.Sublist.cons_cons | apply List.Sublist.cons))) ?_) | (refine bar_f hS ?_) | (refine ld_f hS 0 rfl rfl ?_) | (refine ldA_f hS 0 rfl rfl ?_) | (refine stN_f hS 0 rfl (Nat.le_of_ble_eq_true rfl) rfl rfl ?_; (conv => whnf); intro w1 hS) | (refine stM_f hS 0 rfl (Nat.le_of_ble_eq_true rfl) rfl ?_; (conv => whnf); intro w1 hS) | (refine .mk ⟨by decide, hL1⟩ ?_; refine ix_i rfl ?_) | (refine .mk ⟨by decide, hL0⟩ ?_; refine ix_i rfl ?_) | (refine ld_el encT_len (hv.rdF hS).at (i := 1) (k := 0) l1 (by omega) rfl (v := .string (strY D)) rfl ?_) | (refine .mk ⟨by omega, by omega⟩ ?_) | (refine drawf TB_ok rfl (by kernel_rfl) (by kernel_rfl) hS (List.Sublist.refl _) (List.Sublist.refl _) ?_; intro w1 hS) | (refine br_t (by assumption) ?_) | (refine br_f (by assumption) ?_))
    have hp10 : 10 ^ (i - 2) ≤ 10 ^ 4 := Nat.pow_le_pow_right (by decide) (by omega)
    have hp11 : 10 ^ (i + 1 - 2) = 10 ^ (i - 2) * 10 := by rw [show i + 1 - 2 = (i - 2) + 1 by omega, Nat.pow_succ]
    have htk : (D.take (i + 1)).drop 2 = (D.take i).drop 2 ++ [D[i]] := by
      rw [List.take_succ_eq_append_getElem hlt, List.drop_append_of_le_length (by rw [List.length_take]; omega)]
    refine ⟨rfl, (i + 1, n * 10 + (D[i].toNat - 48)), ?_, ⟨by show 2 ≤ i + 1; omega, hlt, ?_, ?_, ?_, hS⟩, by show D.length - (i + 1) < _; omega⟩
    · have E2 : IntKind.u8.wrap (byteAt (strY D) ((i : Int)).toNat - 48) = ((D[i].toNat - 48 : Nat) : Int) := by rw [hsx, wrap_u8 (by omega) (by omega)]; omega
      have E : IntKind.u32.wrap (IntKind.u32.wrap ((n : Int) * 10) + IntKind.u32.wrap (IntKind.u8.wrap (byteAt (strY D) ((i : Int)).toNat - 48))) = ((n * 10 + (D[i].toNat - 48) : Nat) : Int) := by
        rw [E2, wrap_u32 (x := ((D[i].toNat - 48 : Nat) : Int)) (by omega) (by omega), wrap_u32 (x := (n : Int) * 10) (by omega) (by omega), wrap_u32 (by omega) (by omega)]
        omega
      rw [← E, ← wi hlt (by omega)]
      rfl
    · show n * 10 + (D[i].toNat - 48) = valD 0 ((D.take (i + 1)).drop 2)
      rw [htk, valD_app, valD_one, ← hn]
    · show n * 10 + (D[i].toNat - 48) < 10 ^ (i + 1 - 2)
      rw [hp11]; omega
    · intro j hjl hj2 hji
      by_cases e : j = i
      · subst e; omega
      · exact hj j hjl hj2 (by have : j < i + 1 := hji; omega)
  have g4 : decide ((i : Int) < ((strY D).size : Int)) = false := decide_eq_false (by omega)
  have hil : i = D.length := by omega
  have hp10 : 10 ^ (i - 2) ≤ 10 ^ 5 := Nat.pow_le_pow_right (by decide) (by omega)
  have hD0 : 0 < D.length := by omega
  have hs0 := byteAt_strY hD0
  replace hs0 : byteAt (strY D) (Int.toNat 0) = (D[0].toNat : Int) := hs0
  rw [hil, List.take_length] at hn
  obtain ⟨R, hRd⟩ : ∃ R, R = IntKind.u8.wrap (byteAt (strY D) (Int.toNat 0) - 48) := ⟨_, rfl⟩
  have hRb : 0 ≤ R ∧ R ≤ 255 := by rw [hRd, wrap_u8_mod]; omega
  have hnb : (0 : Int) ≤ (n : Int) ∧ (n : Int) ≤ 4294967295 := by omega
  have hq := streq_strY (confT a R n) s
  have u := fun w => rconf_c a (by omega) R n hRb hnb w
  have hgo : (splitT s).2.2 = true → (nameB a && rightB R n) = true ∧ confT a R n = s := by
    intro h
    obtain ⟨_, _, _, h0, r, e1, e2, e3⟩ := hno2 h
    have hr8 : (r : Int) < 8 := by
      rw [Bool.and_eq_true] at e2
      have := e2.2
      simp [rightB] at this
      omega
    have : R = (r : Int) := by rw [hRd, hs0, e1, wrap_u8 (by omega) (by omega)]; omega
    rw [this, hn]
    exact ⟨e2, e3⟩
  cases hok : (nameB a && rightB R n) with
  | false =>
    have hf : (splitT s).2.2 = false := by
      cases hb : (splitT s).2.2 with
      | false => rfl
      | true => rw [(hgo hb).1] at hok; cases hok
    rw [hok] at u
    rw [splitV_false hf]
    rw [hRd] at u
    repeat ((conv => whnf); first | (apply q_i; focus (intro w1 hS; (conv => whnf); first | exact ⟨rfl, rfl⟩ | ((refine ld_f hS 0 rfl rfl ?_); (conv => whnf); exact ⟨rfl, rfl⟩) | ((refine ld_f hS 1 rfl rfl ?_); (conv => whnf); exact ⟨rfl, rfl⟩) | ((refine ldA_f hS 0 rfl rfl ?_); (conv => whnf); exact ⟨rfl, rfl⟩) | ((refine ldA_f hS 1 rfl rfl ?_); (conv => whnf); exact ⟨rfl, rfl⟩) | ((refine .mk ⟨by decide, hL1⟩ ?_; refine ix_i rfl ?_); (conv => whnf); exact ⟨rfl, rfl⟩) | ((refine .mk ⟨by decide, hL0⟩ ?_; refine ix_i rfl ?_); (conv => whnf); exact ⟨rfl, rfl⟩) | ((refine ld_el encT_len (hv.rdF hS).at (i := 1) (k := 0) l1 (by omega) rfl (v := .string (strY D)) rfl ?_); (conv => whnf); exact ⟨rfl, rfl⟩) | ((refine ld_el encT_len (hv.rdF hS).at (i := 0) (k := 0) l0 (by omega) rfl (v := .string (strY a)) rfl ?_); (conv => whnf); exact ⟨rfl, rfl⟩) | ((refine .mk ⟨by decide, by omega⟩ ?_); (conv => whnf); exact ⟨rfl, rfl⟩) | ((refine fc_m (u _) ?_; rintro v w3 ⟨rfl, hS'⟩; replace hS := hS.call0 hS'); (conv => whnf); exact ⟨rfl, rfl⟩))) | (refine nw_f hS ?_; intro b w1 hS) | (refine as_i hS ?_) | (refine as_i (hS.subs (List.nil_sublist _) (by repeat (first | exact List.Sublist.refl _ | apply List.Sublist.cons_cons | apply List.Sublist.cons))) ?_) | (refine as_i (hS.subs (List.Sublist.refl _) (by repeat (first | exact List.Sublist.refl _ | apply List.Sublist.cons_cons | apply List.Sublist.cons))) ?_) | (refine bar_f hS ?_) | (refine ld_f hS 0 rfl rfl ?_) | (refine ld_f hS 1 rfl rfl ?_) | (refine ldA_f hS 0 rfl rfl ?_) | (refine ldA_f hS 1 rfl rfl ?_) | (refine stN_f hS 0 rfl (Nat.le_of_ble_eq_true rfl) rfl rfl ?_; (conv => whnf); intro w1 hS) | (refine stN_f hS 1 rfl (Nat.le_of_ble_eq_true rfl) rfl rfl ?_; (conv => whnf); intro w1 hS) | (refine stM_f hS 0 rfl (Nat.le_of_ble_eq_true rfl) rfl ?_; (conv => whnf); intro w1 hS) | (refine stM_f hS 1 rfl (Nat.le_of_ble_eq_true rfl) rfl ?_; (conv => whnf); intro w1 hS) | (refine .mk ⟨by decide, hL1⟩ ?_; refine ix_i rfl ?_) | (refine .mk ⟨by decide, hL0⟩ ?_; refine ix_i rfl ?_) | (refine ld_el encT_len (hv.rdF hS).at (i := 1) (k := 0) l1 (by omega) rfl (v := .string (strY D)) rfl ?_) | (refine ld_el encT_len (hv.rdF hS).at (i := 0) (k := 0) l0 (by omega) rfl (v := .string (strY a)) rfl ?_) | (refine .mk ⟨by decide, by omega⟩ ?_) | (refine fc_m (u _) ?_; rintro v w3 ⟨rfl, hS'⟩; replace hS := hS.call0 hS') | (refine drawf TB_ok rfl (by kernel_rfl) (by kernel_rfl) hS (List.Sublist.refl _) (List.Sublist.refl _) ?_; intro w1 hS) | (refine br_t (by assumption) ?_) | (refine br_f (by assumption) ?_))
    exact ⟨rfl, hS.nil⟩
  | true =>
    rw [hok] at u
    by_cases hcs : confT a R n = s
    · have q2 : (!streq (strY (confT a R n)) (strY s)) = false := by rw [hq, decide_eq_true hcs]; rfl
      have hT := split_conf hok hRb.1
      rw [hcs] at hT
      have hV : splitV s = .tuple #[.string (strY a), dotV R n, .bool true] := by unfold splitV; rw [hT]
      rw [hV]
      rw [hRd] at u q2 ⊢
      repeat ((conv => whnf); first | (apply q_i; focus (intro w1 hS; (conv => whnf); first | exact ⟨rfl, rfl⟩ | ((refine ld_f hS 0 rfl rfl ?_); (conv => whnf); exact ⟨rfl, rfl⟩) | ((refine ld_f hS 1 rfl rfl ?_); (conv => whnf); exact ⟨rfl, rfl⟩) | ((refine ldA_f hS 0 rfl rfl ?_); (conv => whnf); exact ⟨rfl, rfl⟩) | ((refine ldA_f hS 1 rfl rfl ?_); (conv => whnf); exact ⟨rfl, rfl⟩) | ((refine .mk ⟨by decide, hL1⟩ ?_; refine ix_i rfl ?_); (conv => whnf); exact ⟨rfl, rfl⟩) | ((refine .mk ⟨by decide, hL0⟩ ?_; refine ix_i rfl ?_); (conv => whnf); exact ⟨rfl, rfl⟩) | ((refine ld_el encT_len (hv.rdF hS).at (i := 1) (k := 0) l1 (by omega) rfl (v := .string (strY D)) rfl ?_); (conv => whnf); exact ⟨rfl, rfl⟩) | ((refine ld_el encT_len (hv.rdF hS).at (i := 0) (k := 0) l0 (by omega) rfl (v := .string (strY a)) rfl ?_); (conv => whnf); exact ⟨rfl, rfl⟩) | ((refine .mk ⟨by decide, by omega⟩ ?_); (conv => whnf); exact ⟨rfl, rfl⟩) | ((refine fc_m (u _) ?_; rintro v w3 ⟨rfl, hS'⟩; replace hS := hS.call0 hS'); (conv => whnf); exact ⟨rfl, rfl⟩))) | (refine nw_f hS ?_; intro b w1 hS) | (refine as_i hS ?_) | (refine as_i (hS.subs (List.nil_sublist _) (by repeat (first | exact List.Sublist.refl _ | apply List.Sublist.cons_cons | apply List.Sublist.cons))) ?_) | (refine as_i (hS.subs (List.Sublist.refl _) (by repeat (first | exact List.Sublist.refl _ | apply List.Sublist.cons_cons | apply List.Sublist.cons))) ?_) | (refine bar_f hS ?_) | (refine ld_f hS 0 rfl rfl ?_) | (refine ld_f hS 1 rfl rfl ?_) | (refine ldA_f hS 0 rfl rfl ?_) | (refine ldA_f hS 1 rfl rfl ?_) | (refine stN_f hS 0 rfl (Nat.le_of_ble_eq_true rfl) rfl rfl ?_; (conv => whnf); intro w1 hS) | (refine stN_f hS 1 rfl (Nat.le_of_ble_eq_true rfl) rfl rfl ?_; (conv => whnf); intro w1 hS) | (refine stM_f hS 0 rfl (Nat.le_of_ble_eq_true rfl) rfl ?_; (conv => whnf); intro w1 hS) | (refine stM_f hS 1 rfl (Nat.le_of_ble_eq_true rfl) rfl ?_; (conv => whnf); intro w1 hS) | (refine .mk ⟨by decide, hL1⟩ ?_; refine ix_i rfl ?_) | (refine .mk ⟨by decide, hL0⟩ ?_; refine ix_i rfl ?_) | (refine ld_el encT_len (hv.rdF hS).at (i := 1) (k := 0) l1 (by omega) rfl (v := .string (strY D)) rfl ?_) | (refine ld_el encT_len (hv.rdF hS).at (i := 0) (k := 0) l0 (by omega) rfl (v := .string (strY a)) rfl ?_) | (refine .mk ⟨by decide, by omega⟩ ?_) | (refine fc_m (u _) ?_; rintro v w3 ⟨rfl, hS'⟩; replace hS := hS.call0 hS') | (refine drawf TB_ok rfl (by kernel_rfl) (by kernel_rfl) hS (List.Sublist.refl _) (List.Sublist.refl _) ?_; intro w1 hS) | (refine br_t (by assumption) ?_) | (refine br_f (by assumption) ?_))
      exact ⟨rfl, hS.nil⟩
    · have q2 : (!streq (strY (confT a R n)) (strY s)) = true := by rw [hq, decide_eq_false hcs]; rfl
      have hf : (splitT s).2.2 = false := by
        cases hb : (splitT s).2.2 with
        | false => rfl
        | true => exact absurd (hgo hb).2 hcs
      rw [splitV_false hf]
      rw [hRd] at u q2
      repeat ((conv => whnf); first | (apply q_i; focus (intro w1 hS; (conv => whnf); first | exact ⟨rfl, rfl⟩ | ((refine ld_f hS 0 rfl rfl ?_); (conv => whnf); exact ⟨rfl, rfl⟩) | ((refine ld_f hS 1 rfl rfl ?_); (conv => whnf); exact ⟨rfl, rfl⟩) | ((refine ldA_f hS 0 rfl rfl ?_); (conv => whnf); exact ⟨rfl, rfl⟩) | ((refine ldA_f hS 1 rfl rfl ?_); (conv => whnf); exact ⟨rfl, rfl⟩) | ((refine .mk ⟨by decide, hL1⟩ ?_; refine ix_i rfl ?_); (conv => whnf); exact ⟨rfl, rfl⟩) | ((refine .mk ⟨by decide, hL0⟩ ?_; refine ix_i rfl ?_); (conv => whnf); exact ⟨rfl, rfl⟩) | ((refine ld_el encT_len (hv.rdF hS).at (i := 1) (k := 0) l1 (by omega) rfl (v := .string (strY D)) rfl ?_); (conv => whnf); exact ⟨rfl, rfl⟩) | ((refine ld_el encT_len (hv.rdF hS).at (i := 0) (k := 0) l0 (by omega) rfl (v := .string (strY a)) rfl ?_); (conv => whnf); exact ⟨rfl, rfl⟩) | ((refine .mk ⟨by decide, by omega⟩ ?_); (conv => whnf); exact ⟨rfl, rfl⟩) | ((refine fc_m (u _) ?_; rintro v w3 ⟨rfl, hS'⟩; replace hS := hS.call0 hS'); (conv => whnf); exact ⟨rfl, rfl⟩))) | (refine nw_f hS ?_; intro b w1 hS) | (refine as_i hS ?_) | (refine as_i (hS.subs (List.nil_sublist _) (by repeat (first | exact List.Sublist.refl _ | apply List.Sublist.cons_cons | apply List.Sublist.cons))) ?_) | (refine as_i (hS.subs (List.Sublist.refl _) (by repeat (first | exact List.Sublist.refl _ | apply List.Sublist.cons_cons | apply List.Sublist.cons))) ?_) | (refine bar_f hS ?_) | (refine ld_f hS 0 rfl rfl ?_) | (refine ld_f hS 1 rfl rfl ?_) | (refine ldA_f hS 0 rfl rfl ?_) | (refine ldA_f hS 1 rfl rfl ?_) | (refine stN_f hS 0 rfl (Nat.le_of_ble_eq_true rfl) rfl rfl ?_; (conv => whnf); intro w1 hS) | (refine stN_f hS 1 rfl (Nat.le_of_ble_eq_true rfl) rfl rfl ?_; (conv => whnf); intro w1 hS) | (refine stM_f hS 0 rfl (Nat.le_of_ble_eq_true rfl) rfl ?_; (conv => whnf); intro w1 hS) | (refine stM_f hS 1 rfl (Nat.le_of_ble_eq_true rfl) rfl ?_; (conv => whnf); intro w1 hS) | (refine .mk ⟨by decide, hL1⟩ ?_; refine ix_i rfl ?_) | (refine .mk ⟨by decide, hL0⟩ ?_; refine ix_i rfl ?_) | (refine ld_el encT_len (hv.rdF hS).at (i := 1) (k := 0) l1 (by omega) rfl (v := .string (strY D)) rfl ?_) | (refine ld_el encT_len (hv.rdF hS).at (i := 0) (k := 0) l0 (by omega) rfl (v := .string (strY a)) rfl ?_) | (refine .mk ⟨by decide, by omega⟩ ?_) | (refine fc_m (u _) ?_; rintro v w3 ⟨rfl, hS'⟩; replace hS := hS.call0 hS') | (refine drawf TB_ok rfl (by kernel_rfl) (by kernel_rfl) hS (List.Sublist.refl _) (List.Sublist.refl _) ?_; intro w1 hS) | (refine br_t (by assumption) ?_) | (refine br_f (by assumption) ?_))
      exact ⟨rfl, hS.nil⟩
end Go.RV
