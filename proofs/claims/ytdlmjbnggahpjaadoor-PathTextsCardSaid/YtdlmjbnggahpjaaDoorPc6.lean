/- The document's Seen. Conditions: none. -/
import Derived.Test.YtdlmjbnggahpjaaDoorPc5
set_option maxRecDepth 20000
set_option linter.unusedVariables false
set_option linter.unusedSimpArgs false
namespace Go.RV
open Go Go.Proofs Go.RowKit

theorem partsC_cut (c : UInt8) : ∀ l : List UInt8, partsC c l = if (cutP c l).2.2 = true then (cutP c l).1 :: partsC c (cutP c l).2.1 else [l]
  | [] => by simp [partsC, cutP]
  | b :: r => by
    have ih := partsC_cut c r
    rw [partsC, cutP]
    by_cases h : b = c
    · rw [if_pos h, if_pos h]
      rfl
    · rw [if_neg h, if_neg h, ih]
      cases hb : (cutP c r).2.2 with
      | true => simp
      | false => simp
abbrev SeenR := Nm × (Int × Int) × Bool × Int
def seenF (R : Nm × Int × Option (List UInt8)) : SeenR := if R.2.1 ≠ 0 then ([], (0, 0), false, R.2.1) else (R.1, (seenX R.2.2).1, (seenX R.2.2).2, 0)
theorem seenT_F (p : List UInt8) : seenT p = seenF (readT 44 seenL p) := rfl
theorem goS_mid (acc : Nm) (s : List UInt8) (r : Nm) (hr : r ≠ []) : seenF (goR seenL acc (s :: r)) = if checkE s ≠ 0 then ([], (0, 0), false, checkE s) else if acc.length = 4 then ([], (0, 0), false, 3) else seenF (goR seenL (acc ++ [s]) r) := by
  have e : r.isEmpty = false := by cases r with | nil => exact absurd rfl hr | cons a b => rfl
  rw [goR]
  simp only [e, Bool.false_eq_true, if_false]
  by_cases h1 : checkE s = 0
  · by_cases h2 : acc.length = 4
    · simp [h1, h2, seenF]
    · simp [h1, h2]
  · simp [h1, seenF]
theorem goS_last (acc : Nm) (s : List UInt8) : seenF (goR seenL acc [s]) = if checkE (seenL s).1 ≠ 0 then ([], (0, 0), false, checkE (seenL s).1) else if acc.length = 4 then ([], (0, 0), false, 3) else if (seenL s).2 ≠ 0 then ([], (0, 0), false, (seenL s).2) else (acc ++ [(seenL s).1], (seenD s).1, (seenD s).2, 0) := by
  rw [goR]
  simp only [List.isEmpty_nil, if_true]
  by_cases h1 : checkE (seenL s).1 = 0
  · by_cases h2 : acc.length = 4
    · simp [h1, h2, seenF]
    · by_cases h3 : (seenL s).2 = 0
      · simp [h1, h2, h3, seenF, seenX]
      · simp [h1, h2, h3, seenF]
  · simp [h1, seenF]
set_option maxHeartbeats 4000000 in
theorem rseen_c (p : List UInt8) (hp : p.length ≤ 300) (w : World) : Fc Tryd.prog 14 [.string (strY p)] w fun v w' => ∃ A k Lv, v = .tuple #[.slice A (seenT p).1.length k, dotV (seenT p).2.1.1 (seenT p).2.1.2, .bool (seenT p).2.2.1, .int .i64 (seenT p).2.2.2] ∧
    Sl 9 1 (.slice A (seenT p).1.length k) (seenT p).1.length (flat encT (seenT p).1) Lv ∧ St [] w w' Lv := by
  refine fc_i TB_ok Tryd.func14 rfl (by kernel_rfl) ?_
  have hS := Sf.refl w
  have hz := strY_size p
  rw [seenT_F]
  by_cases h36 : 44 < p.length
  · have g1 : decide ((44 : Int) < ((strY p).size : Int)) = true := decide_eq_true (by omega)
    have e : readT 44 seenL p = ([], 3, none) := by unfold readT; rw [if_pos h36]
    rw [e]
    repeat ((conv => whnf); first | (apply q_i; focus (intro w1 hS; (conv => whnf); first | exact ⟨rfl, rfl⟩ | ((refine ld_f hS 0 rfl rfl ?_); (conv => whnf); exact ⟨rfl, rfl⟩) | ((refine ldA_f hS 0 rfl rfl ?_); (conv => whnf); exact ⟨rfl, rfl⟩))) | (refine nw_f hS ?_; intro b w1 hS) | (refine as_i hS ?_) | (refine as_i (hS.subs (List.nil_sublist _) (by repeat (first | exact List.Sublist.refl _ | apply List.Sublist.cons_cons | apply List.Sublist.cons))) ?_) | (refine as_i (hS.subs (List.Sublist.refl _) (by repeat (first | exact List.Sublist.refl _ | apply List.Sublist.cons_cons | apply List.Sublist.cons))) ?_) | (refine bar_f hS ?_) | (refine ld_f hS 0 rfl rfl ?_) | (refine ldA_f hS 0 rfl rfl ?_) | (refine stN_f hS 0 rfl (Nat.le_of_ble_eq_true rfl) rfl rfl ?_; (conv => whnf); intro w1 hS) | (refine stM_f hS 0 rfl (Nat.le_of_ble_eq_true rfl) rfl ?_; (conv => whnf); intro w1 hS) | (refine drawf TB_ok rfl (by kernel_rfl) (by kernel_rfl) hS (List.Sublist.refl _) (List.Sublist.refl _) ?_; intro w1 hS) | (refine br_t (by assumption) ?_) | (refine br_f (by assumption) ?_))
    exact ⟨none, 0, [], rfl, .nil, hS.nil⟩
  have g1 : decide ((44 : Int) < ((strY p).size : Int)) = false := decide_eq_false (by omega)
  repeat ((conv => whnf); first | (apply q_i; focus (intro w1 hS; (conv => whnf); first | exact ⟨rfl, rfl⟩ | ((refine ld_f hS 0 rfl rfl ?_); (conv => whnf); exact ⟨rfl, rfl⟩) | ((refine ldA_f hS 0 rfl rfl ?_); (conv => whnf); exact ⟨rfl, rfl⟩))) | (refine nw_f hS ?_; intro b w1 hS) | (refine as_i hS ?_) | (refine as_i (hS.subs (List.nil_sublist _) (by repeat (first | exact List.Sublist.refl _ | apply List.Sublist.cons_cons | apply List.Sublist.cons))) ?_) | (refine as_i (hS.subs (List.Sublist.refl _) (by repeat (first | exact List.Sublist.refl _ | apply List.Sublist.cons_cons | apply List.Sublist.cons))) ?_) | (refine bar_f hS ?_) | (refine ld_f hS 0 rfl rfl ?_) | (refine ldA_f hS 0 rfl rfl ?_) | (refine stN_f hS 0 rfl (Nat.le_of_ble_eq_true rfl) rfl rfl ?_; (conv => whnf); intro w1 hS) | (refine stM_f hS 0 rfl (Nat.le_of_ble_eq_true rfl) rfl ?_; (conv => whnf); intro w1 hS) | (refine drawf TB_ok rfl (by kernel_rfl) (by kernel_rfl) hS (List.Sublist.refl _) (List.Sublist.refl _) ?_; intro w1 hS) | (refine br_t (by assumption) ?_) | (refine br_f (by assumption) ?_))
  refine fc_m (cutN_c p 47 (by omega) _) ?_
  rintro v w1 ⟨A, k, Lv, rfl, hv, hS'⟩
  replace hS := hS.callF hS'
  have hpl := partsC_len 47 p
  have hpe := partsC_each 47 p
  by_cases hbad : (partsC 47 p).length < 2 ∨ (partsC 47 p)[0]? ≠ some []
  · rw [read_bad 44 seenL p h36 hbad]
    generalize partsC 47 p = ps at *
    by_cases h2 : ps.length < 2
    · have g2 : decide ((ps.length : Int) < 2) = true := decide_eq_true (by omega)
      repeat ((conv => whnf); first | (apply q_i; focus (intro w1 hS; (conv => whnf); first | exact ⟨rfl, rfl⟩ | ((refine ld_f hS 0 rfl rfl ?_); (conv => whnf); exact ⟨rfl, rfl⟩) | ((refine ldA_f hS 0 rfl rfl ?_); (conv => whnf); exact ⟨rfl, rfl⟩))) | (refine nw_f hS ?_; intro b w1 hS) | (refine as_i hS ?_) | (refine as_i (hS.subs (List.nil_sublist _) (by repeat (first | exact List.Sublist.refl _ | apply List.Sublist.cons_cons | apply List.Sublist.cons))) ?_) | (refine as_i (hS.subs (List.Sublist.refl _) (by repeat (first | exact List.Sublist.refl _ | apply List.Sublist.cons_cons | apply List.Sublist.cons))) ?_) | (refine bar_f hS ?_) | (refine ld_f hS 0 rfl rfl ?_) | (refine ldA_f hS 0 rfl rfl ?_) | (refine stN_f hS 0 rfl (Nat.le_of_ble_eq_true rfl) rfl rfl ?_; (conv => whnf); intro w1 hS) | (refine stM_f hS 0 rfl (Nat.le_of_ble_eq_true rfl) rfl ?_; (conv => whnf); intro w1 hS) | (refine drawf TB_ok rfl (by kernel_rfl) (by kernel_rfl) hS (List.Sublist.refl _) (List.Sublist.refl _) ?_; intro w1 hS) | (refine br_t (by assumption) ?_) | (refine br_f (by assumption) ?_))
      exact ⟨none, 0, [], rfl, .nil, hS.nil⟩
    have g2 : decide ((ps.length : Int) < 2) = false := decide_eq_false (by omega)
    have hlt : 0 < ps.length := by omega
    have hne : ps[0] ≠ [] := by
      rcases hbad with h | h
      · omega
      · rw [List.getElem?_eq_getElem hlt] at h
        exact fun e => h (by rw [e])
    have g3 : (!streq (strY ps[0]) ⟨#[]⟩) = true := by
      rw [show (⟨#[]⟩ : ByteArray) = strY [] from rfl, streq_strY, decide_eq_false hne]; rfl
    obtain ⟨x, off, rfl⟩ := (hv.rdF hS).form (flat_ne encT_len (by omega) hlt)
    repeat ((conv => whnf); first | (apply q_i; focus (intro w1 hS; (conv => whnf); first | exact ⟨rfl, rfl⟩ | ((refine ld_f hS 0 rfl rfl ?_); (conv => whnf); exact ⟨rfl, rfl⟩) | ((refine ldA_f hS 0 rfl rfl ?_); (conv => whnf); exact ⟨rfl, rfl⟩) | ((refine .mk ⟨by omega, by omega⟩ ?_; refine ix_i rfl ?_); (conv => whnf); exact ⟨rfl, rfl⟩) | ((refine ld_el encT_len (hv.rdF hS).at (i := 0) (k := 0) hlt (by omega) rfl (v := .string (strY ps[0])) rfl ?_); (conv => whnf); exact ⟨rfl, rfl⟩))) | (refine nw_f hS ?_; intro b w1 hS) | (refine as_i hS ?_) | (refine as_i (hS.subs (List.nil_sublist _) (by repeat (first | exact List.Sublist.refl _ | apply List.Sublist.cons_cons | apply List.Sublist.cons))) ?_) | (refine as_i (hS.subs (List.Sublist.refl _) (by repeat (first | exact List.Sublist.refl _ | apply List.Sublist.cons_cons | apply List.Sublist.cons))) ?_) | (refine bar_f hS ?_) | (refine ld_f hS 0 rfl rfl ?_) | (refine ldA_f hS 0 rfl rfl ?_) | (refine stN_f hS 0 rfl (Nat.le_of_ble_eq_true rfl) rfl rfl ?_; (conv => whnf); intro w1 hS) | (refine stM_f hS 0 rfl (Nat.le_of_ble_eq_true rfl) rfl ?_; (conv => whnf); intro w1 hS) | (refine .mk ⟨by omega, by omega⟩ ?_; refine ix_i rfl ?_) | (refine ld_el encT_len (hv.rdF hS).at (i := 0) (k := 0) hlt (by omega) rfl (v := .string (strY ps[0])) rfl ?_) | (refine drawf TB_ok rfl (by kernel_rfl) (by kernel_rfl) hS (List.Sublist.refl _) (List.Sublist.refl _) ?_; intro w1 hS) | (refine br_t (by assumption) ?_) | (refine br_f (by assumption) ?_))
    exact ⟨none, 0, [], rfl, .nil, hS.nil⟩
  obtain ⟨q, rfl, hps⟩ := read_ok p hbad
  obtain ⟨z, hz0⟩ : ∃ z : List UInt8, z = [] := ⟨_, rfl⟩
  replace hps : partsC 47 (47 :: q) = z :: partsP q := by rw [hz0]; exact hps
  rw [read_go 44 seenL q h36]
  have hz2 : (47 :: q).length = q.length + 1 := rfl
  have hq1 := streq_strY (47 :: q) [47]
  generalize partsC 47 (47 :: q) = ps0 at *
  subst hps
  clear hbad
  have hqn := List.length_pos_iff.2 (parts_ne q)
  generalize partsP q = P at *
  have hn0 : (z :: P).length = P.length + 1 := rfl
  have g2 : decide (((z :: P).length : Int) < 2) = false := decide_eq_false (by omega)
  have hlt0 : 0 < (z :: P).length := by omega
  have g3 : (!streq (strY (z :: P)[0]) ⟨#[]⟩) = false := by
    rw [show (⟨#[]⟩ : ByteArray) = strY [] from rfl, streq_strY]; simp [hz0]
  obtain ⟨x, off, rfl⟩ := (hv.rdF hS).form (flat_ne encT_len (by omega) hlt0)
  have hkl := hv.le
  by_cases hq : q = []
  · have g4 : streq (strY (47 :: q)) ⟨#[47]⟩ = true := by rw [show (⟨#[47]⟩ : ByteArray) = strY [47] from rfl, hq1, hq]; simp
    rw [if_pos hq]
    repeat ((conv => whnf); first | (apply q_i; focus (intro w1 hS; (conv => whnf); first | exact ⟨rfl, rfl⟩ | ((refine ld_f hS 0 rfl rfl ?_); (conv => whnf); exact ⟨rfl, rfl⟩) | ((refine ldA_f hS 0 rfl rfl ?_); (conv => whnf); exact ⟨rfl, rfl⟩) | ((refine .mk ⟨by omega, by omega⟩ ?_; refine ix_i rfl ?_); (conv => whnf); exact ⟨rfl, rfl⟩) | ((refine ld_el encT_len (hv.rdM hS (fun x hx => by simp [hx])).at (i := 0) (k := 0) hlt0 (by omega) rfl (v := .string (strY (z :: P)[0])) rfl ?_); (conv => whnf); exact ⟨rfl, rfl⟩))) | (refine nw_f hS ?_; intro b w1 hS) | (refine as_i hS ?_) | (refine as_i (hS.subs (List.nil_sublist _) (by repeat (first | exact List.Sublist.refl _ | apply List.Sublist.cons_cons | apply List.Sublist.cons))) ?_) | (refine as_i (hS.subs (List.Sublist.refl _) (by repeat (first | exact List.Sublist.refl _ | apply List.Sublist.cons_cons | apply List.Sublist.cons))) ?_) | (refine bar_f hS ?_) | (refine ld_f hS 0 rfl rfl ?_) | (refine ldA_f hS 0 rfl rfl ?_) | (refine stN_f hS 0 rfl (Nat.le_of_ble_eq_true rfl) rfl rfl ?_; (conv => whnf); intro w1 hS) | (refine stM_f hS 0 rfl (Nat.le_of_ble_eq_true rfl) rfl ?_; (conv => whnf); intro w1 hS) | (refine .mk ⟨by omega, by omega⟩ ?_; refine ix_i rfl ?_) | (refine ld_el encT_len (hv.rdM hS (fun x hx => by simp [hx])).at (i := 0) (k := 0) hlt0 (by omega) rfl (v := .string (strY (z :: P)[0])) rfl ?_) | (refine drawf TB_ok rfl (by kernel_rfl) (by kernel_rfl) hS (List.Sublist.refl _) (List.Sublist.refl _) ?_; intro w1 hS) | (refine br_t (by assumption) ?_) | (refine br_f (by assumption) ?_))
    exact ⟨none, 0, [], rfl, .nil, hS.nil⟩
  have g4 : streq (strY (47 :: q)) ⟨#[47]⟩ = false := by rw [show (⟨#[47]⟩ : ByteArray) = strY [47] from rfl, hq1]; simp [hq]
  rw [if_neg hq]
  generalize hT : seenF (goR seenL [] P) = T
  repeat ((conv => whnf); first | (apply q_i; focus (intro w1 hS; (conv => whnf); first | exact ⟨rfl, rfl⟩ | ((refine ld_f hS 0 rfl rfl ?_); (conv => whnf); exact ⟨rfl, rfl⟩) | ((refine ld_f hS 1 rfl rfl ?_); (conv => whnf); exact ⟨rfl, rfl⟩) | ((refine ldA_f hS 0 rfl rfl ?_); (conv => whnf); exact ⟨rfl, rfl⟩) | ((refine ldA_f hS 1 rfl rfl ?_); (conv => whnf); exact ⟨rfl, rfl⟩) | ((refine .mk ⟨by omega, by omega⟩ ?_; refine ix_i rfl ?_); (conv => whnf); exact ⟨rfl, rfl⟩) | ((refine ld_el encT_len (hv.rdM hS (fun x hx => by simp [hx])).at (i := 0) (k := 0) hlt0 (by omega) rfl (v := .string (strY (z :: P)[0])) rfl ?_); (conv => whnf); exact ⟨rfl, rfl⟩))) | (refine nw_f hS ?_; intro b w1 hS) | (refine as_i hS ?_) | (refine as_i (hS.subs (List.nil_sublist _) (by repeat (first | exact List.Sublist.refl _ | apply List.Sublist.cons_cons | apply List.Sublist.cons))) ?_) | (refine as_i (hS.subs (List.Sublist.refl _) (by repeat (first | exact List.Sublist.refl _ | apply List.Sublist.cons_cons | apply List.Sublist.cons))) ?_) | (refine bar_f hS ?_) | (refine ld_f hS 0 rfl rfl ?_) | (refine ld_f hS 1 rfl rfl ?_) | (refine ldA_f hS 0 rfl rfl ?_) | (refine ldA_f hS 1 rfl rfl ?_) | (refine stN_f hS 0 rfl (Nat.le_of_ble_eq_true rfl) rfl rfl ?_; (conv => whnf); intro w1 hS) | (refine stN_f hS 1 rfl (Nat.le_of_ble_eq_true rfl) rfl rfl ?_; (conv => whnf); intro w1 hS) | (refine stM_f hS 0 rfl (Nat.le_of_ble_eq_true rfl) rfl ?_; (conv => whnf); intro w1 hS) | (refine stM_f hS 1 rfl (Nat.le_of_ble_eq_true rfl) rfl ?_; (conv => whnf); intro w1 hS) | (refine .mk ⟨by omega, by omega⟩ ?_; refine ix_i rfl ?_) | (refine ld_el encT_len (hv.rdM hS (fun x hx => by simp [hx])).at (i := 0) (k := 0) hlt0 (by omega) rfl (v := .string (strY (z :: P)[0])) rfl ?_) | (refine drawf TB_ok rfl (by kernel_rfl) (by kernel_rfl) hS (List.Sublist.refl _) (List.Sublist.refl _) ?_; intro w1 hS) | (refine br_t (by assumption) ?_) | (refine br_f (by assumption) ?_))
  replace hS : Sf [] w _ ([] ++ (Lv ++ [])) _ := hS
  refine loop_i TB_ok (fun t : Nat × Nm × Value × (Int × Int) × Bool => [(7, t.2.2.1), (9, .bool t.2.2.2.2), (10, .int .i64 ((t.1 + 1 : Nat) : Int))]) (fun t w' => t.1 ≤ P.length ∧ t.1 ≤ 4 ∧ ((t.1 < P.length ∧ t.2.1 = P.take t.1 ∧ t.2.2.2.1 = (0, 0) ∧ t.2.2.2.2 = false ∧ seenF (goR seenL (P.take t.1) (P.drop t.1)) = T) ∨ (t.1 = P.length ∧ T = (t.2.1, t.2.2.2.1, t.2.2.2.2, 0))) ∧ ∃ Lo, Sl 9 1 t.2.2.1 t.2.1.length (flat encT t.2.1) Lo ∧ Sf [] w w' (Lo ++ (Lv ++ [])) [(_, .cells #[.int .u8 t.2.2.2.1.1, .int .u32 t.2.2.2.1.2] 34 (0, 0)), _]) (fun t => P.length - t.1) (0, [], .slice none 0 0, (0, 0), false) rfl ⟨Nat.zero_le _, Nat.zero_le _, .inl ⟨hqn, rfl, rfl, rfl, hT⟩, [], .nil, hS⟩ ?_
  clear hS
  rintro ⟨j, o, ov, d, is⟩ us w2 ⟨hj, hj4, hI, Lo, hvo, hS⟩
  simp only at hj hj4 hI hvo hS ⊢
  obtain ⟨Ao, co, rfl, hvo⟩ := hvo.open
  by_cases hlt : j < P.length
  case neg =>
    have g5 : decide (((j + 1 : Nat) : Int) < ((z :: P).length : Int)) = false := decide_eq_false (by omega)
    obtain ⟨h, _⟩ | ⟨_, hTe⟩ := hI
    · omega
    rw [hTe]
    repeat ((conv => whnf); first | (apply q_i; focus (intro w1 hS; (conv => whnf); first | exact ⟨rfl, rfl⟩ | ((refine ld_f hS 0 rfl rfl ?_); (conv => whnf); exact ⟨rfl, rfl⟩) | ((refine ld_f hS 1 rfl rfl ?_); (conv => whnf); exact ⟨rfl, rfl⟩) | ((refine ldA_f hS 0 rfl rfl ?_); (conv => whnf); exact ⟨rfl, rfl⟩) | ((refine ldA_f hS 1 rfl rfl ?_); (conv => whnf); exact ⟨rfl, rfl⟩))) | (refine nw_f hS ?_; intro b w1 hS) | (refine as_i hS ?_) | (refine as_i (hS.subs (List.nil_sublist _) (by repeat (first | exact List.Sublist.refl _ | apply List.Sublist.cons_cons | apply List.Sublist.cons))) ?_) | (refine as_i (hS.subs (List.Sublist.refl _) (by repeat (first | exact List.Sublist.refl _ | apply List.Sublist.cons_cons | apply List.Sublist.cons))) ?_) | (refine bar_f hS ?_) | (refine ld_f hS 0 rfl rfl ?_) | (refine ld_f hS 1 rfl rfl ?_) | (refine ldA_f hS 0 rfl rfl ?_) | (refine ldA_f hS 1 rfl rfl ?_) | (refine stN_f hS 0 rfl (Nat.le_of_ble_eq_true rfl) rfl rfl ?_; (conv => whnf); intro w1 hS) | (refine stN_f hS 1 rfl (Nat.le_of_ble_eq_true rfl) rfl rfl ?_; (conv => whnf); intro w1 hS) | (refine stM_f hS 0 rfl (Nat.le_of_ble_eq_true rfl) rfl ?_; (conv => whnf); intro w1 hS) | (refine stM_f hS 1 rfl (Nat.le_of_ble_eq_true rfl) rfl ?_; (conv => whnf); intro w1 hS) | (refine drawf TB_ok rfl (by kernel_rfl) (by kernel_rfl) hS (List.Sublist.refl _) (List.Sublist.refl _) ?_; intro w1 hS) | (refine br_t (by assumption) ?_) | (refine br_f (by assumption) ?_))
    exact ⟨_, _, Lo, rfl, hvo, by simpa using hS.fr (List.sublist_append_left _ _)⟩
  obtain ⟨_, rfl, rfl, rfl, hG⟩ | ⟨h, _⟩ := hI
  case inr => omega
  have hol : (P.take j).length = j := by rw [List.length_take]; omega
  have g5 : decide (((j + 1 : Nat) : Int) < ((z :: P).length : Int)) = true := decide_eq_true (by omega)
  have hlt1 : j + 1 < (z :: P).length := by omega
  have hdr : P.drop j = P[j] :: P.drop (j + 1) := List.drop_eq_getElem_cons hlt
  have hee : P[j].length ≤ 300 := by have := hpe P[j] (List.mem_cons_of_mem _ (List.getElem_mem hlt)); omega
  have hw : IntKind.i64.wrap (((z :: P).length : Int) - 1) = (P.length : Int) := by rw [wrap_i64 (by omega) (by omega), hn0]; omega
  rw [hdr] at hG
  by_cases hl : j + 1 = P.length
  case neg =>
    have g6 : (((j + 1 : Nat) : Int) == IntKind.i64.wrap (((z :: P).length : Int) - 1)) = false := by rw [hw, beq_eq_false_iff_ne]; omega
    have hr : P.drop (j + 1) ≠ [] := fun e => by have := congrArg List.length e; rw [List.length_drop] at this; simp only [List.length_nil] at this; omega
    rw [goS_mid _ _ _ hr, hol] at hG
    repeat ((conv => whnf); first | (apply q_i; focus (intro w1 hS; (conv => whnf); first | exact ⟨rfl, rfl⟩ | ((refine ld_f hS 0 rfl rfl ?_); (conv => whnf); exact ⟨rfl, rfl⟩) | ((refine ld_f hS 1 rfl rfl ?_); (conv => whnf); exact ⟨rfl, rfl⟩) | ((refine ldA_f hS 0 rfl rfl ?_); (conv => whnf); exact ⟨rfl, rfl⟩) | ((refine ldA_f hS 1 rfl rfl ?_); (conv => whnf); exact ⟨rfl, rfl⟩) | ((refine .mk ⟨by omega, by omega⟩ ?_; refine ix_i rfl ?_); (conv => whnf); exact ⟨rfl, rfl⟩) | ((refine ld_el encT_len (hv.rdM hS (fun x hx => by simp [hx])).at (i := j + 1) (k := 0) hlt1 (by omega) rfl (v := .string (strY P[j])) rfl ?_); (conv => whnf); exact ⟨rfl, rfl⟩))) | (refine nw_f hS ?_; intro b w1 hS) | (refine as_i hS ?_) | (refine as_i (hS.subs (List.nil_sublist _) (by repeat (first | exact List.Sublist.refl _ | apply List.Sublist.cons_cons | apply List.Sublist.cons))) ?_) | (refine as_i (hS.subs (List.Sublist.refl _) (by repeat (first | exact List.Sublist.refl _ | apply List.Sublist.cons_cons | apply List.Sublist.cons))) ?_) | (refine bar_f hS ?_) | (refine ld_f hS 0 rfl rfl ?_) | (refine ld_f hS 1 rfl rfl ?_) | (refine ldA_f hS 0 rfl rfl ?_) | (refine ldA_f hS 1 rfl rfl ?_) | (refine stN_f hS 0 rfl (Nat.le_of_ble_eq_true rfl) rfl rfl ?_; (conv => whnf); intro w1 hS) | (refine stN_f hS 1 rfl (Nat.le_of_ble_eq_true rfl) rfl rfl ?_; (conv => whnf); intro w1 hS) | (refine stM_f hS 0 rfl (Nat.le_of_ble_eq_true rfl) rfl ?_; (conv => whnf); intro w1 hS) | (refine stM_f hS 1 rfl (Nat.le_of_ble_eq_true rfl) rfl ?_; (conv => whnf); intro w1 hS) | (refine .mk ⟨by omega, by omega⟩ ?_; refine ix_i rfl ?_) | (refine ld_el encT_len (hv.rdM hS (fun x hx => by simp [hx])).at (i := j + 1) (k := 0) hlt1 (by omega) rfl (v := .string (strY P[j])) rfl ?_) | (refine drawf TB_ok rfl (by kernel_rfl) (by kernel_rfl) hS (List.Sublist.refl _) (List.Sublist.refl _) ?_; intro w1 hS) | (refine br_t (by assumption) ?_) | (refine br_f (by assumption) ?_))
    refine fc_m (rcheck_c P[j] (by omega) _) ?_
    rintro v w3 ⟨rfl, hS'⟩
    replace hS := hS.call0 hS'
    by_cases hc : checkE P[j] = 0
    · have g7 : (checkE P[j] != 0) = false := by simp [hc]
      rw [if_neg (by simp [hc])] at hG
      by_cases h4 : j = 4
      · have g8 : decide ((4 : Int) < ((j + 1 : Nat) : Int)) = true := decide_eq_true (by omega)
        rw [if_pos h4] at hG
        rw [← hG]
        repeat ((conv => whnf); first | (apply q_i; focus (intro w1 hS; (conv => whnf); first | exact ⟨rfl, rfl⟩ | ((refine ld_f hS 0 rfl rfl ?_); (conv => whnf); exact ⟨rfl, rfl⟩) | ((refine ld_f hS 1 rfl rfl ?_); (conv => whnf); exact ⟨rfl, rfl⟩) | ((refine ldA_f hS 0 rfl rfl ?_); (conv => whnf); exact ⟨rfl, rfl⟩) | ((refine ldA_f hS 1 rfl rfl ?_); (conv => whnf); exact ⟨rfl, rfl⟩))) | (refine nw_f hS ?_; intro b w1 hS) | (refine as_i hS ?_) | (refine as_i (hS.subs (List.nil_sublist _) (by repeat (first | exact List.Sublist.refl _ | apply List.Sublist.cons_cons | apply List.Sublist.cons))) ?_) | (refine as_i (hS.subs (List.Sublist.refl _) (by repeat (first | exact List.Sublist.refl _ | apply List.Sublist.cons_cons | apply List.Sublist.cons))) ?_) | (refine bar_f hS ?_) | (refine ld_f hS 0 rfl rfl ?_) | (refine ld_f hS 1 rfl rfl ?_) | (refine ldA_f hS 0 rfl rfl ?_) | (refine ldA_f hS 1 rfl rfl ?_) | (refine stN_f hS 0 rfl (Nat.le_of_ble_eq_true rfl) rfl rfl ?_; (conv => whnf); intro w1 hS) | (refine stN_f hS 1 rfl (Nat.le_of_ble_eq_true rfl) rfl rfl ?_; (conv => whnf); intro w1 hS) | (refine stM_f hS 0 rfl (Nat.le_of_ble_eq_true rfl) rfl ?_; (conv => whnf); intro w1 hS) | (refine stM_f hS 1 rfl (Nat.le_of_ble_eq_true rfl) rfl ?_; (conv => whnf); intro w1 hS) | (refine drawf TB_ok rfl (by kernel_rfl) (by kernel_rfl) hS (List.Sublist.refl _) (List.Sublist.refl _) ?_; intro w1 hS) | (refine br_t (by assumption) ?_) | (refine br_f (by assumption) ?_))
        exact ⟨none, 0, [], rfl, .nil, hS.nil⟩
      · have g8 : decide ((4 : Int) < ((j + 1 : Nat) : Int)) = false := decide_eq_false (by omega)
        rw [if_neg h4] at hG
        have htk : P.take j ++ [P[j]] = P.take (j + 1) := (List.take_succ_eq_append_getElem hlt).symm
        rw [htk] at hG
        repeat ((conv => whnf); first | (apply q_i; focus (intro w1 hS; (conv => whnf); first | exact ⟨rfl, rfl⟩ | ((refine ld_f hS 0 rfl rfl ?_); (conv => whnf); exact ⟨rfl, rfl⟩) | ((refine ld_f hS 1 rfl rfl ?_); (conv => whnf); exact ⟨rfl, rfl⟩) | ((refine ldA_f hS 0 rfl rfl ?_); (conv => whnf); exact ⟨rfl, rfl⟩) | ((refine ldA_f hS 1 rfl rfl ?_); (conv => whnf); exact ⟨rfl, rfl⟩))) | (refine nw_f hS ?_; intro b w1 hS) | (refine as_i hS ?_) | (refine as_i (hS.subs (List.nil_sublist _) (by repeat (first | exact List.Sublist.refl _ | apply List.Sublist.cons_cons | apply List.Sublist.cons))) ?_) | (refine as_i (hS.subs (List.Sublist.refl _) (by repeat (first | exact List.Sublist.refl _ | apply List.Sublist.cons_cons | apply List.Sublist.cons))) ?_) | (refine bar_f hS ?_) | (refine ld_f hS 0 rfl rfl ?_) | (refine ld_f hS 1 rfl rfl ?_) | (refine ldA_f hS 0 rfl rfl ?_) | (refine ldA_f hS 1 rfl rfl ?_) | (refine stN_f hS 0 rfl (Nat.le_of_ble_eq_true rfl) rfl rfl ?_; (conv => whnf); intro w1 hS) | (refine stN_f hS 1 rfl (Nat.le_of_ble_eq_true rfl) rfl rfl ?_; (conv => whnf); intro w1 hS) | (refine stM_f hS 0 rfl (Nat.le_of_ble_eq_true rfl) rfl ?_; (conv => whnf); intro w1 hS) | (refine stM_f hS 1 rfl (Nat.le_of_ble_eq_true rfl) rfl ?_; (conv => whnf); intro w1 hS) | (refine drawf TB_ok rfl (by kernel_rfl) (by kernel_rfl) hS (List.Sublist.refl _) (List.Sublist.refl _) ?_; intro w1 hS) | (refine br_t (by assumption) ?_) | (refine br_f (by assumption) ?_))
        (conv => whnf)
        refine app_f TB_ok elStr hS hvo (show Rd _ _ (flat encT [P[j]]) from hS.rd 0 rfl) (flatT_len _) (flatT_one _) (by simp only [List.length_singleton]; omega) (by simp only [List.length_singleton]; omega) ?_
        intro v' Lo' w6 hv' hS
        obtain ⟨A3, c3, rfl, hv'⟩ := hv'.open
        repeat ((conv => whnf); first | (apply q_i; focus (intro w1 hS; (conv => whnf); first | exact ⟨rfl, rfl⟩ | ((refine ld_f hS 0 rfl rfl ?_); (conv => whnf); exact ⟨rfl, rfl⟩) | ((refine ld_f hS 1 rfl rfl ?_); (conv => whnf); exact ⟨rfl, rfl⟩) | ((refine ldA_f hS 0 rfl rfl ?_); (conv => whnf); exact ⟨rfl, rfl⟩) | ((refine ldA_f hS 1 rfl rfl ?_); (conv => whnf); exact ⟨rfl, rfl⟩))) | (refine nw_f hS ?_; intro b w1 hS) | (refine as_i hS ?_) | (refine as_i (hS.subs (List.nil_sublist _) (by repeat (first | exact List.Sublist.refl _ | apply List.Sublist.cons_cons | apply List.Sublist.cons))) ?_) | (refine as_i (hS.subs (List.Sublist.refl _) (by repeat (first | exact List.Sublist.refl _ | apply List.Sublist.cons_cons | apply List.Sublist.cons))) ?_) | (refine bar_f hS ?_) | (refine ld_f hS 0 rfl rfl ?_) | (refine ld_f hS 1 rfl rfl ?_) | (refine ldA_f hS 0 rfl rfl ?_) | (refine ldA_f hS 1 rfl rfl ?_) | (refine stN_f hS 0 rfl (Nat.le_of_ble_eq_true rfl) rfl rfl ?_; (conv => whnf); intro w1 hS) | (refine stN_f hS 1 rfl (Nat.le_of_ble_eq_true rfl) rfl rfl ?_; (conv => whnf); intro w1 hS) | (refine stM_f hS 0 rfl (Nat.le_of_ble_eq_true rfl) rfl ?_; (conv => whnf); intro w1 hS) | (refine stM_f hS 1 rfl (Nat.le_of_ble_eq_true rfl) rfl ?_; (conv => whnf); intro w1 hS) | (refine drawf TB_ok rfl (by kernel_rfl) (by kernel_rfl) hS (List.Sublist.refl _) (List.Sublist.refl _) ?_; intro w1 hS) | (refine br_t (by assumption) ?_) | (refine br_f (by assumption) ?_))
        refine ⟨rfl, (j + 1, P.take (j + 1), .slice A3 ((P.take j).length + 1) c3, (0, 0), false), ?_, ⟨by show j + 1 ≤ _; omega, by show j + 1 ≤ 4; omega, .inl ⟨by show j + 1 < _; omega, rfl, rfl, rfl, hG⟩, Lo', ?_, hS.subs (List.Sublist.refl _) (.cons _ (.refl _))⟩, by show P.length - (j + 1) < _; omega⟩
        · rw [wi (n := 1001) (by omega) (by omega)]
          rfl
        · simp only
          rw [← htk, List.length_append, flat_append]
          exact hv'
    · have g7 : (checkE P[j] != 0) = true := by simp [hc]
      rw [if_pos hc] at hG
      rw [← hG]
      repeat ((conv => whnf); first | (apply q_i; focus (intro w1 hS; (conv => whnf); first | exact ⟨rfl, rfl⟩ | ((refine ld_f hS 0 rfl rfl ?_); (conv => whnf); exact ⟨rfl, rfl⟩) | ((refine ld_f hS 1 rfl rfl ?_); (conv => whnf); exact ⟨rfl, rfl⟩) | ((refine ldA_f hS 0 rfl rfl ?_); (conv => whnf); exact ⟨rfl, rfl⟩) | ((refine ldA_f hS 1 rfl rfl ?_); (conv => whnf); exact ⟨rfl, rfl⟩))) | (refine nw_f hS ?_; intro b w1 hS) | (refine as_i hS ?_) | (refine as_i (hS.subs (List.nil_sublist _) (by repeat (first | exact List.Sublist.refl _ | apply List.Sublist.cons_cons | apply List.Sublist.cons))) ?_) | (refine as_i (hS.subs (List.Sublist.refl _) (by repeat (first | exact List.Sublist.refl _ | apply List.Sublist.cons_cons | apply List.Sublist.cons))) ?_) | (refine bar_f hS ?_) | (refine ld_f hS 0 rfl rfl ?_) | (refine ld_f hS 1 rfl rfl ?_) | (refine ldA_f hS 0 rfl rfl ?_) | (refine ldA_f hS 1 rfl rfl ?_) | (refine stN_f hS 0 rfl (Nat.le_of_ble_eq_true rfl) rfl rfl ?_; (conv => whnf); intro w1 hS) | (refine stN_f hS 1 rfl (Nat.le_of_ble_eq_true rfl) rfl rfl ?_; (conv => whnf); intro w1 hS) | (refine stM_f hS 0 rfl (Nat.le_of_ble_eq_true rfl) rfl ?_; (conv => whnf); intro w1 hS) | (refine stM_f hS 1 rfl (Nat.le_of_ble_eq_true rfl) rfl ?_; (conv => whnf); intro w1 hS) | (refine drawf TB_ok rfl (by kernel_rfl) (by kernel_rfl) hS (List.Sublist.refl _) (List.Sublist.refl _) ?_; intro w1 hS) | (refine br_t (by assumption) ?_) | (refine br_f (by assumption) ?_))
      exact ⟨none, 0, [], rfl, .nil, hS.nil⟩
  have g6 : (((j + 1 : Nat) : Int) == IntKind.i64.wrap (((z :: P).length : Int) - 1)) = true := by rw [hw, beq_iff_eq]; omega
  have hdn : P.drop (j + 1) = [] := List.drop_of_length_le (by omega)
  rw [hdn, goS_last, hol] at hG
  repeat ((conv => whnf); first | (apply q_i; focus (intro w1 hS; (conv => whnf); first | exact ⟨rfl, rfl⟩ | ((refine ld_f hS 0 rfl rfl ?_); (conv => whnf); exact ⟨rfl, rfl⟩) | ((refine ld_f hS 1 rfl rfl ?_); (conv => whnf); exact ⟨rfl, rfl⟩) | ((refine ldA_f hS 0 rfl rfl ?_); (conv => whnf); exact ⟨rfl, rfl⟩) | ((refine ldA_f hS 1 rfl rfl ?_); (conv => whnf); exact ⟨rfl, rfl⟩) | ((refine .mk ⟨by omega, by omega⟩ ?_; refine ix_i rfl ?_); (conv => whnf); exact ⟨rfl, rfl⟩) | ((refine ld_el encT_len (hv.rdM hS (fun x hx => by simp [hx])).at (i := j + 1) (k := 0) hlt1 (by omega) rfl (v := .string (strY P[j])) rfl ?_); (conv => whnf); exact ⟨rfl, rfl⟩))) | (refine nw_f hS ?_; intro b w1 hS) | (refine as_i hS ?_) | (refine as_i (hS.subs (List.nil_sublist _) (by repeat (first | exact List.Sublist.refl _ | apply List.Sublist.cons_cons | apply List.Sublist.cons))) ?_) | (refine as_i (hS.subs (List.Sublist.refl _) (by repeat (first | exact List.Sublist.refl _ | apply List.Sublist.cons_cons | apply List.Sublist.cons))) ?_) | (refine bar_f hS ?_) | (refine ld_f hS 0 rfl rfl ?_) | (refine ld_f hS 1 rfl rfl ?_) | (refine ldA_f hS 0 rfl rfl ?_) | (refine ldA_f hS 1 rfl rfl ?_) | (refine stN_f hS 0 rfl (Nat.le_of_ble_eq_true rfl) rfl rfl ?_; (conv => whnf); intro w1 hS) | (refine stN_f hS 1 rfl (Nat.le_of_ble_eq_true rfl) rfl rfl ?_; (conv => whnf); intro w1 hS) | (refine stM_f hS 0 rfl (Nat.le_of_ble_eq_true rfl) rfl ?_; (conv => whnf); intro w1 hS) | (refine stM_f hS 1 rfl (Nat.le_of_ble_eq_true rfl) rfl ?_; (conv => whnf); intro w1 hS) | (refine .mk ⟨by omega, by omega⟩ ?_; refine ix_i rfl ?_) | (refine ld_el encT_len (hv.rdM hS (fun x hx => by simp [hx])).at (i := j + 1) (k := 0) hlt1 (by omega) rfl (v := .string (strY P[j])) rfl ?_) | (refine drawf TB_ok rfl (by kernel_rfl) (by kernel_rfl) hS (List.Sublist.refl _) (List.Sublist.refl _) ?_; intro w1 hS) | (refine br_t (by assumption) ?_) | (refine br_f (by assumption) ?_))
  refine fc_m (cutN_c P[j] 126 (by omega) _) ?_
  rintro v w3 ⟨Ak, kk, Lk, rfl, hvk, hS'⟩
  replace hS := hS.callF hS'
  have hcut := partsC_cut 126 P[j]
  have hkp := List.length_pos_iff.2 (partsC_ne 126 P[j])
  have hkl := partsC_len 126 P[j]
  have hke := partsC_each 126 P[j]
  have hK0 : (partsC 126 P[j])[0] = (seenL P[j]).1 := by
    have h1 : (partsC 126 P[j])[0]? = some (seenL P[j]).1 := by
      rw [hcut]
      unfold seenL
      cases hb : (cutP 126 P[j]).2.2 with
      | false => simp
      | true => cases hs : (splitT P[j]).2.2 <;> simp
    rw [List.getElem?_eq_getElem hkp] at h1
    exact Option.some.inj h1
  have hKt : decide ((1 : Int) < ((partsC 126 P[j]).length : Int)) = (cutP 126 P[j]).2.2 := by
    rw [hcut]
    cases hb : (cutP 126 P[j]).2.2 with
    | false => simp
    | true =>
      have := List.length_pos_iff.2 (partsC_ne 126 (cutP 126 P[j]).2.1)
      rw [decide_eq_true]
      simp
      omega
  rw [← hK0] at hG
  clear hcut hK0
  generalize partsC 126 P[j] = K at *
  have hk0l : K[0].length ≤ 301 := by have := hke K[0] (List.getElem_mem _); omega
  obtain ⟨xk, offk, rfl⟩ := (hvk.rdF hS).form (flat_ne encT_len (by omega) hkp)
  repeat ((conv => whnf); first | (apply q_i; focus (intro w1 hS; (conv => whnf); first | exact ⟨rfl, rfl⟩ | ((refine ld_f hS 0 rfl rfl ?_); (conv => whnf); exact ⟨rfl, rfl⟩) | ((refine ld_f hS 1 rfl rfl ?_); (conv => whnf); exact ⟨rfl, rfl⟩) | ((refine ldA_f hS 0 rfl rfl ?_); (conv => whnf); exact ⟨rfl, rfl⟩) | ((refine ldA_f hS 1 rfl rfl ?_); (conv => whnf); exact ⟨rfl, rfl⟩) | ((refine .mk ⟨by omega, by omega⟩ ?_; refine ix_i rfl ?_); (conv => whnf); exact ⟨rfl, rfl⟩) | ((refine ld_el encT_len (hvk.rdM hS (fun x hx => by simp [hx])).at (i := 0) (k := 0) hkp (by omega) rfl (v := .string (strY K[0])) rfl ?_); (conv => whnf); exact ⟨rfl, rfl⟩))) | (refine nw_f hS ?_; intro b w1 hS) | (refine as_i hS ?_) | (refine as_i (hS.subs (List.nil_sublist _) (by repeat (first | exact List.Sublist.refl _ | apply List.Sublist.cons_cons | apply List.Sublist.cons))) ?_) | (refine as_i (hS.subs (List.Sublist.refl _) (by repeat (first | exact List.Sublist.refl _ | apply List.Sublist.cons_cons | apply List.Sublist.cons))) ?_) | (refine bar_f hS ?_) | (refine ld_f hS 0 rfl rfl ?_) | (refine ld_f hS 1 rfl rfl ?_) | (refine ldA_f hS 0 rfl rfl ?_) | (refine ldA_f hS 1 rfl rfl ?_) | (refine stN_f hS 0 rfl (Nat.le_of_ble_eq_true rfl) rfl rfl ?_; (conv => whnf); intro w1 hS) | (refine stN_f hS 1 rfl (Nat.le_of_ble_eq_true rfl) rfl rfl ?_; (conv => whnf); intro w1 hS) | (refine stM_f hS 0 rfl (Nat.le_of_ble_eq_true rfl) rfl ?_; (conv => whnf); intro w1 hS) | (refine stM_f hS 1 rfl (Nat.le_of_ble_eq_true rfl) rfl ?_; (conv => whnf); intro w1 hS) | (refine .mk ⟨by omega, by omega⟩ ?_; refine ix_i rfl ?_) | (refine ld_el encT_len (hvk.rdM hS (fun x hx => by simp [hx])).at (i := 0) (k := 0) hkp (by omega) rfl (v := .string (strY K[0])) rfl ?_) | (refine drawf TB_ok rfl (by kernel_rfl) (by kernel_rfl) hS (List.Sublist.refl _) (List.Sublist.refl _) ?_; intro w1 hS) | (refine br_t (by assumption) ?_) | (refine br_f (by assumption) ?_))
  refine fc_m (rcheck_c K[0] (by omega) _) ?_
  rintro v w4 ⟨rfl, hS'⟩
  replace hS := hS.call0 hS'
  by_cases hc : checkE K[0] = 0
  case neg =>
    have g7 : (checkE K[0] != 0) = true := by simp [hc]
    rw [if_pos hc] at hG
    rw [← hG]
    repeat ((conv => whnf); first | (apply q_i; focus (intro w1 hS; (conv => whnf); first | exact ⟨rfl, rfl⟩ | ((refine ld_f hS 0 rfl rfl ?_); (conv => whnf); exact ⟨rfl, rfl⟩) | ((refine ld_f hS 1 rfl rfl ?_); (conv => whnf); exact ⟨rfl, rfl⟩) | ((refine ldA_f hS 0 rfl rfl ?_); (conv => whnf); exact ⟨rfl, rfl⟩) | ((refine ldA_f hS 1 rfl rfl ?_); (conv => whnf); exact ⟨rfl, rfl⟩))) | (refine nw_f hS ?_; intro b w1 hS) | (refine as_i hS ?_) | (refine as_i (hS.subs (List.nil_sublist _) (by repeat (first | exact List.Sublist.refl _ | apply List.Sublist.cons_cons | apply List.Sublist.cons))) ?_) | (refine as_i (hS.subs (List.Sublist.refl _) (by repeat (first | exact List.Sublist.refl _ | apply List.Sublist.cons_cons | apply List.Sublist.cons))) ?_) | (refine bar_f hS ?_) | (refine ld_f hS 0 rfl rfl ?_) | (refine ld_f hS 1 rfl rfl ?_) | (refine ldA_f hS 0 rfl rfl ?_) | (refine ldA_f hS 1 rfl rfl ?_) | (refine stN_f hS 0 rfl (Nat.le_of_ble_eq_true rfl) rfl rfl ?_; (conv => whnf); intro w1 hS) | (refine stN_f hS 1 rfl (Nat.le_of_ble_eq_true rfl) rfl rfl ?_; (conv => whnf); intro w1 hS) | (refine stM_f hS 0 rfl (Nat.le_of_ble_eq_true rfl) rfl ?_; (conv => whnf); intro w1 hS) | (refine stM_f hS 1 rfl (Nat.le_of_ble_eq_true rfl) rfl ?_; (conv => whnf); intro w1 hS) | (refine drawf TB_ok rfl (by kernel_rfl) (by kernel_rfl) hS (List.Sublist.refl _) (List.Sublist.refl _) ?_; intro w1 hS) | (refine br_t (by assumption) ?_) | (refine br_f (by assumption) ?_))
    exact ⟨none, 0, [], rfl, .nil, hS.nil⟩
  have g7 : (checkE K[0] != 0) = false := by simp [hc]
  rw [if_neg (by simp [hc])] at hG
  by_cases h4 : j = 4
  · have g8 : decide ((4 : Int) < ((j + 1 : Nat) : Int)) = true := decide_eq_true (by omega)
    rw [if_pos h4] at hG
    rw [← hG]
    repeat ((conv => whnf); first | (apply q_i; focus (intro w1 hS; (conv => whnf); first | exact ⟨rfl, rfl⟩ | ((refine ld_f hS 0 rfl rfl ?_); (conv => whnf); exact ⟨rfl, rfl⟩) | ((refine ld_f hS 1 rfl rfl ?_); (conv => whnf); exact ⟨rfl, rfl⟩) | ((refine ldA_f hS 0 rfl rfl ?_); (conv => whnf); exact ⟨rfl, rfl⟩) | ((refine ldA_f hS 1 rfl rfl ?_); (conv => whnf); exact ⟨rfl, rfl⟩))) | (refine nw_f hS ?_; intro b w1 hS) | (refine as_i hS ?_) | (refine as_i (hS.subs (List.nil_sublist _) (by repeat (first | exact List.Sublist.refl _ | apply List.Sublist.cons_cons | apply List.Sublist.cons))) ?_) | (refine as_i (hS.subs (List.Sublist.refl _) (by repeat (first | exact List.Sublist.refl _ | apply List.Sublist.cons_cons | apply List.Sublist.cons))) ?_) | (refine bar_f hS ?_) | (refine ld_f hS 0 rfl rfl ?_) | (refine ld_f hS 1 rfl rfl ?_) | (refine ldA_f hS 0 rfl rfl ?_) | (refine ldA_f hS 1 rfl rfl ?_) | (refine stN_f hS 0 rfl (Nat.le_of_ble_eq_true rfl) rfl rfl ?_; (conv => whnf); intro w1 hS) | (refine stN_f hS 1 rfl (Nat.le_of_ble_eq_true rfl) rfl rfl ?_; (conv => whnf); intro w1 hS) | (refine stM_f hS 0 rfl (Nat.le_of_ble_eq_true rfl) rfl ?_; (conv => whnf); intro w1 hS) | (refine stM_f hS 1 rfl (Nat.le_of_ble_eq_true rfl) rfl ?_; (conv => whnf); intro w1 hS) | (refine drawf TB_ok rfl (by kernel_rfl) (by kernel_rfl) hS (List.Sublist.refl _) (List.Sublist.refl _) ?_; intro w1 hS) | (refine br_t (by assumption) ?_) | (refine br_f (by assumption) ?_))
    exact ⟨none, 0, [], rfl, .nil, hS.nil⟩
  have g8 : decide ((4 : Int) < ((j + 1 : Nat) : Int)) = false := decide_eq_false (by omega)
  rw [if_neg h4] at hG
  cases htl : (cutP 126 P[j]).2.2 with
  | false =>
      rw [htl] at hKt
      have hsl : (seenL P[j]).2 = 0 := by unfold seenL; simp [htl]
      have hsd : seenD P[j] = ((0, 0), false) := by unfold seenD; simp [htl]
      rw [if_neg (by simp [hsl]), hsd] at hG
      repeat ((conv => whnf); first | (apply q_i; focus (intro w1 hS; (conv => whnf); first | exact ⟨rfl, rfl⟩ | ((refine ld_f hS 0 rfl rfl ?_); (conv => whnf); exact ⟨rfl, rfl⟩) | ((refine ld_f hS 1 rfl rfl ?_); (conv => whnf); exact ⟨rfl, rfl⟩) | ((refine ldA_f hS 0 rfl rfl ?_); (conv => whnf); exact ⟨rfl, rfl⟩) | ((refine ldA_f hS 1 rfl rfl ?_); (conv => whnf); exact ⟨rfl, rfl⟩))) | (refine nw_f hS ?_; intro b w1 hS) | (refine as_i hS ?_) | (refine as_i (hS.subs (List.nil_sublist _) (by repeat (first | exact List.Sublist.refl _ | apply List.Sublist.cons_cons | apply List.Sublist.cons))) ?_) | (refine as_i (hS.subs (List.Sublist.refl _) (by repeat (first | exact List.Sublist.refl _ | apply List.Sublist.cons_cons | apply List.Sublist.cons))) ?_) | (refine bar_f hS ?_) | (refine ld_f hS 0 rfl rfl ?_) | (refine ld_f hS 1 rfl rfl ?_) | (refine ldA_f hS 0 rfl rfl ?_) | (refine ldA_f hS 1 rfl rfl ?_) | (refine stN_f hS 0 rfl (Nat.le_of_ble_eq_true rfl) rfl rfl ?_; (conv => whnf); intro w1 hS) | (refine stN_f hS 1 rfl (Nat.le_of_ble_eq_true rfl) rfl rfl ?_; (conv => whnf); intro w1 hS) | (refine stM_f hS 0 rfl (Nat.le_of_ble_eq_true rfl) rfl ?_; (conv => whnf); intro w1 hS) | (refine stM_f hS 1 rfl (Nat.le_of_ble_eq_true rfl) rfl ?_; (conv => whnf); intro w1 hS) | (refine drawf TB_ok rfl (by kernel_rfl) (by kernel_rfl) hS (List.Sublist.refl _) (List.Sublist.refl _) ?_; intro w1 hS) | (refine br_t (by assumption) ?_) | (refine br_f (by assumption) ?_))
      replace hS : Sf [] w _ (Lo ++ (Lv ++ [])) _ := hS.subs (List.sublist_append_right Lk _) (List.Sublist.refl _)
      (conv => whnf)
      refine app_f TB_ok elStr hS hvo (show Rd _ _ (flat encT [K[0]]) from hS.rd 0 rfl) (flatT_len _) (flatT_one _) (by simp only [List.length_singleton]; omega) (by simp only [List.length_singleton]; omega) ?_
      intro v' Lo' w6 hv' hS
      obtain ⟨A3, c3, rfl, hv'⟩ := hv'.open
      repeat ((conv => whnf); first | (apply q_i; focus (intro w1 hS; (conv => whnf); first | exact ⟨rfl, rfl⟩ | ((refine ld_f hS 0 rfl rfl ?_); (conv => whnf); exact ⟨rfl, rfl⟩) | ((refine ld_f hS 1 rfl rfl ?_); (conv => whnf); exact ⟨rfl, rfl⟩) | ((refine ldA_f hS 0 rfl rfl ?_); (conv => whnf); exact ⟨rfl, rfl⟩) | ((refine ldA_f hS 1 rfl rfl ?_); (conv => whnf); exact ⟨rfl, rfl⟩))) | (refine nw_f hS ?_; intro b w1 hS) | (refine as_i hS ?_) | (refine as_i (hS.subs (List.nil_sublist _) (by repeat (first | exact List.Sublist.refl _ | apply List.Sublist.cons_cons | apply List.Sublist.cons))) ?_) | (refine as_i (hS.subs (List.Sublist.refl _) (by repeat (first | exact List.Sublist.refl _ | apply List.Sublist.cons_cons | apply List.Sublist.cons))) ?_) | (refine bar_f hS ?_) | (refine ld_f hS 0 rfl rfl ?_) | (refine ld_f hS 1 rfl rfl ?_) | (refine ldA_f hS 0 rfl rfl ?_) | (refine ldA_f hS 1 rfl rfl ?_) | (refine stN_f hS 0 rfl (Nat.le_of_ble_eq_true rfl) rfl rfl ?_; (conv => whnf); intro w1 hS) | (refine stN_f hS 1 rfl (Nat.le_of_ble_eq_true rfl) rfl rfl ?_; (conv => whnf); intro w1 hS) | (refine stM_f hS 0 rfl (Nat.le_of_ble_eq_true rfl) rfl ?_; (conv => whnf); intro w1 hS) | (refine stM_f hS 1 rfl (Nat.le_of_ble_eq_true rfl) rfl ?_; (conv => whnf); intro w1 hS) | (refine drawf TB_ok rfl (by kernel_rfl) (by kernel_rfl) hS (List.Sublist.refl _) (List.Sublist.refl _) ?_; intro w1 hS) | (refine br_t (by assumption) ?_) | (refine br_f (by assumption) ?_))
      refine ⟨rfl, (j + 1, P.take j ++ [K[0]], .slice A3 ((P.take j).length + 1) c3, (0, 0), false), ?_, ⟨hlt, by show j + 1 ≤ 4; omega, .inr ⟨hl, hG.symm⟩, Lo', ?_, hS.subs (List.Sublist.refl _) (.cons _ (.refl _))⟩, by show P.length - (j + 1) < _; omega⟩
      · rw [wi (n := 1001) (by omega) (by omega)]
        rfl
      · simp only
        rw [List.length_append, flat_append]
        exact hv'
  | true =>
    rw [htl] at hKt
    cases hsp : (splitT P[j]).2.2 with
    | false =>
      have hsl : (seenL P[j]).2 = 4 := by unfold seenL; simp [htl, hsp]
      have hn : (!(splitT P[j]).2.2) = true := by rw [hsp]; rfl
      rw [if_pos (by simp [hsl]), hsl] at hG
      rw [← hG]
      repeat ((conv => whnf); first | (apply q_i; focus (intro w1 hS; (conv => whnf); first | exact ⟨rfl, rfl⟩ | ((refine ld_f hS 0 rfl rfl ?_); (conv => whnf); exact ⟨rfl, rfl⟩) | ((refine ld_f hS 1 rfl rfl ?_); (conv => whnf); exact ⟨rfl, rfl⟩) | ((refine ldA_f hS 0 rfl rfl ?_); (conv => whnf); exact ⟨rfl, rfl⟩) | ((refine ldA_f hS 1 rfl rfl ?_); (conv => whnf); exact ⟨rfl, rfl⟩) | ((refine .mk ⟨by omega, by omega⟩ ?_; refine ix_i rfl ?_); (conv => whnf); exact ⟨rfl, rfl⟩) | ((refine ld_el encT_len (hv.rdM hS (fun x hx => by simp [hx])).at (i := j + 1) (k := 0) hlt1 (by omega) rfl (v := .string (strY P[j])) rfl ?_); (conv => whnf); exact ⟨rfl, rfl⟩) | ((refine fc_m (rsplit_c P[j] (by omega) _) ?_; rintro v w3 ⟨rfl, hS'⟩; replace hS := hS.call0 hS'); (conv => whnf); exact ⟨rfl, rfl⟩))) | (refine nw_f hS ?_; intro b w1 hS) | (refine as_i hS ?_) | (refine as_i (hS.subs (List.nil_sublist _) (by repeat (first | exact List.Sublist.refl _ | apply List.Sublist.cons_cons | apply List.Sublist.cons))) ?_) | (refine as_i (hS.subs (List.Sublist.refl _) (by repeat (first | exact List.Sublist.refl _ | apply List.Sublist.cons_cons | apply List.Sublist.cons))) ?_) | (refine bar_f hS ?_) | (refine ld_f hS 0 rfl rfl ?_) | (refine ld_f hS 1 rfl rfl ?_) | (refine ldA_f hS 0 rfl rfl ?_) | (refine ldA_f hS 1 rfl rfl ?_) | (refine stN_f hS 0 rfl (Nat.le_of_ble_eq_true rfl) rfl rfl ?_; (conv => whnf); intro w1 hS) | (refine stN_f hS 1 rfl (Nat.le_of_ble_eq_true rfl) rfl rfl ?_; (conv => whnf); intro w1 hS) | (refine stM_f hS 0 rfl (Nat.le_of_ble_eq_true rfl) rfl ?_; (conv => whnf); intro w1 hS) | (refine stM_f hS 1 rfl (Nat.le_of_ble_eq_true rfl) rfl ?_; (conv => whnf); intro w1 hS) | (refine .mk ⟨by omega, by omega⟩ ?_; refine ix_i rfl ?_) | (refine ld_el encT_len (hv.rdM hS (fun x hx => by simp [hx])).at (i := j + 1) (k := 0) hlt1 (by omega) rfl (v := .string (strY P[j])) rfl ?_) | (refine fc_m (rsplit_c P[j] (by omega) _) ?_; rintro v w3 ⟨rfl, hS'⟩; replace hS := hS.call0 hS') | (refine drawf TB_ok rfl (by kernel_rfl) (by kernel_rfl) hS (List.Sublist.refl _) (List.Sublist.refl _) ?_; intro w1 hS) | (refine br_t (by assumption) ?_) | (refine br_f (by assumption) ?_))
      exact ⟨none, 0, [], rfl, .nil, hS.nil⟩
    | true =>
      have hsl : (seenL P[j]).2 = 0 := by unfold seenL; simp [htl, hsp]
      have hn : (!(splitT P[j]).2.2) = false := by rw [hsp]; rfl
      have hsd : seenD P[j] = ((splitT P[j]).2.1, (splitT P[j]).2.2) := by unfold seenD; simp [htl]
      rw [if_neg (by simp [hsl]), hsd] at hG
      repeat ((conv => whnf); first | (apply q_i; focus (intro w1 hS; (conv => whnf); first | exact ⟨rfl, rfl⟩ | ((refine ld_f hS 0 rfl rfl ?_); (conv => whnf); exact ⟨rfl, rfl⟩) | ((refine ld_f hS 1 rfl rfl ?_); (conv => whnf); exact ⟨rfl, rfl⟩) | ((refine ldA_f hS 0 rfl rfl ?_); (conv => whnf); exact ⟨rfl, rfl⟩) | ((refine ldA_f hS 1 rfl rfl ?_); (conv => whnf); exact ⟨rfl, rfl⟩) | ((refine .mk ⟨by omega, by omega⟩ ?_; refine ix_i rfl ?_); (conv => whnf); exact ⟨rfl, rfl⟩) | ((refine ld_el encT_len (hv.rdM hS (fun x hx => by simp [hx])).at (i := j + 1) (k := 0) hlt1 (by omega) rfl (v := .string (strY P[j])) rfl ?_); (conv => whnf); exact ⟨rfl, rfl⟩) | ((refine fc_m (rsplit_c P[j] (by omega) _) ?_; rintro v w3 ⟨rfl, hS'⟩; replace hS := hS.call0 hS'); (conv => whnf); exact ⟨rfl, rfl⟩))) | (refine nw_f hS ?_; intro b w1 hS) | (refine as_i hS ?_) | (refine as_i (hS.subs (List.nil_sublist _) (by repeat (first | exact List.Sublist.refl _ | apply List.Sublist.cons_cons | apply List.Sublist.cons))) ?_) | (refine as_i (hS.subs (List.Sublist.refl _) (by repeat (first | exact List.Sublist.refl _ | apply List.Sublist.cons_cons | apply List.Sublist.cons))) ?_) | (refine bar_f hS ?_) | (refine ld_f hS 0 rfl rfl ?_) | (refine ld_f hS 1 rfl rfl ?_) | (refine ldA_f hS 0 rfl rfl ?_) | (refine ldA_f hS 1 rfl rfl ?_) | (refine stN_f hS 0 rfl (Nat.le_of_ble_eq_true rfl) rfl rfl ?_; (conv => whnf); intro w1 hS) | (refine stN_f hS 1 rfl (Nat.le_of_ble_eq_true rfl) rfl rfl ?_; (conv => whnf); intro w1 hS) | (refine stM_f hS 0 rfl (Nat.le_of_ble_eq_true rfl) rfl ?_; (conv => whnf); intro w1 hS) | (refine stM_f hS 1 rfl (Nat.le_of_ble_eq_true rfl) rfl ?_; (conv => whnf); intro w1 hS) | (refine .mk ⟨by omega, by omega⟩ ?_; refine ix_i rfl ?_) | (refine ld_el encT_len (hv.rdM hS (fun x hx => by simp [hx])).at (i := j + 1) (k := 0) hlt1 (by omega) rfl (v := .string (strY P[j])) rfl ?_) | (refine fc_m (rsplit_c P[j] (by omega) _) ?_; rintro v w3 ⟨rfl, hS'⟩; replace hS := hS.call0 hS') | (refine drawf TB_ok rfl (by kernel_rfl) (by kernel_rfl) hS (List.Sublist.refl _) (List.Sublist.refl _) ?_; intro w1 hS) | (refine br_t (by assumption) ?_) | (refine br_f (by assumption) ?_))
      replace hS : Sf [] w _ (Lo ++ (Lv ++ [])) _ := hS.subs (List.sublist_append_right Lk _) (List.Sublist.refl _)
      (conv => whnf)
      refine app_f TB_ok elStr hS hvo (show Rd _ _ (flat encT [K[0]]) from hS.rd 0 rfl) (flatT_len _) (flatT_one _) (by simp only [List.length_singleton]; omega) (by simp only [List.length_singleton]; omega) ?_
      intro v' Lo' w6 hv' hS
      obtain ⟨A3, c3, rfl, hv'⟩ := hv'.open
      repeat ((conv => whnf); first | (apply q_i; focus (intro w1 hS; (conv => whnf); first | exact ⟨rfl, rfl⟩ | ((refine ld_f hS 0 rfl rfl ?_); (conv => whnf); exact ⟨rfl, rfl⟩) | ((refine ld_f hS 1 rfl rfl ?_); (conv => whnf); exact ⟨rfl, rfl⟩) | ((refine ldA_f hS 0 rfl rfl ?_); (conv => whnf); exact ⟨rfl, rfl⟩) | ((refine ldA_f hS 1 rfl rfl ?_); (conv => whnf); exact ⟨rfl, rfl⟩))) | (refine nw_f hS ?_; intro b w1 hS) | (refine as_i hS ?_) | (refine as_i (hS.subs (List.nil_sublist _) (by repeat (first | exact List.Sublist.refl _ | apply List.Sublist.cons_cons | apply List.Sublist.cons))) ?_) | (refine as_i (hS.subs (List.Sublist.refl _) (by repeat (first | exact List.Sublist.refl _ | apply List.Sublist.cons_cons | apply List.Sublist.cons))) ?_) | (refine bar_f hS ?_) | (refine ld_f hS 0 rfl rfl ?_) | (refine ld_f hS 1 rfl rfl ?_) | (refine ldA_f hS 0 rfl rfl ?_) | (refine ldA_f hS 1 rfl rfl ?_) | (refine stN_f hS 0 rfl (Nat.le_of_ble_eq_true rfl) rfl rfl ?_; (conv => whnf); intro w1 hS) | (refine stN_f hS 1 rfl (Nat.le_of_ble_eq_true rfl) rfl rfl ?_; (conv => whnf); intro w1 hS) | (refine stM_f hS 0 rfl (Nat.le_of_ble_eq_true rfl) rfl ?_; (conv => whnf); intro w1 hS) | (refine stM_f hS 1 rfl (Nat.le_of_ble_eq_true rfl) rfl ?_; (conv => whnf); intro w1 hS) | (refine drawf TB_ok rfl (by kernel_rfl) (by kernel_rfl) hS (List.Sublist.refl _) (List.Sublist.refl _) ?_; intro w1 hS) | (refine br_t (by assumption) ?_) | (refine br_f (by assumption) ?_))
      refine ⟨rfl, (j + 1, P.take j ++ [K[0]], .slice A3 ((P.take j).length + 1) c3, (splitT P[j]).2.1, (splitT P[j]).2.2), ?_, ⟨hlt, by show j + 1 ≤ 4; omega, .inr ⟨hl, hG.symm⟩, Lo', ?_, hS.subs (List.Sublist.refl _) (.cons _ (.refl _))⟩, by show P.length - (j + 1) < _; omega⟩
      · rw [wi (n := 1001) (by omega) (by omega)]
        rfl
      · simp only
        rw [List.length_append, flat_append]
        exact hv'
end Go.RV
