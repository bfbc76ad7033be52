/- The document's Parse. Conditions: none. -/
import Derived.Test.YtnhlpmnehdackaaGreatPc2
set_option maxRecDepth 20000
set_option linter.unusedVariables false
set_option linter.unusedSimpArgs false
namespace Go.RV.C04
open Go Go.Proofs Go.RowKit

theorem _root_.Go.RV.Sl.rdH {e sz n c : Nat} {A : Option Addr} {cs : List Value} {Lv : LM} {w : World} (h : Sl e sz (.slice A n c) n cs Lv) (hH : Holds w Lv) : Rd w A cs := by
  cases h with
  | nil => exact .inl rfl
  | blk b cap n cs cur h1 h2 h3 h4 =>
    refine .inr ⟨b, 0, rfl, fun j v hj => ?_⟩
    have hb := hH _ (List.mem_singleton.2 rfl)
    rw [← h4, List.getElem?_take] at hj
    split at hj
    · simp only [World.cell?, hb, Nat.zero_add]
      simpa using hj
    · cases hj
theorem goP_bad (acc : Nm) (s : List UInt8) (r : Nm) (h : checkE s ≠ 0) : (goR plainL acc (s :: r)).1 = [] ∧ (goR plainL acc (s :: r)).2.1 = checkE s := by
  have e1 : (if r.isEmpty then plainL s else (s, 0)) = (s, 0) := by split <;> rfl
  rw [goR, e1]
  simp [h]
theorem goP_deep (acc : Nm) (s : List UInt8) (r : Nm) (h : checkE s = 0) (h4 : acc.length = 4) : (goR plainL acc (s :: r)).1 = [] ∧ (goR plainL acc (s :: r)).2.1 = 3 := by
  have e1 : (if r.isEmpty then plainL s else (s, 0)) = (s, 0) := by split <;> rfl
  rw [goR, e1]
  simp [h, h4]
theorem goP_on (acc : Nm) (s : List UInt8) (r : Nm) (h : checkE s = 0) (h4 : acc.length ≠ 4) : (goR plainL acc (s :: r)).1 = (goR plainL (acc ++ [s]) r).1 ∧ (goR plainL acc (s :: r)).2.1 = (goR plainL (acc ++ [s]) r).2.1 := by
  have e1 : (if r.isEmpty then plainL s else (s, 0)) = (s, 0) := by split <;> rfl
  rw [goR, e1]
  simp only [h, ne_eq, not_true_eq_false, if_false, if_neg h4]
  cases r with
  | nil => simp [goR]
  | cons y t => simp
theorem read_bad (most : Nat) (lst : Lst) (p : List UInt8) (hm : ¬ most < p.length) (h : (partsC 47 p).length < 2 ∨ (partsC 47 p)[0]? ≠ some []) : readT most lst p = ([], 4, none) := by
  unfold readT
  rw [if_neg hm]
  cases p with
  | nil => rfl
  | cons c q =>
    simp only
    by_cases hc : c = 47
    · subst hc
      have h1 := List.length_pos_iff.2 (partsC_ne 47 q)
      simp [partsC] at h
      omega
    · rw [if_pos hc]
theorem read_ok (p : List UInt8) (h : ¬ ((partsC 47 p).length < 2 ∨ (partsC 47 p)[0]? ≠ some [])) : ∃ q, p = 47 :: q ∧ partsC 47 p = [] :: partsP q := by
  cases p with
  | nil => simp [partsC] at h
  | cons c q =>
    by_cases hc : c = 47
    · subst hc
      exact ⟨q, rfl, by rw [partsC, if_pos rfl, partsC_slash]⟩
    · exfalso
      apply h
      right
      rw [partsC, if_neg hc]
      cases partsC 47 q <;> simp
theorem read_go (most : Nat) (lst : Lst) (q : List UInt8) (hm : ¬ most < (47 :: q).length) : readT most lst (47 :: q) = if q = [] then ([], 0, none) else goR lst [] (partsP q) := by
  unfold readT
  rw [if_neg hm]
  cases q <;> simp
theorem parts_len (l : List UInt8) : (partsP l).length ≤ l.length + 1 := by
  induction l with
  | nil => simp [partsP]
  | cons c r ih =>
    rw [partsP]
    split
    · simp; omega
    · cases hp : partsP r with
      | nil => simp
      | cons x xs => rw [hp] at ih; simp at ih ⊢; omega
theorem parts_each (l : List UInt8) : ∀ x ∈ partsP l, x.length ≤ l.length := by
  induction l with
  | nil => simp [partsP]
  | cons c r ih =>
    rw [partsP]
    split
    · intro x hx
      rcases List.mem_cons.1 hx with rfl | hx
      · simp
      · have := ih x hx; simp; omega
    · cases hp : partsP r with
      | nil => simp
      | cons y ys =>
        rw [hp] at ih
        intro x hx
        rcases List.mem_cons.1 hx with rfl | hx
        · have := ih y (by simp); simp; omega
        · have := ih x (by simp [hx]); simp; omega
set_option maxHeartbeats 2000000 in
theorem rparse_c (p : List UInt8) (hp : p.length ≤ 1000) (w : World) : Fc Tryz.prog 68 [.string (strY p)] w fun v w' => ∃ A k Lv, v = .tuple #[.slice A (parseT p).1.length k, .int .i64 (parseT p).2.1] ∧
    (∀ w2, Holds w2 Lv → Rd w2 A (flat encT (parseT p).1)) ∧ St [] w w' Lv := by
  refine fc_i TB_ok Tryz.func68 rfl (by kernel_rfl) ?_
  have hS := Sf.refl w
  have hz := strY_size p
  unfold parseT
  by_cases h36 : 36 < p.length
  · have g1 : decide ((36 : Int) < ((strY p).size : Int)) = true := decide_eq_true (by omega)
    have e : readT 36 plainL p = ([], 3, none) := by unfold readT; rw [if_pos h36]
    rw [e]
    repeat ((conv => whnf); first | (apply q_i; focus (intro w1 hS; (conv => whnf); first | exact ⟨rfl, rfl⟩)) | (refine nw_f hS ?_; intro b w1 hS) | (refine as_i hS ?_) | (refine as_i (hS.subs (List.nil_sublist _) (by repeat (first | exact List.Sublist.refl _ | apply List.Sublist.cons_cons | apply List.Sublist.cons))) ?_) | (refine as_i (hS.subs (List.Sublist.refl _) (by repeat (first | exact List.Sublist.refl _ | apply List.Sublist.cons_cons | apply List.Sublist.cons))) ?_) | (refine bar_f hS ?_) | (refine drawf TB_ok rfl (by kernel_rfl) (by kernel_rfl) hS (List.Sublist.refl _) (List.Sublist.refl _) ?_; intro w1 hS) | (refine br_t (by assumption) ?_) | (refine br_f (by assumption) ?_))
    exact ⟨none, 0, [], rfl, fun _ _ => .inl rfl, hS.nil⟩
  have g1 : decide ((36 : Int) < ((strY p).size : Int)) = false := decide_eq_false (by omega)
  repeat ((conv => whnf); first | (apply q_i; focus (intro w1 hS; (conv => whnf); first | exact ⟨rfl, rfl⟩)) | (refine nw_f hS ?_; intro b w1 hS) | (refine as_i hS ?_) | (refine as_i (hS.subs (List.nil_sublist _) (by repeat (first | exact List.Sublist.refl _ | apply List.Sublist.cons_cons | apply List.Sublist.cons))) ?_) | (refine as_i (hS.subs (List.Sublist.refl _) (by repeat (first | exact List.Sublist.refl _ | apply List.Sublist.cons_cons | apply List.Sublist.cons))) ?_) | (refine bar_f hS ?_) | (refine drawf TB_ok rfl (by kernel_rfl) (by kernel_rfl) hS (List.Sublist.refl _) (List.Sublist.refl _) ?_; intro w1 hS) | (refine br_t (by assumption) ?_) | (refine br_f (by assumption) ?_))
  refine fc_m (cutN_c p 47 (by omega) _) ?_
  rintro v w1 ⟨A, k, Lv, rfl, hv, hS'⟩
  replace hS := hS.callF hS'
  have hpl : (partsC 47 p).length ≤ 1001 := by rw [partsC_slash]; have := parts_len p; omega
  have hpe : ∀ x ∈ partsC 47 p, x.length ≤ 1000 := by rw [partsC_slash]; intro x hx; have := parts_each p x hx; omega
  by_cases hbad : (partsC 47 p).length < 2 ∨ (partsC 47 p)[0]? ≠ some []
  · rw [read_bad 36 plainL p h36 hbad]
    generalize partsC 47 p = ps at *
    by_cases h2 : ps.length < 2
    · have g2 : decide ((ps.length : Int) < 2) = true := decide_eq_true (by omega)
      repeat ((conv => whnf); first | (apply q_i; focus (intro w1 hS; (conv => whnf); first | exact ⟨rfl, rfl⟩)) | (refine nw_f hS ?_; intro b w1 hS) | (refine as_i hS ?_) | (refine as_i (hS.subs (List.nil_sublist _) (by repeat (first | exact List.Sublist.refl _ | apply List.Sublist.cons_cons | apply List.Sublist.cons))) ?_) | (refine as_i (hS.subs (List.Sublist.refl _) (by repeat (first | exact List.Sublist.refl _ | apply List.Sublist.cons_cons | apply List.Sublist.cons))) ?_) | (refine bar_f hS ?_) | (refine drawf TB_ok rfl (by kernel_rfl) (by kernel_rfl) hS (List.Sublist.refl _) (List.Sublist.refl _) ?_; intro w1 hS) | (refine br_t (by assumption) ?_) | (refine br_f (by assumption) ?_))
      exact ⟨none, 0, [], rfl, fun _ _ => .inl rfl, hS.nil⟩
    have g2 : decide ((ps.length : Int) < 2) = false := decide_eq_false (by omega)
    have hlt : 0 < ps.length := by omega
    have hne : ps[0] ≠ [] := by
      rcases hbad with h | h
      · omega
      · rw [List.getElem?_eq_getElem hlt] at h
        exact fun e => h (by rw [e])
    have g3 : (!streq (strY ps[0]) ⟨#[]⟩) = true := by
      rw [show (⟨#[]⟩ : ByteArray) = strY [] from rfl, streq_strY, decide_eq_false hne]; rfl
    obtain ⟨x, off, rfl⟩ := (hv.rdF hS).form (flat_ne encT_len (by omega) hlt)
    repeat ((conv => whnf); first | (apply q_i; focus (intro w1 hS; (conv => whnf); first | exact ⟨rfl, rfl⟩ | ((refine .mk ⟨by omega, by omega⟩ ?_; refine ix_i rfl ?_); (conv => whnf); exact ⟨rfl, rfl⟩) | ((refine ld_el encT_len (hv.rdF hS).at (i := 0) (k := 0) hlt (by omega) rfl (v := .string (strY ps[0])) rfl ?_); (conv => whnf); exact ⟨rfl, rfl⟩))) | (refine nw_f hS ?_; intro b w1 hS) | (refine as_i hS ?_) | (refine as_i (hS.subs (List.nil_sublist _) (by repeat (first | exact List.Sublist.refl _ | apply List.Sublist.cons_cons | apply List.Sublist.cons))) ?_) | (refine as_i (hS.subs (List.Sublist.refl _) (by repeat (first | exact List.Sublist.refl _ | apply List.Sublist.cons_cons | apply List.Sublist.cons))) ?_) | (refine bar_f hS ?_) | (refine .mk ⟨by omega, by omega⟩ ?_; refine ix_i rfl ?_) | (refine ld_el encT_len (hv.rdF hS).at (i := 0) (k := 0) hlt (by omega) rfl (v := .string (strY ps[0])) rfl ?_) | (refine drawf TB_ok rfl (by kernel_rfl) (by kernel_rfl) hS (List.Sublist.refl _) (List.Sublist.refl _) ?_; intro w1 hS) | (refine br_t (by assumption) ?_) | (refine br_f (by assumption) ?_))
    exact ⟨none, 0, [], rfl, fun _ _ => .inl rfl, hS.nil⟩
  obtain ⟨q, rfl, hps⟩ := read_ok p hbad
  rw [read_go 36 plainL q h36]
  have hz2 : (47 :: q).length = q.length + 1 := rfl
  have hq1 := streq_strY (47 :: q) [47]
  generalize partsC 47 (47 :: q) = ps0 at *
  subst hps
  clear hbad
  have hqn := List.length_pos_iff.2 (parts_ne q)
  generalize partsP q = P at *
  have hn0 : (([] : List UInt8) :: P).length = P.length + 1 := rfl
  have g2 : decide (((([] : List UInt8) :: P).length : Int) < 2) = false := decide_eq_false (by omega)
  have hlt0 : 0 < (([] : List UInt8) :: P).length := by omega
  have g3 : (!streq (strY (([] : List UInt8) :: P)[0]) ⟨#[]⟩) = false := by
    rw [show (⟨#[]⟩ : ByteArray) = strY [] from rfl, streq_strY]; simp
  obtain ⟨x, off, rfl⟩ := (hv.rdF hS).form (flat_ne encT_len (by omega) hlt0)
  have hkl := hv.le
  by_cases hq : q = []
  · have g4 : streq (strY (47 :: q)) ⟨#[47]⟩ = true := by rw [show (⟨#[47]⟩ : ByteArray) = strY [47] from rfl, hq1, hq]; simp
    rw [if_pos hq]
    repeat ((conv => whnf); first | (apply q_i; focus (intro w1 hS; (conv => whnf); first | exact ⟨rfl, rfl⟩ | ((refine .mk ⟨by omega, by omega⟩ ?_; refine ix_i rfl ?_); (conv => whnf); exact ⟨rfl, rfl⟩) | ((refine ld_el encT_len (hv.rdF hS).at (i := 0) (k := 0) hlt0 (by omega) rfl (v := .string (strY (([] : List UInt8) :: P)[0])) rfl ?_); (conv => whnf); exact ⟨rfl, rfl⟩))) | (refine nw_f hS ?_; intro b w1 hS) | (refine as_i hS ?_) | (refine as_i (hS.subs (List.nil_sublist _) (by repeat (first | exact List.Sublist.refl _ | apply List.Sublist.cons_cons | apply List.Sublist.cons))) ?_) | (refine as_i (hS.subs (List.Sublist.refl _) (by repeat (first | exact List.Sublist.refl _ | apply List.Sublist.cons_cons | apply List.Sublist.cons))) ?_) | (refine bar_f hS ?_) | (refine .mk ⟨by omega, by omega⟩ ?_; refine ix_i rfl ?_) | (refine ld_el encT_len (hv.rdF hS).at (i := 0) (k := 0) hlt0 (by omega) rfl (v := .string (strY (([] : List UInt8) :: P)[0])) rfl ?_) | (refine drawf TB_ok rfl (by kernel_rfl) (by kernel_rfl) hS (List.Sublist.refl _) (List.Sublist.refl _) ?_; intro w1 hS) | (refine br_t (by assumption) ?_) | (refine br_f (by assumption) ?_))
    exact ⟨none, 0, [], rfl, fun _ _ => .inl rfl, hS.nil⟩
  have g4 : streq (strY (47 :: q)) ⟨#[47]⟩ = false := by rw [show (⟨#[47]⟩ : ByteArray) = strY [47] from rfl, hq1]; simp [hq]
  rw [if_neg hq]
  generalize hG : goR plainL [] P = G
  repeat ((conv => whnf); first | (apply q_i; focus (intro w1 hS; (conv => whnf); first | exact ⟨rfl, rfl⟩ | ((refine .mk ⟨by omega, by omega⟩ ?_; refine ix_i rfl ?_); (conv => whnf); exact ⟨rfl, rfl⟩) | ((refine ld_el encT_len (hv.rdF hS).at (i := 0) (k := 0) hlt0 (by omega) rfl (v := .string (strY (([] : List UInt8) :: P)[0])) rfl ?_); (conv => whnf); exact ⟨rfl, rfl⟩))) | (refine nw_f hS ?_; intro b w1 hS) | (refine as_i hS ?_) | (refine as_i (hS.subs (List.nil_sublist _) (by repeat (first | exact List.Sublist.refl _ | apply List.Sublist.cons_cons | apply List.Sublist.cons))) ?_) | (refine as_i (hS.subs (List.Sublist.refl _) (by repeat (first | exact List.Sublist.refl _ | apply List.Sublist.cons_cons | apply List.Sublist.cons))) ?_) | (refine bar_f hS ?_) | (refine .mk ⟨by omega, by omega⟩ ?_; refine ix_i rfl ?_) | (refine ld_el encT_len (hv.rdF hS).at (i := 0) (k := 0) hlt0 (by omega) rfl (v := .string (strY (([] : List UInt8) :: P)[0])) rfl ?_) | (refine drawf TB_ok rfl (by kernel_rfl) (by kernel_rfl) hS (List.Sublist.refl _) (List.Sublist.refl _) ?_; intro w1 hS) | (refine br_t (by assumption) ?_) | (refine br_f (by assumption) ?_))
  refine loop_i TB_ok (fun j : Nat => [(5, .int .i64 ((j + 1 : Nat) : Int))]) (fun j w' => j ≤ P.length ∧ j ≤ 4 ∧ (goR plainL (P.take j) (P.drop j)).1 = G.1 ∧ (goR plainL (P.take j) (P.drop j)).2.1 = G.2.1 ∧ Sf [] w w' (Lv ++ []) []) (fun j => P.length - j) 0 rfl ⟨Nat.zero_le _, Nat.zero_le _, by rw [List.take_zero, List.drop_zero, hG], by rw [List.take_zero, List.drop_zero, hG], hS⟩ ?_
  clear hS
  rintro j us w2 ⟨hj, hj4, q1, q2, hS⟩
  by_cases hlt : j < P.length
  · have g5 : decide (((j + 1 : Nat) : Int) < ((([] : List UInt8) :: P).length : Int)) = true := decide_eq_true (by omega)
    have hlt1 : j + 1 < (([] : List UInt8) :: P).length := by omega
    have hdr : P.drop j = P[j] :: P.drop (j + 1) := List.drop_eq_getElem_cons hlt
    have htl : (P.take j).length = j := by rw [List.length_take]; omega
    have hee : P[j].length ≤ 4611686018427387904 := by have := hpe P[j] (List.mem_cons_of_mem _ (List.getElem_mem hlt)); omega
    rw [hdr] at q1 q2
    repeat ((conv => whnf); first | (apply q_i; focus (intro w1 hS; (conv => whnf); first | exact ⟨rfl, rfl⟩ | ((refine .mk ⟨by omega, by omega⟩ ?_; refine ix_i rfl ?_); (conv => whnf); exact ⟨rfl, rfl⟩) | ((refine ld_el encT_len (hv.rdF hS).at (i := j + 1) (k := 0) hlt1 (by omega) rfl (v := .string (strY P[j])) rfl ?_); (conv => whnf); exact ⟨rfl, rfl⟩))) | (refine nw_f hS ?_; intro b w1 hS) | (refine as_i hS ?_) | (refine as_i (hS.subs (List.nil_sublist _) (by repeat (first | exact List.Sublist.refl _ | apply List.Sublist.cons_cons | apply List.Sublist.cons))) ?_) | (refine as_i (hS.subs (List.Sublist.refl _) (by repeat (first | exact List.Sublist.refl _ | apply List.Sublist.cons_cons | apply List.Sublist.cons))) ?_) | (refine bar_f hS ?_) | (refine .mk ⟨by omega, by omega⟩ ?_; refine ix_i rfl ?_) | (refine ld_el encT_len (hv.rdF hS).at (i := j + 1) (k := 0) hlt1 (by omega) rfl (v := .string (strY P[j])) rfl ?_) | (refine drawf TB_ok rfl (by kernel_rfl) (by kernel_rfl) hS (List.Sublist.refl _) (List.Sublist.refl _) ?_; intro w1 hS) | (refine br_t (by assumption) ?_) | (refine br_f (by assumption) ?_))
    refine fc_m (rcheck_c P[j] hee _) ?_
    rintro v w3 ⟨rfl, hS'⟩
    replace hS := hS.call0 hS'
    by_cases hc : checkE P[j] = 0
    · have g6 : (checkE P[j] != 0) = false := by simp [hc]
      by_cases h4 : j = 4
      · have g7 : decide ((4 : Int) < ((j + 1 : Nat) : Int)) = true := decide_eq_true (by omega)
        obtain ⟨r1, r2⟩ := goP_deep (P.take j) P[j] (P.drop (j + 1)) hc (by omega)
        repeat ((conv => whnf); first | (apply q_i; focus (intro w1 hS; (conv => whnf); first | exact ⟨rfl, rfl⟩)) | (refine nw_f hS ?_; intro b w1 hS) | (refine as_i hS ?_) | (refine as_i (hS.subs (List.nil_sublist _) (by repeat (first | exact List.Sublist.refl _ | apply List.Sublist.cons_cons | apply List.Sublist.cons))) ?_) | (refine as_i (hS.subs (List.Sublist.refl _) (by repeat (first | exact List.Sublist.refl _ | apply List.Sublist.cons_cons | apply List.Sublist.cons))) ?_) | (refine bar_f hS ?_) | (refine drawf TB_ok rfl (by kernel_rfl) (by kernel_rfl) hS (List.Sublist.refl _) (List.Sublist.refl _) ?_; intro w1 hS) | (refine br_t (by assumption) ?_) | (refine br_f (by assumption) ?_))
        refine ⟨none, 0, [], ?_, fun _ _ => ?_, hS.nil⟩
        · rw [← q1, ← q2, r1, r2]; rfl
        · rw [← q1, r1]; exact .inl rfl
      · have g7 : decide ((4 : Int) < ((j + 1 : Nat) : Int)) = false := decide_eq_false (by omega)
        obtain ⟨r1, r2⟩ := goP_on (P.take j) P[j] (P.drop (j + 1)) hc (by omega)
        have htk : P.take j ++ [P[j]] = P.take (j + 1) := (List.take_succ_eq_append_getElem hlt).symm
        repeat ((conv => whnf); first | (apply q_i; focus (intro w1 hS; (conv => whnf); first | exact ⟨rfl, rfl⟩)) | (refine nw_f hS ?_; intro b w1 hS) | (refine as_i hS ?_) | (refine as_i (hS.subs (List.nil_sublist _) (by repeat (first | exact List.Sublist.refl _ | apply List.Sublist.cons_cons | apply List.Sublist.cons))) ?_) | (refine as_i (hS.subs (List.Sublist.refl _) (by repeat (first | exact List.Sublist.refl _ | apply List.Sublist.cons_cons | apply List.Sublist.cons))) ?_) | (refine bar_f hS ?_) | (refine drawf TB_ok rfl (by kernel_rfl) (by kernel_rfl) hS (List.Sublist.refl _) (List.Sublist.refl _) ?_; intro w1 hS) | (refine br_t (by assumption) ?_) | (refine br_f (by assumption) ?_))
        refine ⟨rfl, j + 1, ?_, ⟨by omega, by omega, by rw [← q1, r1, htk], by rw [← q2, r2, htk], hS⟩, by omega⟩
        rw [wi (n := 1001) (by omega) (by omega)]
        rfl
    · have g6 : (checkE P[j] != 0) = true := by simp [hc]
      obtain ⟨r1, r2⟩ := goP_bad (P.take j) P[j] (P.drop (j + 1)) hc
      repeat ((conv => whnf); first | (apply q_i; focus (intro w1 hS; (conv => whnf); first | exact ⟨rfl, rfl⟩)) | (refine nw_f hS ?_; intro b w1 hS) | (refine as_i hS ?_) | (refine as_i (hS.subs (List.nil_sublist _) (by repeat (first | exact List.Sublist.refl _ | apply List.Sublist.cons_cons | apply List.Sublist.cons))) ?_) | (refine as_i (hS.subs (List.Sublist.refl _) (by repeat (first | exact List.Sublist.refl _ | apply List.Sublist.cons_cons | apply List.Sublist.cons))) ?_) | (refine bar_f hS ?_) | (refine drawf TB_ok rfl (by kernel_rfl) (by kernel_rfl) hS (List.Sublist.refl _) (List.Sublist.refl _) ?_; intro w1 hS) | (refine br_t (by assumption) ?_) | (refine br_f (by assumption) ?_))
      refine ⟨none, 0, [], ?_, fun _ _ => ?_, hS.nil⟩
      · rw [← q1, ← q2, r1, r2]; rfl
      · rw [← q1, r1]; exact .inl rfl
  · have g5 : decide (((j + 1 : Nat) : Int) < ((([] : List UInt8) :: P).length : Int)) = false := decide_eq_false (by omega)
    rw [List.take_of_length_le (by omega), List.drop_of_length_le (by omega)] at q1 q2
    replace q1 : P = G.1 := q1
    replace q2 : 0 = G.2.1 := q2
    rw [← q1, ← q2]
    repeat ((conv => whnf); first | (apply q_i; focus (intro w1 hS; (conv => whnf); first | exact ⟨rfl, rfl⟩ | ((refine .mk ⟨by omega, by omega⟩ ?_); (conv => whnf); exact ⟨rfl, rfl⟩))) | (refine nw_f hS ?_; intro b w1 hS) | (refine as_i hS ?_) | (refine as_i (hS.subs (List.nil_sublist _) (by repeat (first | exact List.Sublist.refl _ | apply List.Sublist.cons_cons | apply List.Sublist.cons))) ?_) | (refine as_i (hS.subs (List.Sublist.refl _) (by repeat (first | exact List.Sublist.refl _ | apply List.Sublist.cons_cons | apply List.Sublist.cons))) ?_) | (refine bar_f hS ?_) | (refine .mk ⟨by omega, by omega⟩ ?_) | (refine drawf TB_ok rfl (by kernel_rfl) (by kernel_rfl) hS (List.Sublist.refl _) (List.Sublist.refl _) ?_; intro w1 hS) | (refine br_t (by assumption) ?_) | (refine br_f (by assumption) ?_))
    have hp := (hv.rdF hS).part encT_len (l := 1) (m := k) (by omega)
    refine ⟨sliA (some ⟨x, off, none⟩) k 1 1, k - 1, Lv, ?_, fun w2 hH => ?_, by simpa using hS.fr (List.Sublist.refl _)⟩
    · rfl
    · exact (hv.rdH hH).part encT_len (l := 1) (m := k) (by omega)
end Go.RV.C04
