/- The laws of chapter 1, walked: CodecBack. Conditions: none. -/
import Derived.Test.YtnkdalgkpmmkaaaP2
set_option maxRecDepth 20000
set_option linter.unusedVariables false
set_option linter.unusedSimpArgs false
namespace Go.RV
open Go Go.Proofs

theorem strP {P : Program} {f : FuncId} {args : List Value} {w : World} {x : ByteArray} {X : World → Prop} (h : Fc P f args w fun v w' => v = .string x ∧ X w') (a : ByteArray) (e : streq x a = true) :
    Fc P f args w fun v w' => ∃ y, v = .string y ∧ streq y a = true ∧ (!streq y a) = false ∧ X w' :=
  Fc.mono h fun v w' h => ⟨_, h.1, e, by rw [e]; rfl, h.2⟩
theorem itmsD_cons (x : Itm) (l : List Itm) : itmsD (x :: l) = itmD x ++ itmsD l := by simp [itmsD]
theorem codecBack_c (A : Option Addr) (c : Nat) (xs : List Itm) (hx : ∀ x ∈ xs, itmOk x) (bh : List UInt8) (cut : Int) (hcut : 0 ≤ cut ∧ cut ≤ 65535) (w : World) (hR : Rd w A (flat encI xs)) :
    Fc Try.prog 7 [.slice A xs.length c, .string (strY bh), .int .u16 cut] w fun v w' => v = .bool true ∧ St [] w w' [] := by
  refine fc_i TB_ok Try.func7 rfl (by kernel_rfl) ?_
  have hS := Sf.refl w
  have hsz := strY_size bh
  repeat ((conv => whnf); first | (refine nw_f hS ?_; intro b w1 hS) | (refine as_i hS ?_) | (refine bar_f hS ?_) | (refine drawf TB_ok rfl (by kernel_rfl) (by kernel_rfl) hS (List.Sublist.refl _) (List.Sublist.refl _) ?_; intro w1 hS) | (refine br_t (by assumption) ?_) | (refine br_f (by assumption) ?_) | (apply q_i; focus (intro w1 hS; (conv => whnf); first | exact ⟨rfl, rfl⟩)))
  refine fc_m (few_c A c xs _ hR) ?_
  rintro v w1 ⟨⟨fb, rfl, hfb⟩, hS'⟩
  replace hS := hS.call0 hS'
  by_cases hg : fb = false ∨ 300 < bh.length
  · cases fb
    all_goals
      repeat' ((conv => whnf); first | (refine nw_f hS ?_; intro b w1 hS) | (refine br_i (fun _ => ?_) (fun _ => ?_)))
    all_goals first
      | (exfalso; simp only [decide_eq_true_eq, decide_eq_false_iff_not] at *; omega)
      | (exfalso; simp at *; omega)
      | (refine fc_m (awake_c _) ?_
         rintro v w2 ⟨rfl, hS'⟩
         replace hS := hS.call0 hS'
         repeat ((conv => whnf); first | (refine nw_f hS ?_; intro b w1 hS) | (refine as_i hS ?_) | (refine bar_f hS ?_) | (refine drawf TB_ok rfl (by kernel_rfl) (by kernel_rfl) hS (List.Sublist.refl _) (List.Sublist.refl _) ?_; intro w1 hS) | (refine br_t (by assumption) ?_) | (refine br_f (by assumption) ?_) | (apply q_i; focus (intro w1 hS; (conv => whnf); first | exact ⟨rfl, rfl⟩)))
         exact ⟨rfl, hS.nil⟩)
  obtain rfl : fb = true := by cases fb <;> simp_all
  obtain ⟨h60, h300⟩ := hfb rfl
  have hbh : bh.length ≤ 300 := by omega
  have g1 : decide ((300 : Int) < ((strY bh).size : Int)) = false := decide_eq_false (by omega)
  repeat ((conv => whnf); first | (refine nw_f hS ?_; intro b w1 hS) | (refine as_i hS ?_) | (refine bar_f hS ?_) | (refine drawf TB_ok rfl (by kernel_rfl) (by kernel_rfl) hS (List.Sublist.refl _) (List.Sublist.refl _) ?_; intro w1 hS) | (refine br_t (by assumption) ?_) | (refine br_f (by assumption) ?_) | (apply q_i; focus (intro w1 hS; (conv => whnf); first | exact ⟨rfl, rfl⟩)))
  obtain ⟨bw, hbw⟩ : ∃ x, x = b := ⟨b, rfl⟩
  subst hbw
  replace hS : Sf [] w _ ([(bw, Obj.cells #[.slice none 0 0] 28 (0, 0))] ++ []) [] := ⟨by simpa using hS.st⟩
  refine loop_i TB_ok (fun i : Nat => [(8, .int .i64 i)]) (fun i w' => i ≤ xs.length ∧ ∃ L', Wr bw (itmsD (xs.take i)) L' ∧ Sf [] w w' (L' ++ []) []) (fun i => xs.length - i) 0 rfl ⟨Nat.zero_le _, _, Wr.new bw, hS⟩ ?_
  rintro i us w2 ⟨hi, L', hW, hS⟩
  (conv => whnf)
  refine br_i (fun hb => ?_) (fun hb => ?_)
  · have hlt : i < xs.length := by have := of_decide_eq_true hb; omega
    have hRw := hR.below hS.nil
    obtain ⟨b, off, rfl⟩ := hR.form (flat_ne encI_len (by omega) hlt)
    have hl := itmsD_len (xs.take i) (fun x hx => h300 x (List.mem_of_mem_take hx))
    rw [List.length_take] at hl
    repeat ((conv => whnf); first | (refine nw_f hS ?_; intro b w1 hS) | (refine as_i hS ?_) | (refine bar_f hS ?_) | (refine .mk ⟨by omega, by omega⟩ ?_; refine ix_i rfl ?_) | (refine ldN_el encI_len hRw.at hlt rfl rfl ?_) | (refine drawf TB_ok rfl (by kernel_rfl) (by kernel_rfl) hS (List.Sublist.refl _) (List.Sublist.refl _) ?_; intro w1 hS) | (refine br_t (by assumption) ?_) | (refine br_f (by assumption) ?_) | (apply q_i; focus (intro w1 hS; (conv => whnf); first | exact ⟨rfl, rfl⟩ | ((refine .mk ⟨by omega, by omega⟩ ?_; refine ix_i rfl ?_); (conv => whnf); exact ⟨rfl, rfl⟩) | ((refine ldN_el encI_len hRw.at hlt rfl rfl ?_); (conv => whnf); exact ⟨rfl, rfl⟩))))
    refine fc_m (writeI_c bw _ _ hW xs[i] (hx _ (List.getElem_mem hlt)) (h300 _ (List.getElem_mem hlt)) _ hS.ownF (by omega)) ?_
    rintro v w3 ⟨L2, hW2, hS'⟩
    replace hS := hS.callW hS'
    rw [← itmsD_snoc xs hlt] at hW2
    repeat ((conv => whnf); first | (refine nw_f hS ?_; intro b w1 hS) | (refine as_i hS ?_) | (refine bar_f hS ?_) | (refine drawf TB_ok rfl (by kernel_rfl) (by kernel_rfl) hS (List.Sublist.refl _) (List.Sublist.refl _) ?_; intro w1 hS) | (refine br_t (by assumption) ?_) | (refine br_f (by assumption) ?_) | (apply q_i; focus (intro w1 hS; (conv => whnf); first | exact ⟨rfl, rfl⟩)))
    refine ⟨rfl, i + 1, ?_, ⟨by omega, L2, hW2, hS⟩, by omega⟩
    rw [wi hlt (by omega)]
    rfl
  have hge : i = xs.length := by have := of_decide_eq_false hb; omega
  subst hge
  rw [List.take_length] at hW
  have hD := itmsD_len xs h300
  repeat ((conv => whnf); first | (refine nw_f hS ?_; intro b w1 hS) | (refine as_i hS ?_) | (refine bar_f hS ?_) | (refine drawf TB_ok rfl (by kernel_rfl) (by kernel_rfl) hS (List.Sublist.refl _) (List.Sublist.refl _) ?_; intro w1 hS) | (refine br_t (by assumption) ?_) | (refine br_f (by assumption) ?_) | (apply q_i; focus (intro w1 hS; (conv => whnf); first | exact ⟨rfl, rfl⟩)))
  refine fc_m (bytes_c bw _ _ hW _ hS.ownF) ?_
  rintro v w3 ⟨rfl, hS'⟩
  replace hS := hS.call0 hS'
  replace hS := hS.fr (List.nil_sublist _)
  replace hS : Sf [] w _ [] [] := ⟨by simpa using hS⟩
  have hback : ∀ i, i ≤ xs.length → rds (xs.take i) ⟨itmsD xs ++ bh, 0⟩ = ⟨itmsD (xs.drop i) ++ bh, 0⟩ := by
    intro i
    induction i with
    | zero => intro _; rfl
    | succ i ih =>
      intro hi
      have hlt : i < xs.length := by omega
      rw [rds_snoc xs _ hlt, ih (by omega), List.drop_eq_getElem_cons hlt]
      rw [itmsD_cons, List.append_assoc]
      exact (item_back xs[i] (hx _ (List.getElem_mem hlt)) (h300 _ (List.getElem_mem hlt)) _).2
  have hbackB : ∀ i (hlt : i < xs.length), rdB xs[i] ⟨itmsD (xs.drop i) ++ bh, 0⟩ = true := by
    intro i hlt
    rw [List.drop_eq_getElem_cons hlt]
    rw [itmsD_cons, List.append_assoc]
    exact (item_back xs[i] (hx _ (List.getElem_mem hlt)) (h300 _ (List.getElem_mem hlt)) _).1
  have htorn : ∀ p q, p ++ q = itmsD xs → q ≠ [] → rds xs ⟨p, 0⟩ = ⟨[], 10⟩ := rds_torn xs hx h300
  generalize hsd : itmsD xs = sd at *
  have hszd := strY_size sd
  repeat ((conv => whnf); first | (refine nw_f hS ?_; intro b w1 hS) | (refine as_i hS ?_) | (refine bar_f hS ?_) | (refine .mk (by show (strY sd).size + (strY bh).size ≤ _; rw [strY_size, strY_size]; omega) ?_) | (refine drawf TB_ok rfl (by kernel_rfl) (by kernel_rfl) hS (List.Sublist.refl _) (List.Sublist.refl _) ?_; intro w1 hS) | (refine br_t (by assumption) ?_) | (refine br_f (by assumption) ?_) | (apply q_i; focus (intro w1 hS; (conv => whnf); first | exact ⟨rfl, rfl⟩ | ((refine .mk (by show (strY sd).size + (strY bh).size ≤ _; rw [strY_size, strY_size]; omega) ?_); (conv => whnf); exact ⟨rfl, rfl⟩))))
  have es : strY sd ++ strY bh = strY (sd ++ bh) := by rw [strY_append]
  rw [es]
  refine fc_m (read_c (sd ++ bh) _) ?_
  rintro v w4 ⟨br, rfl, hS'⟩
  replace hS := hS.callF hS'
  repeat ((conv => whnf); first | (refine nw_f hS ?_; intro b w1 hS) | (refine as_i hS ?_) | (refine bar_f hS ?_) | (refine drawf TB_ok rfl (by kernel_rfl) (by kernel_rfl) hS (List.Sublist.refl _) (List.Sublist.refl _) ?_; intro w1 hS) | (refine br_t (by assumption) ?_) | (refine br_f (by assumption) ?_) | (apply q_i; focus (intro w1 hS; (conv => whnf); first | exact ⟨rfl, rfl⟩)))
  refine loop_i TB_ok (fun i : Nat => [(11, .int .i64 i)]) (fun i w' => i ≤ xs.length ∧ Sf [] w w' ([(br, rdO (rds (xs.take i) ⟨sd ++ bh, 0⟩))] ++ []) []) (fun i => xs.length - i) 0 rfl ⟨Nat.zero_le _, hS⟩ ?_
  rintro i us2 w5 ⟨hi, hS⟩
  (conv => whnf)
  rw [hback i hi] at hS
  refine br_i (fun hb => ?_) (fun hb => ?_)
  · have hlt : i < xs.length := by have := of_decide_eq_true hb; omega
    have hRw := hR.below hS.nil
    obtain ⟨b, off, rfl⟩ := hR.form (flat_ne encI_len (by omega) hlt)
    repeat ((conv => whnf); first | (refine nw_f hS ?_; intro b w1 hS) | (refine as_i hS ?_) | (refine bar_f hS ?_) | (refine .mk ⟨by omega, by omega⟩ ?_; refine ix_i rfl ?_) | (refine ldN_el encI_len hRw.at hlt rfl rfl ?_) | (refine drawf TB_ok rfl (by kernel_rfl) (by kernel_rfl) hS (List.Sublist.refl _) (List.Sublist.refl _) ?_; intro w1 hS) | (refine br_t (by assumption) ?_) | (refine br_f (by assumption) ?_) | (apply q_i; focus (intro w1 hS; (conv => whnf); first | exact ⟨rfl, rfl⟩ | ((refine .mk ⟨by omega, by omega⟩ ?_; refine ix_i rfl ?_); (conv => whnf); exact ⟨rfl, rfl⟩) | ((refine ldN_el encI_len hRw.at hlt rfl rfl ?_); (conv => whnf); exact ⟨rfl, rfl⟩))))
    refine fc_m (readI_c br _ xs[i] (hx _ (List.getElem_mem hlt)) _ hS.ownF) ?_
    rintro v w6 ⟨rfl, hS'⟩
    replace hS := hS.callW hS'
    rw [hbackB i hlt]
    rw [← hback i (by omega), ← rds_snoc xs _ hlt] at hS
    repeat ((conv => whnf); first | (refine nw_f hS ?_; intro b w1 hS) | (refine as_i hS ?_) | (refine bar_f hS ?_) | (refine drawf TB_ok rfl (by kernel_rfl) (by kernel_rfl) hS (List.Sublist.refl _) (List.Sublist.refl _) ?_; intro w1 hS) | (refine br_t (by assumption) ?_) | (refine br_f (by assumption) ?_) | (apply q_i; focus (intro w1 hS; (conv => whnf); first | exact ⟨rfl, rfl⟩)))
    refine ⟨rfl, i + 1, ?_, ⟨by omega, hS⟩, by omega⟩
    rw [wi hlt (by omega)]
    rfl
  have hge : i = xs.length := by have := of_decide_eq_false hb; omega
  subst hge
  rw [List.drop_length, show itmsD [] ++ bh = bh from rfl] at hS
  repeat ((conv => whnf); first | (refine nw_f hS ?_; intro b w1 hS) | (refine as_i hS ?_) | (refine bar_f hS ?_) | (refine drawf TB_ok rfl (by kernel_rfl) (by kernel_rfl) hS (List.Sublist.refl _) (List.Sublist.refl _) ?_; intro w1 hS) | (refine br_t (by assumption) ?_) | (refine br_f (by assumption) ?_) | (apply q_i; focus (intro w1 hS; (conv => whnf); first | exact ⟨rfl, rfl⟩)))
  refine fc_m (rerr_c br _ _ hS.ownF) ?_
  rintro v w6 ⟨rfl, hS'⟩
  replace hS := hS.call0 hS'
  repeat ((conv => whnf); first | (refine nw_f hS ?_; intro b w1 hS) | (refine as_i hS ?_) | (refine bar_f hS ?_) | (refine drawf TB_ok rfl (by kernel_rfl) (by kernel_rfl) hS (List.Sublist.refl _) (List.Sublist.refl _) ?_; intro w1 hS) | (refine br_t (by assumption) ?_) | (refine br_f (by assumption) ?_) | (apply q_i; focus (intro w1 hS; (conv => whnf); first | exact ⟨rfl, rfl⟩)))
  refine fc_m (strP (rrest_c br _ _ hS.ownF) (strY bh) (lit_eq _ rfl)) ?_
  rintro v w7 ⟨y7, rfl, es7, en7, hS'⟩
  replace hS := hS.call0 hS'
  repeat ((conv => whnf); first | (refine nw_f hS ?_; intro b w1 hS) | (refine as_i hS ?_) | (refine bar_f hS ?_) | (refine drawf TB_ok rfl (by kernel_rfl) (by kernel_rfl) hS (List.Sublist.refl _) (List.Sublist.refl _) ?_; intro w1 hS) | (refine br_t (by assumption) ?_) | (refine br_f (by assumption) ?_) | (apply q_i; focus (intro w1 hS; (conv => whnf); first | exact ⟨rfl, rfl⟩)))
  refine fc_m (rend_c br _ _ hS.ownF) ?_
  rintro v w8 ⟨rfl, hS'⟩
  replace hS := hS.call0 hS'
  have hend : ((endR ⟨bh, 0⟩ == 0) != streq (strY bh) ⟨#[]⟩) = false := by
    rw [show (⟨#[]⟩ : ByteArray) = strY [] from rfl, streq_strY]
    unfold endR
    cases bh <;> simp
  repeat ((conv => whnf); first | (refine nw_f hS ?_; intro b w1 hS) | (refine as_i hS ?_) | (refine bar_f hS ?_) | (refine drawf TB_ok rfl (by kernel_rfl) (by kernel_rfl) hS (List.Sublist.refl _) (List.Sublist.refl _) ?_; intro w1 hS) | (refine br_t (by assumption) ?_) | (refine br_f (by assumption) ?_) | (apply q_i; focus (intro w1 hS; (conv => whnf); first | exact ⟨rfl, rfl⟩)))
  replace hS := hS.fr (List.nil_sublist _)
  replace hS : Sf [] w _ [] [] := ⟨by simpa using hS⟩
  (conv => whnf)
  refine br_i (fun hb => ?_) (fun hb => ?_)
  · repeat ((conv => whnf); first | (refine nw_f hS ?_; intro b w1 hS) | (refine as_i hS ?_) | (refine bar_f hS ?_) | (refine drawf TB_ok rfl (by kernel_rfl) (by kernel_rfl) hS (List.Sublist.refl _) (List.Sublist.refl _) ?_; intro w1 hS) | (refine br_t (by assumption) ?_) | (refine br_f (by assumption) ?_) | (apply q_i; focus (intro w1 hS; (conv => whnf); first | exact ⟨rfl, rfl⟩)))
    refine fc_m (awake_c _) ?_
    rintro v w9 ⟨rfl, hS'⟩
    replace hS := hS.call0 hS'
    repeat ((conv => whnf); first | (refine nw_f hS ?_; intro b w1 hS) | (refine as_i hS ?_) | (refine bar_f hS ?_) | (refine drawf TB_ok rfl (by kernel_rfl) (by kernel_rfl) hS (List.Sublist.refl _) (List.Sublist.refl _) ?_; intro w1 hS) | (refine br_t (by assumption) ?_) | (refine br_f (by assumption) ?_) | (apply q_i; focus (intro w1 hS; (conv => whnf); first | exact ⟨rfl, rfl⟩)))
    exact ⟨rfl, hS.nil⟩
  have hsd0 : sd ≠ [] := by
    rintro rfl
    have h := lit_eq (bs := []) [] rfl
    rw [show strY [] = (⟨#[]⟩ : ByteArray) from rfl] at h
    exact absurd (h.symm.trans hb) (by decide)
  have hl0 := len_ne hsd0
  have hc1 : IntKind.i64.wrap cut = cut := wrap_i64 (by omega) (by omega)
  have hmod : (IntKind.i64.wrap cut).tmod ((strY sd).size : Int) = ((cut.toNat % sd.length : Nat) : Int) := by
    rw [hc1, hszd, Int.tmod_eq_emod_of_nonneg hcut.1]
    push_cast
    rw [Int.toNat_of_nonneg hcut.1]
  have hlt0 : cut.toNat % sd.length < sd.length := Nat.mod_lt _ hl0
  repeat ((conv => whnf); first | (refine nw_f hS ?_; intro b w1 hS) | (refine as_i hS ?_) | (refine bar_f hS ?_) | (refine .mk (by omega) ?_) | (refine .mk ⟨by rw [hmod]; omega, by rw [hmod]; omega⟩ ?_) | (refine .mk ⟨by omega, by rw [hmod]; omega⟩ ?_) | (refine drawf TB_ok rfl (by kernel_rfl) (by kernel_rfl) hS (List.Sublist.refl _) (List.Sublist.refl _) ?_; intro w1 hS) | (refine br_t (by assumption) ?_) | (refine br_f (by assumption) ?_) | (apply q_i; focus (intro w1 hS; (conv => whnf); first | exact ⟨rfl, rfl⟩ | ((refine .mk (by omega) ?_); (conv => whnf); exact ⟨rfl, rfl⟩) | ((refine .mk ⟨by rw [hmod]; omega, by rw [hmod]; omega⟩ ?_); (conv => whnf); exact ⟨rfl, rfl⟩) | ((refine .mk ⟨by omega, by rw [hmod]; omega⟩ ?_); (conv => whnf); exact ⟨rfl, rfl⟩))))
  have ee : (strY sd).extract 0 ((IntKind.i64.wrap cut).tmod ((strY sd).size : Int)).toNat = strY (sd.take (cut.toNat % sd.length)) := by
    rw [hmod, strY_extract]
    simp only [Int.toNat_natCast, List.drop_zero]
  have ht := htorn (sd.take (cut.toNat % sd.length)) (sd.drop (cut.toNat % sd.length)) (List.take_append_drop _ _) (by
    intro h
    have := congrArg List.length h
    simp at this
    omega)
  generalize sd.take (cut.toNat % sd.length) = pp at *
  have hrd : ∀ w, Fc Try.prog 12 [.string ((strY sd).extract 0 ((IntKind.i64.wrap cut).tmod ((strY sd).size : Int)).toNat)] w fun v w' => ∃ b, v = .pointer (some ⟨b, 0, none⟩) ∧ St [] w w' [(b, rdO ⟨pp, 0⟩)] := fun w => by
    rw [ee]
    exact read_c pp w
  refine fc_m (hrd _) ?_
  rintro v w10 ⟨bt, rfl, hS'⟩
  replace hS := hS.callF hS'
  repeat ((conv => whnf); first | (refine nw_f hS ?_; intro b w1 hS) | (refine as_i hS ?_) | (refine bar_f hS ?_) | (refine drawf TB_ok rfl (by kernel_rfl) (by kernel_rfl) hS (List.Sublist.refl _) (List.Sublist.refl _) ?_; intro w1 hS) | (refine br_t (by assumption) ?_) | (refine br_f (by assumption) ?_) | (apply q_i; focus (intro w1 hS; (conv => whnf); first | exact ⟨rfl, rfl⟩)))
  refine loop_i TB_ok (fun i : Nat => [(13, .int .i64 i)]) (fun i w' => i ≤ xs.length ∧ Sf [] w w' ([(bt, rdO (rds (xs.take i) ⟨pp, 0⟩))] ++ []) []) (fun i => xs.length - i) 0 rfl ⟨Nat.zero_le _, hS⟩ ?_
  rintro i us3 w11 ⟨hi, hS⟩
  (conv => whnf)
  refine br_i (fun hb => ?_) (fun hb => ?_)
  · have hlt : i < xs.length := by have := of_decide_eq_true hb; omega
    have hRw := hR.below hS.nil
    obtain ⟨b, off, rfl⟩ := hR.form (flat_ne encI_len (by omega) hlt)
    repeat ((conv => whnf); first | (refine nw_f hS ?_; intro b w1 hS) | (refine as_i hS ?_) | (refine bar_f hS ?_) | (refine .mk ⟨by omega, by omega⟩ ?_; refine ix_i rfl ?_) | (refine ldN_el encI_len hRw.at hlt rfl rfl ?_) | (refine drawf TB_ok rfl (by kernel_rfl) (by kernel_rfl) hS (List.Sublist.refl _) (List.Sublist.refl _) ?_; intro w1 hS) | (refine br_t (by assumption) ?_) | (refine br_f (by assumption) ?_) | (apply q_i; focus (intro w1 hS; (conv => whnf); first | exact ⟨rfl, rfl⟩ | ((refine .mk ⟨by omega, by omega⟩ ?_; refine ix_i rfl ?_); (conv => whnf); exact ⟨rfl, rfl⟩) | ((refine ldN_el encI_len hRw.at hlt rfl rfl ?_); (conv => whnf); exact ⟨rfl, rfl⟩))))
    refine fc_m (readI_c bt _ xs[i] (hx _ (List.getElem_mem hlt)) _ hS.ownF) ?_
    rintro v w12 ⟨rfl, hS'⟩
    replace hS := hS.callW hS'
    rw [← rds_snoc xs _ hlt] at hS
    repeat ((conv => whnf); first | (refine nw_f hS ?_; intro b w1 hS) | (refine as_i hS ?_) | (refine bar_f hS ?_) | (refine drawf TB_ok rfl (by kernel_rfl) (by kernel_rfl) hS (List.Sublist.refl _) (List.Sublist.refl _) ?_; intro w1 hS) | (refine br_t (by assumption) ?_) | (refine br_f (by assumption) ?_) | (apply q_i; focus (intro w1 hS; (conv => whnf); first | exact ⟨rfl, rfl⟩)))
    refine ⟨rfl, i + 1, ?_, ⟨by omega, hS⟩, by omega⟩
    rw [wi hlt (by omega)]
    rfl
  have hge : i = xs.length := by have := of_decide_eq_false hb; omega
  subst hge
  rw [List.take_length, ht] at hS
  repeat ((conv => whnf); first | (refine nw_f hS ?_; intro b w1 hS) | (refine as_i hS ?_) | (refine bar_f hS ?_) | (refine drawf TB_ok rfl (by kernel_rfl) (by kernel_rfl) hS (List.Sublist.refl _) (List.Sublist.refl _) ?_; intro w1 hS) | (refine br_t (by assumption) ?_) | (refine br_f (by assumption) ?_) | (apply q_i; focus (intro w1 hS; (conv => whnf); first | exact ⟨rfl, rfl⟩)))
  refine fc_m (rerr_c bt _ _ hS.ownF) ?_
  rintro v w13 ⟨rfl, hS'⟩
  replace hS := hS.call0 hS'
  repeat ((conv => whnf); first | (refine nw_f hS ?_; intro b w1 hS) | (refine as_i hS ?_) | (refine bar_f hS ?_) | (refine drawf TB_ok rfl (by kernel_rfl) (by kernel_rfl) hS (List.Sublist.refl _) (List.Sublist.refl _) ?_; intro w1 hS) | (refine br_t (by assumption) ?_) | (refine br_f (by assumption) ?_) | (apply q_i; focus (intro w1 hS; (conv => whnf); first | exact ⟨rfl, rfl⟩)))
  refine fc_m (strP (rrest_c bt _ _ hS.ownF) (strY []) (lit_eq _ rfl)) ?_
  rintro v w14 ⟨y14, rfl, es14, en14, hS'⟩
  replace hS := hS.call0 hS'
  repeat ((conv => whnf); first | (refine nw_f hS ?_; intro b w1 hS) | (refine as_i hS ?_) | (refine bar_f hS ?_) | (refine drawf TB_ok rfl (by kernel_rfl) (by kernel_rfl) hS (List.Sublist.refl _) (List.Sublist.refl _) ?_; intro w1 hS) | (refine br_t (by assumption) ?_) | (refine br_f (by assumption) ?_) | (apply q_i; focus (intro w1 hS; (conv => whnf); first | exact ⟨rfl, rfl⟩)))
  refine fc_m (awake_c _) ?_
  rintro v w15 ⟨rfl, hS'⟩
  replace hS := hS.call0 hS'
  repeat ((conv => whnf); first | (refine nw_f hS ?_; intro b w1 hS) | (refine as_i hS ?_) | (refine bar_f hS ?_) | (refine drawf TB_ok rfl (by kernel_rfl) (by kernel_rfl) hS (List.Sublist.refl _) (List.Sublist.refl _) ?_; intro w1 hS) | (refine br_t (by assumption) ?_) | (refine br_f (by assumption) ?_) | (apply q_i; focus (intro w1 hS; (conv => whnf); first | exact ⟨rfl, rfl⟩)))
  exact ⟨rfl, hS.nil⟩
end Go.RV
