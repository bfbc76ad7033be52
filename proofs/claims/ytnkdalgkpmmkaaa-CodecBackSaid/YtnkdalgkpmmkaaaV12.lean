/- Contracts of functions of chapter 1: few, reads, awake; CodecWrites walked. Conditions: none. -/
import Derived.Test.YtnkdalgkpmmkaaaV11
set_option maxRecDepth 20000
set_option linter.unusedVariables false
set_option linter.unusedSimpArgs false
namespace Go.RV
open Go Go.Proofs

theorem Wr.new (b : Nat) : Wr b [] [(b, .cells #[.slice none 0 0] 28 (0, 0))] := ⟨_, [], rfl, .nil⟩
theorem lit_eq {bs : List UInt8} (l : List UInt8) (h : bs = l) : streq (strY bs) (strY l) = true := by rw [streq_strY, h]; simp
theorem bytesK {bw : Nat} {bs : List UInt8} {L : LM} (a : ByteArray) (e : streq (strY bs) a = true) (hW : Wr bw bs L) {w : World} (hS : St (keys L) w w L) :
    Fc Try.prog 11 [.pointer (some ⟨bw, 0, none⟩)] w fun v w' => ∃ s, v = .string s ∧ streq s a = true ∧ St [] w w' [] :=
  Fc.mono (bytes_c bw bs L hW w hS) fun v w' h => ⟨_, h.1, e, h.2⟩

theorem readsT_c (s : List UInt8) (n want : Int) (h1 : ((varR ⟨s, 0⟩).1 == n) = true) (h2 : ((varR ⟨s, 0⟩).2.e == want) = true) (w : World) :
    Fc Try.prog 24 [.string (strY s), .int .u32 n, .int .i64 want] w fun v w' => v = .bool true ∧ St [] w w' [] := by
  refine fc_i TB_ok Try.func24 rfl (by kernel_rfl) ?_
  have hS := Sf.refl w
  repeat ((conv => whnf); first | (refine nw_f hS ?_; intro b w1 hS) | (refine ld_f hS 0 rfl rfl ?_) | (refine ldA_f hS 0 rfl rfl ?_) | (refine stN_f hS 0 rfl (Nat.le_of_ble_eq_true rfl) rfl rfl ?_; (conv => whnf); intro w1 hS) | (refine stM_f hS 0 rfl (Nat.le_of_ble_eq_true rfl) rfl ?_; (conv => whnf); intro w1 hS))
  refine fc_m (read_c s _) ?_
  rintro v w1 ⟨b, rfl, hS'⟩
  replace hS := hS.callF hS'
  repeat ((conv => whnf); first | (refine nw_f hS ?_; intro b w1 hS) | (refine ld_f hS 0 rfl rfl ?_) | (refine ldA_f hS 0 rfl rfl ?_) | (refine stN_f hS 0 rfl (Nat.le_of_ble_eq_true rfl) rfl rfl ?_; (conv => whnf); intro w1 hS) | (refine stM_f hS 0 rfl (Nat.le_of_ble_eq_true rfl) rfl ?_; (conv => whnf); intro w1 hS))
  refine fc_m (rvarR_c b ⟨s, 0⟩ _ hS.ownF) ?_
  rintro v w2 ⟨rfl, hS'⟩
  replace hS := hS.callW hS'
  generalize varR ⟨s, 0⟩ = r at *
  repeat ((conv => whnf); first | (refine nw_f hS ?_; intro b w1 hS) | (refine as_i hS ?_) | (refine bar_f hS ?_) | (refine ld_f hS 0 rfl rfl ?_) | (refine ldA_f hS 0 rfl rfl ?_) | (refine stN_f hS 0 rfl (Nat.le_of_ble_eq_true rfl) rfl rfl ?_; (conv => whnf); intro w1 hS) | (refine stM_f hS 0 rfl (Nat.le_of_ble_eq_true rfl) rfl ?_; (conv => whnf); intro w1 hS) | (refine drawf TB_ok rfl (by kernel_rfl) (by kernel_rfl) hS (List.Sublist.refl _) (List.Sublist.refl _) ?_; intro w1 hS) | (refine br_t (by assumption) ?_) | (refine br_f (by assumption) ?_) | (apply q_i; focus (intro w1 hS; (conv => whnf); first | exact ⟨rfl, rfl⟩ | ((refine ld_f hS 0 rfl rfl ?_); (conv => whnf); exact ⟨rfl, rfl⟩) | ((refine ldA_f hS 0 rfl rfl ?_); (conv => whnf); exact ⟨rfl, rfl⟩))))
  refine fc_m (rerr_c b r.2 _ hS.ownF) ?_
  rintro v w3 ⟨rfl, hS'⟩
  replace hS := hS.call0 hS'
  repeat ((conv => whnf); first | (refine nw_f hS ?_; intro b w1 hS) | (refine as_i hS ?_) | (refine bar_f hS ?_) | (refine ld_f hS 0 rfl rfl ?_) | (refine ldA_f hS 0 rfl rfl ?_) | (refine stN_f hS 0 rfl (Nat.le_of_ble_eq_true rfl) rfl rfl ?_; (conv => whnf); intro w1 hS) | (refine stM_f hS 0 rfl (Nat.le_of_ble_eq_true rfl) rfl ?_; (conv => whnf); intro w1 hS) | (refine drawf TB_ok rfl (by kernel_rfl) (by kernel_rfl) hS (List.Sublist.refl _) (List.Sublist.refl _) ?_; intro w1 hS) | (refine br_t (by assumption) ?_) | (refine br_f (by assumption) ?_) | (apply q_i; focus (intro w1 hS; (conv => whnf); first | exact ⟨rfl, rfl⟩ | ((refine ld_f hS 0 rfl rfl ?_); (conv => whnf); exact ⟨rfl, rfl⟩) | ((refine ldA_f hS 0 rfl rfl ?_); (conv => whnf); exact ⟨rfl, rfl⟩))))
  exact ⟨congrArg Value.bool h2, hS.nil⟩

theorem awake_c (w : World) : Fc Try.prog 9 [] w fun v w' => v = .bool true ∧ St [] w w' [] := by
  refine fc_i TB_ok Try.func9 rfl (by kernel_rfl) ?_
  have hS := Sf.refl w
  repeat ((conv => whnf); first | (refine nw_f hS ?_; intro b w1 hS) | (refine ld_f hS 0 rfl rfl ?_) | (refine ldA_f hS 0 rfl rfl ?_) | (refine stN_f hS 0 rfl (Nat.le_of_ble_eq_true rfl) rfl rfl ?_; (conv => whnf); intro w1 hS) | (refine stM_f hS 0 rfl (Nat.le_of_ble_eq_true rfl) rfl ?_; (conv => whnf); intro w1 hS))
  obtain ⟨bw, hbw⟩ : ∃ x, x = b := ⟨b, rfl⟩
  subst hbw
  replace hS : Sf [] w _ ([(bw, Obj.cells #[.slice none 0 0] 28 (0, 0))] ++ []) [] := ⟨by simpa using hS.st⟩
  refine fc_m (w16_c bw [] _ (Wr.new bw) 258 (by decide) (by decide) _ hS.ownF (by decide)) ?_
  rintro v w2 ⟨L1, hW1, hS'⟩
  replace hS := hS.callW hS'
  have e1 : [] ++ be 258 2 = [1, 2] := by decide +kernel
  rw [e1] at hW1
  repeat ((conv => whnf); first | (refine nw_f hS ?_; intro b w1 hS) | (refine ld_f hS 0 rfl rfl ?_) | (refine ldA_f hS 0 rfl rfl ?_) | (refine stN_f hS 0 rfl (Nat.le_of_ble_eq_true rfl) rfl rfl ?_; (conv => whnf); intro w1 hS) | (refine stM_f hS 0 rfl (Nat.le_of_ble_eq_true rfl) rfl ?_; (conv => whnf); intro w1 hS))
  refine fc_m (wvar_c bw _ _ hW1 300 (by decide) (by decide) _ hS.ownF (by decide)) ?_
  rintro v w3 ⟨L2, hW2, hS'⟩
  replace hS := hS.callW hS'
  have e2 : [1, 2] ++ varD 300 = [1, 2, 172, 2] := by decide +kernel
  rw [e2] at hW2
  repeat ((conv => whnf); first | (refine nw_f hS ?_; intro b w1 hS) | (refine ld_f hS 0 rfl rfl ?_) | (refine ldA_f hS 0 rfl rfl ?_) | (refine stN_f hS 0 rfl (Nat.le_of_ble_eq_true rfl) rfl rfl ?_; (conv => whnf); intro w1 hS) | (refine stM_f hS 0 rfl (Nat.le_of_ble_eq_true rfl) rfl ?_; (conv => whnf); intro w1 hS))
  refine fc_m (wtext_c bw _ [97, 98] _ hW2 _ hS.ownF (by decide) (by decide)) ?_
  rintro v w4 ⟨L3, hW3, hS'⟩
  replace hS := hS.callW hS'
  have e3 : [1, 2, 172, 2] ++ textD [97, 98] = [1, 2, 172, 2, 2, 97, 98] := by decide +kernel
  rw [e3] at hW3
  repeat ((conv => whnf); first | (refine nw_f hS ?_; intro b w1 hS) | (refine ld_f hS 0 rfl rfl ?_) | (refine ldA_f hS 0 rfl rfl ?_) | (refine stN_f hS 0 rfl (Nat.le_of_ble_eq_true rfl) rfl rfl ?_; (conv => whnf); intro w1 hS) | (refine stM_f hS 0 rfl (Nat.le_of_ble_eq_true rfl) rfl ?_; (conv => whnf); intro w1 hS))
  refine fc_m (bytesK _ (lit_eq _ rfl) hW3 hS.ownF) ?_
  rintro v w5 ⟨s, rfl, es, hS'⟩
  replace hS := hS.call0 hS'
  repeat ((conv => whnf); first | (refine nw_f hS ?_; intro b w1 hS) | (refine as_i hS ?_) | (refine bar_f hS ?_) | (refine ld_f hS 0 rfl rfl ?_) | (refine ldA_f hS 0 rfl rfl ?_) | (refine stN_f hS 0 rfl (Nat.le_of_ble_eq_true rfl) rfl rfl ?_; (conv => whnf); intro w1 hS) | (refine stM_f hS 0 rfl (Nat.le_of_ble_eq_true rfl) rfl ?_; (conv => whnf); intro w1 hS) | (refine drawf TB_ok rfl (by kernel_rfl) (by kernel_rfl) hS (List.Sublist.refl _) (List.Sublist.refl _) ?_; intro w1 hS) | (refine br_t (by assumption) ?_) | (refine br_f (by assumption) ?_) | (apply q_i; focus (intro w1 hS; (conv => whnf); first | exact ⟨rfl, rfl⟩ | ((refine ld_f hS 0 rfl rfl ?_); (conv => whnf); exact ⟨rfl, rfl⟩) | ((refine ldA_f hS 0 rfl rfl ?_); (conv => whnf); exact ⟨rfl, rfl⟩))))
  refine fc_m (readsT_c [172, 2] 300 0 (by decide +kernel) (by decide +kernel) _) ?_
  rintro v w6 ⟨rfl, hS'⟩
  replace hS := hS.call0 hS'
  repeat ((conv => whnf); first | (refine nw_f hS ?_; intro b w1 hS) | (refine as_i hS ?_) | (refine bar_f hS ?_) | (refine ld_f hS 0 rfl rfl ?_) | (refine ldA_f hS 0 rfl rfl ?_) | (refine stN_f hS 0 rfl (Nat.le_of_ble_eq_true rfl) rfl rfl ?_; (conv => whnf); intro w1 hS) | (refine stM_f hS 0 rfl (Nat.le_of_ble_eq_true rfl) rfl ?_; (conv => whnf); intro w1 hS) | (refine drawf TB_ok rfl (by kernel_rfl) (by kernel_rfl) hS (List.Sublist.refl _) (List.Sublist.refl _) ?_; intro w1 hS) | (refine br_t (by assumption) ?_) | (refine br_f (by assumption) ?_) | (apply q_i; focus (intro w1 hS; (conv => whnf); first | exact ⟨rfl, rfl⟩ | ((refine ld_f hS 0 rfl rfl ?_); (conv => whnf); exact ⟨rfl, rfl⟩) | ((refine ldA_f hS 0 rfl rfl ?_); (conv => whnf); exact ⟨rfl, rfl⟩))))
  refine fc_m (readsT_c [128] 0 10 (by decide +kernel) (by decide +kernel) _) ?_
  rintro v w7 ⟨rfl, hS'⟩
  replace hS := hS.call0 hS'
  repeat ((conv => whnf); first | (refine nw_f hS ?_; intro b w1 hS) | (refine as_i hS ?_) | (refine bar_f hS ?_) | (refine ld_f hS 0 rfl rfl ?_) | (refine ldA_f hS 0 rfl rfl ?_) | (refine stN_f hS 0 rfl (Nat.le_of_ble_eq_true rfl) rfl rfl ?_; (conv => whnf); intro w1 hS) | (refine stM_f hS 0 rfl (Nat.le_of_ble_eq_true rfl) rfl ?_; (conv => whnf); intro w1 hS) | (refine drawf TB_ok rfl (by kernel_rfl) (by kernel_rfl) hS (List.Sublist.refl _) (List.Sublist.refl _) ?_; intro w1 hS) | (refine br_t (by assumption) ?_) | (refine br_f (by assumption) ?_) | (apply q_i; focus (intro w1 hS; (conv => whnf); first | exact ⟨rfl, rfl⟩ | ((refine ld_f hS 0 rfl rfl ?_); (conv => whnf); exact ⟨rfl, rfl⟩) | ((refine ldA_f hS 0 rfl rfl ?_); (conv => whnf); exact ⟨rfl, rfl⟩))))
  exact ⟨rfl, hS.nil⟩

theorem few_c (A : Option Addr) (c : Nat) (xs : List Itm) (w : World) (hR : Rd w A (flat encI xs)) :
    Fc Try.prog 8 [.slice A xs.length c] w fun v w' => (∃ b, v = .bool b ∧ (b = true → xs.length ≤ 60 ∧ ∀ x ∈ xs, x.s.length ≤ 300)) ∧ St [] w w' [] := by
  refine fc_i TB_ok Try.func8 rfl (by kernel_rfl) ?_
  have hS := Sf.refl w
  repeat ((conv => whnf); first | (refine nw_f hS ?_; intro b w1 hS) | (refine ld_f hS 0 rfl rfl ?_) | (refine ldA_f hS 0 rfl rfl ?_) | (refine stN_f hS 0 rfl (Nat.le_of_ble_eq_true rfl) rfl rfl ?_; (conv => whnf); intro w1 hS) | (refine stM_f hS 0 rfl (Nat.le_of_ble_eq_true rfl) rfl ?_; (conv => whnf); intro w1 hS))
  refine loop_i TB_ok (fun i : Nat => [(3, .int .i64 i)]) (fun i w' => i ≤ xs.length ∧ (∀ x ∈ xs.take i, x.s.length ≤ 300) ∧ i ≤ 70 ∧ Sf [] w w' [] []) (fun i => xs.length - i) 0 rfl ⟨Nat.zero_le _, by simp, by decide, hS⟩ ?_
  rintro i us w2 ⟨hi, hall, hi7, hS⟩
  (conv => whnf)
  refine br_i (fun hb => ?_) (fun hb => ?_)
  · have hlt : i < xs.length := by have := of_decide_eq_true hb; omega
    (conv => whnf)
    refine br_i (fun h7 => ?_) (fun h7 => ?_)
    · have h70 : i < 70 := by have := of_decide_eq_true h7; omega
      have hRw := hR.below hS.nil
      obtain ⟨b, off, rfl⟩ := hR.form (flat_ne encI_len (by omega) hlt)
      repeat ((conv => whnf); first | (refine nw_f hS ?_; intro b w1 hS) | (refine as_i hS ?_) | (refine bar_f hS ?_) | (refine .mk ⟨by omega, by omega⟩ ?_; refine ix_i rfl ?_) | (refine ld_el encI_len hRw.at (i := i) (k := 2) hlt (by omega) rfl (v := .string (strY xs[i].s)) rfl ?_) | (refine drawf TB_ok rfl (by kernel_rfl) (by kernel_rfl) hS (List.Sublist.refl _) (List.Sublist.refl _) ?_; intro w1 hS) | (refine br_t (by assumption) ?_) | (refine br_f (by assumption) ?_) | (apply q_i; focus (intro w1 hS; (conv => whnf); first | exact ⟨rfl, rfl⟩ | ((refine .mk ⟨by omega, by omega⟩ ?_; refine ix_i rfl ?_); (conv => whnf); exact ⟨rfl, rfl⟩) | ((refine ld_el encI_len hRw.at (i := i) (k := 2) hlt (by omega) rfl (v := .string (strY xs[i].s)) rfl ?_); (conv => whnf); exact ⟨rfl, rfl⟩))))
      have hsz := strY_size xs[i].s
      refine br_i (fun h3 => ?_) (fun h3 => ?_)
      · repeat ((conv => whnf); first | (refine nw_f hS ?_; intro b w1 hS) | (refine as_i hS ?_) | (refine bar_f hS ?_) | (refine drawf TB_ok rfl (by kernel_rfl) (by kernel_rfl) hS (List.Sublist.refl _) (List.Sublist.refl _) ?_; intro w1 hS) | (refine br_t (by assumption) ?_) | (refine br_f (by assumption) ?_) | (apply q_i; focus (intro w1 hS; (conv => whnf); first | exact ⟨rfl, rfl⟩)))
        exact ⟨⟨false, rfl, fun h => by cases h⟩, hS.nil⟩
      · have h3' : xs[i].s.length ≤ 300 := by have := of_decide_eq_false h3; omega
        repeat ((conv => whnf); first | (refine nw_f hS ?_; intro b w1 hS) | (refine as_i hS ?_) | (refine bar_f hS ?_) | (refine drawf TB_ok rfl (by kernel_rfl) (by kernel_rfl) hS (List.Sublist.refl _) (List.Sublist.refl _) ?_; intro w1 hS) | (refine br_t (by assumption) ?_) | (refine br_f (by assumption) ?_) | (apply q_i; focus (intro w1 hS; (conv => whnf); first | exact ⟨rfl, rfl⟩)))
        refine ⟨rfl, i + 1, ?_, ⟨by omega, ?_, by omega, hS⟩, by omega⟩
        · rw [wi (show i < 71 by omega) (by omega)]
          rfl
        · rw [List.take_succ_eq_append_getElem hlt]
          simp only [List.mem_append, List.mem_singleton]
          rintro x (hx | rfl)
          · exact hall x hx
          · exact h3'
    · have h70 : 70 ≤ i := by have := of_decide_eq_false h7; omega
      repeat ((conv => whnf); first | (refine nw_f hS ?_; intro b w1 hS) | (refine as_i hS ?_) | (refine bar_f hS ?_) | (refine drawf TB_ok rfl (by kernel_rfl) (by kernel_rfl) hS (List.Sublist.refl _) (List.Sublist.refl _) ?_; intro w1 hS) | (refine br_t (by assumption) ?_) | (refine br_f (by assumption) ?_) | (apply q_i; focus (intro w1 hS; (conv => whnf); first | exact ⟨rfl, rfl⟩)))
      exact ⟨⟨_, rfl, fun h => by have := of_decide_eq_true h; omega⟩, hS.nil⟩
  · have hge : i = xs.length := by have := of_decide_eq_false hb; omega
    repeat ((conv => whnf); first | (refine nw_f hS ?_; intro b w1 hS) | (refine as_i hS ?_) | (refine bar_f hS ?_) | (refine drawf TB_ok rfl (by kernel_rfl) (by kernel_rfl) hS (List.Sublist.refl _) (List.Sublist.refl _) ?_; intro w1 hS) | (refine br_t (by assumption) ?_) | (refine br_f (by assumption) ?_) | (apply q_i; focus (intro w1 hS; (conv => whnf); first | exact ⟨rfl, rfl⟩)))
    refine ⟨⟨_, rfl, fun h => ⟨by have := of_decide_eq_true h; omega, by rw [hge, List.take_length] at hall; exact hall⟩⟩, hS.nil⟩

theorem itmD_len (x : Itm) (hs : x.s.length ≤ 300) : (itmD x).length ≤ 306 := by
  have h1 := varD_len x.n
  have h2 := varD_len (x.s.length : Int)
  unfold itmD
  repeat' split
  all_goals first | (rw [be_len]; omega) | omega | (simp only [textD, List.length_append]; omega)
def itmsD (l : List Itm) : List UInt8 := l.flatMap itmD
theorem itmsD_len : ∀ (l : List Itm), (∀ x ∈ l, x.s.length ≤ 300) → (itmsD l).length ≤ 306 * l.length
  | [], _ => by simp [itmsD]
  | x :: l, h => by
    have h1 := itmD_len x (h x (by simp))
    have h2 := itmsD_len l (fun y hy => h y (by simp [hy]))
    have e : itmsD (x :: l) = itmD x ++ itmsD l := by simp [itmsD]
    rw [e, List.length_append, List.length_cons]
    omega
theorem itmsD_snoc (l : List Itm) {i : Nat} (h : i < l.length) : itmsD (l.take (i + 1)) = itmsD (l.take i) ++ itmD l[i] := by
  unfold itmsD
  rw [List.take_succ_eq_append_getElem h, List.flatMap_append]
  simp

theorem codecWrites_c (A : Option Addr) (c : Nat) (xs : List Itm) (hx : ∀ x ∈ xs, itmOk x) (w : World) (hR : Rd w A (flat encI xs)) :
    Fc Try.prog 3 [.slice A xs.length c] w fun v w' => v = .bool true ∧ St [] w w' [] := by
  refine fc_i TB_ok Try.func3 rfl (by kernel_rfl) ?_
  have hS := Sf.refl w
  repeat ((conv => whnf); first | (refine nw_f hS ?_; intro b w1 hS) | (refine ld_f hS 0 rfl rfl ?_) | (refine ldA_f hS 0 rfl rfl ?_) | (refine stN_f hS 0 rfl (Nat.le_of_ble_eq_true rfl) rfl rfl ?_; (conv => whnf); intro w1 hS) | (refine stM_f hS 0 rfl (Nat.le_of_ble_eq_true rfl) rfl ?_; (conv => whnf); intro w1 hS))
  refine fc_m (few_c A c xs _ hR) ?_
  rintro v w1 ⟨⟨fb, rfl, hfb⟩, hS'⟩
  replace hS := hS.call0 hS'
  cases fb with
  | false =>
    repeat ((conv => whnf); first | (refine nw_f hS ?_; intro b w1 hS) | (refine as_i hS ?_) | (refine bar_f hS ?_) | (refine drawf TB_ok rfl (by kernel_rfl) (by kernel_rfl) hS (List.Sublist.refl _) (List.Sublist.refl _) ?_; intro w1 hS) | (refine br_t (by assumption) ?_) | (refine br_f (by assumption) ?_) | (apply q_i; focus (intro w1 hS; (conv => whnf); first | exact ⟨rfl, rfl⟩)))
    refine fc_m (awake_c _) ?_
    rintro v w2 ⟨rfl, hS'⟩
    replace hS := hS.call0 hS'
    repeat ((conv => whnf); first | (refine nw_f hS ?_; intro b w1 hS) | (refine as_i hS ?_) | (refine bar_f hS ?_) | (refine drawf TB_ok rfl (by kernel_rfl) (by kernel_rfl) hS (List.Sublist.refl _) (List.Sublist.refl _) ?_; intro w1 hS) | (refine br_t (by assumption) ?_) | (refine br_f (by assumption) ?_) | (apply q_i; focus (intro w1 hS; (conv => whnf); first | exact ⟨rfl, rfl⟩)))
    exact ⟨rfl, hS.nil⟩
  | true =>
    obtain ⟨h60, h300⟩ := hfb rfl
    repeat ((conv => whnf); first | (refine nw_f hS ?_; intro b w1 hS))
    obtain ⟨bw, hbw⟩ : ∃ x, x = b := ⟨b, rfl⟩
    subst hbw
    replace hS : Sf [] w _ ([(bw, Obj.cells #[.slice none 0 0] 28 (0, 0))] ++ []) [] := ⟨by simpa using hS.st⟩
    refine loop_i TB_ok (fun i : Nat => [(5, .int .i64 i), (4, .string (strY (itmsD (xs.take i))))]) (fun i w' => i ≤ xs.length ∧ ∃ L', Wr bw (itmsD (xs.take i)) L' ∧ Sf [] w w' (L' ++ []) []) (fun i => xs.length - i) 0 rfl ⟨Nat.zero_le _, _, Wr.new bw, hS⟩ ?_
    rintro i us w2 ⟨hi, L', hW, hS⟩
    (conv => whnf)
    refine br_i (fun hb => ?_) (fun hb => ?_)
    · have hlt : i < xs.length := by have := of_decide_eq_true hb; omega
      have hRw := hR.below hS.nil
      obtain ⟨b, off, rfl⟩ := hR.form (flat_ne encI_len (by omega) hlt)
      have hl := itmsD_len (xs.take i) (fun x hx => h300 x (List.mem_of_mem_take hx))
      have hl2 := itmD_len xs[i] (h300 _ (List.getElem_mem hlt))
      rw [List.length_take] at hl
      repeat ((conv => whnf); first | (refine nw_f hS ?_; intro b w1 hS) | (refine as_i hS ?_) | (refine bar_f hS ?_) | (refine .mk ⟨by omega, by omega⟩ ?_; refine ix_i rfl ?_) | (refine ldN_el encI_len hRw.at hlt rfl rfl ?_) | (refine drawf TB_ok rfl (by kernel_rfl) (by kernel_rfl) hS (List.Sublist.refl _) (List.Sublist.refl _) ?_; intro w1 hS) | (refine br_t (by assumption) ?_) | (refine br_f (by assumption) ?_) | (apply q_i; focus (intro w1 hS; (conv => whnf); first | exact ⟨rfl, rfl⟩ | ((refine .mk ⟨by omega, by omega⟩ ?_; refine ix_i rfl ?_); (conv => whnf); exact ⟨rfl, rfl⟩) | ((refine ldN_el encI_len hRw.at hlt rfl rfl ?_); (conv => whnf); exact ⟨rfl, rfl⟩))))
      refine fc_m (put_c bw _ _ hW xs[i] (hx _ (List.getElem_mem hlt)) (h300 _ (List.getElem_mem hlt)) _ hS.ownF (by omega)) ?_
      rintro v w3 ⟨rfl, L2, hW2, hS'⟩
      replace hS := hS.callW hS'
      rw [← itmsD_snoc xs hlt] at hW2
      repeat ((conv => whnf); first | (refine nw_f hS ?_; intro b w1 hS) | (refine as_i hS ?_) | (refine bar_f hS ?_) | (refine .mk (by show (strY (itmsD (xs.take i))).size + (strY (itmD xs[i])).size ≤ _; rw [strY_size, strY_size]; omega) ?_) | (refine drawf TB_ok rfl (by kernel_rfl) (by kernel_rfl) hS (List.Sublist.refl _) (List.Sublist.refl _) ?_; intro w1 hS) | (refine br_t (by assumption) ?_) | (refine br_f (by assumption) ?_) | (apply q_i; focus (intro w1 hS; (conv => whnf); first | exact ⟨rfl, rfl⟩ | ((refine .mk (by show (strY (itmsD (xs.take i))).size + (strY (itmD xs[i])).size ≤ _; rw [strY_size, strY_size]; omega) ?_); (conv => whnf); exact ⟨rfl, rfl⟩))))
      refine fc_m (bytesK (strY (itmsD (xs.take (i + 1)))) (lit_eq _ rfl) hW2 hS.ownF) ?_
      rintro v w4 ⟨s, rfl, es, hS'⟩
      replace hS := hS.call0 hS'
      have ee : strY (itmsD (xs.take i)) ++ strY (itmD xs[i]) = strY (itmsD (xs.take (i + 1))) := by rw [strY_append, itmsD_snoc xs hlt]
      have es' : (!streq s (strY (itmsD (xs.take i)) ++ strY (itmD xs[i]))) = false := by rw [ee, es]; rfl
      repeat ((conv => whnf); first | (refine nw_f hS ?_; intro b w1 hS) | (refine as_i hS ?_) | (refine bar_f hS ?_) | (refine drawf TB_ok rfl (by kernel_rfl) (by kernel_rfl) hS (List.Sublist.refl _) (List.Sublist.refl _) ?_; intro w1 hS) | (refine br_t (by assumption) ?_) | (refine br_f (by assumption) ?_) | (apply q_i; focus (intro w1 hS; (conv => whnf); first | exact ⟨rfl, rfl⟩)))
      refine ⟨rfl, i + 1, ?_, ⟨by omega, L2, hW2, hS⟩, by omega⟩
      rw [wi hlt (by omega), ← ee]
      rfl
    · repeat ((conv => whnf); first | (refine nw_f hS ?_; intro b w1 hS) | (refine as_i hS ?_) | (refine bar_f hS ?_) | (refine drawf TB_ok rfl (by kernel_rfl) (by kernel_rfl) hS (List.Sublist.refl _) (List.Sublist.refl _) ?_; intro w1 hS) | (refine br_t (by assumption) ?_) | (refine br_f (by assumption) ?_) | (apply q_i; focus (intro w1 hS; (conv => whnf); first | exact ⟨rfl, rfl⟩)))
      refine fc_m (awake_c _) ?_
      rintro v w3 ⟨rfl, hS'⟩
      replace hS := hS.call0 hS'
      repeat ((conv => whnf); first | (refine nw_f hS ?_; intro b w1 hS) | (refine as_i hS ?_) | (refine bar_f hS ?_) | (refine drawf TB_ok rfl (by kernel_rfl) (by kernel_rfl) hS (List.Sublist.refl _) (List.Sublist.refl _) ?_; intro w1 hS) | (refine br_t (by assumption) ?_) | (refine br_f (by assumption) ?_) | (apply q_i; focus (intro w1 hS; (conv => whnf); first | exact ⟨rfl, rfl⟩)))
      exact ⟨rfl, hS.nil⟩
end Go.RV
