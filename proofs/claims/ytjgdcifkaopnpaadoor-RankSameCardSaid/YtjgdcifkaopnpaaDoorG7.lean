/- Contracts of functions of chapter 8: conflict names. Conditions: none. -/
import Derived.Test.YtjgdcifkaopnpaaDoorG6
set_option maxRecDepth 20000
set_option linter.unusedVariables false
set_option linter.unusedSimpArgs false
namespace Go.RV.C08
open Go Go.Proofs Go.RowKit

theorem streq_nil (s : List UInt8) : streq (strY s) ⟨#[]⟩ = s.isEmpty := by
  have := streq_strY s []
  rw [show strY [] = ⟨#[]⟩ from rfl] at this
  rw [this]
  cases s <;> simp
def bads (l : List UInt8) : Bool := l.any fun c => badC c.toNat
def checkE (l : List UInt8) : Int := if l.isEmpty || bads l then 4 else if 8 < l.length then 3 else 0
def nameB (l : List UInt8) : Bool := checkE l == 0
theorem pcheck_c (l : List UInt8) (w : World) : Fc Tryd.prog 16 [.string (strY l)] w fun v w' => v = .int .i64 (checkE l) ∧ St [] w w' [] := by
  refine fc_i TB_ok Tryd.func16 rfl (by kernel_rfl) ?_
  have hS := Sf.refl w
  have he := streq_nil l
  have hz := strY_size l
  unfold checkE
  cases hl : l.isEmpty with
  | true =>
    rw [hl] at he
    repeat ((conv => whnf); first | (apply q_i; focus (intro w1 hS; (conv => whnf); first | exact ⟨rfl, rfl⟩)) | (refine nw_f hS ?_; intro b w1 hS) | (refine as_i hS ?_) | (refine as_i (hS.subs (List.nil_sublist _) (by repeat (first | exact List.Sublist.refl _ | apply List.Sublist.cons_cons | apply List.Sublist.cons))) ?_) | (refine as_i (hS.subs (List.Sublist.refl _) (by repeat (first | exact List.Sublist.refl _ | apply List.Sublist.cons_cons | apply List.Sublist.cons))) ?_) | (refine bar_f hS ?_) | (refine drawf TB_ok rfl (by kernel_rfl) (by kernel_rfl) hS (List.Sublist.refl _) (List.Sublist.refl _) ?_; intro w1 hS) | (refine br_t (by assumption) ?_) | (refine br_f (by assumption) ?_))
    exact ⟨rfl, hS.nil⟩
  | false =>
    rw [hl] at he
    have hcall := fun w => has_c l w
    rw [show (l.any fun c => badC c.toNat) = bads l from rfl] at hcall
    cases hb : bads l with
    | true =>
      rw [hb] at hcall
      repeat ((conv => whnf); first | (apply q_i; focus (intro w1 hS; (conv => whnf); first | exact ⟨rfl, rfl⟩)) | (refine nw_f hS ?_; intro b w1 hS) | (refine as_i hS ?_) | (refine as_i (hS.subs (List.nil_sublist _) (by repeat (first | exact List.Sublist.refl _ | apply List.Sublist.cons_cons | apply List.Sublist.cons))) ?_) | (refine as_i (hS.subs (List.Sublist.refl _) (by repeat (first | exact List.Sublist.refl _ | apply List.Sublist.cons_cons | apply List.Sublist.cons))) ?_) | (refine bar_f hS ?_) | (refine drawf TB_ok rfl (by kernel_rfl) (by kernel_rfl) hS (List.Sublist.refl _) (List.Sublist.refl _) ?_; intro w1 hS) | (refine br_t (by assumption) ?_) | (refine br_f (by assumption) ?_))
      refine fc_m (hcall _) ?_; rintro v w1 ⟨rfl, hS'⟩; replace hS := hS.call0 hS'
      repeat ((conv => whnf); first | (apply q_i; focus (intro w1 hS; (conv => whnf); first | exact ⟨rfl, rfl⟩)) | (refine nw_f hS ?_; intro b w1 hS) | (refine as_i hS ?_) | (refine as_i (hS.subs (List.nil_sublist _) (by repeat (first | exact List.Sublist.refl _ | apply List.Sublist.cons_cons | apply List.Sublist.cons))) ?_) | (refine as_i (hS.subs (List.Sublist.refl _) (by repeat (first | exact List.Sublist.refl _ | apply List.Sublist.cons_cons | apply List.Sublist.cons))) ?_) | (refine bar_f hS ?_) | (refine drawf TB_ok rfl (by kernel_rfl) (by kernel_rfl) hS (List.Sublist.refl _) (List.Sublist.refl _) ?_; intro w1 hS) | (refine br_t (by assumption) ?_) | (refine br_f (by assumption) ?_))
      exact ⟨rfl, hS.nil⟩
    | false =>
      rw [hb] at hcall
      by_cases h8 : 8 < l.length
      · have g : decide ((8 : Int) < ((strY l).size : Int)) = true := decide_eq_true (by omega)
        rw [if_neg (by decide), if_pos h8]
        repeat ((conv => whnf); first | (apply q_i; focus (intro w1 hS; (conv => whnf); first | exact ⟨rfl, rfl⟩)) | (refine nw_f hS ?_; intro b w1 hS) | (refine as_i hS ?_) | (refine as_i (hS.subs (List.nil_sublist _) (by repeat (first | exact List.Sublist.refl _ | apply List.Sublist.cons_cons | apply List.Sublist.cons))) ?_) | (refine as_i (hS.subs (List.Sublist.refl _) (by repeat (first | exact List.Sublist.refl _ | apply List.Sublist.cons_cons | apply List.Sublist.cons))) ?_) | (refine bar_f hS ?_) | (refine drawf TB_ok rfl (by kernel_rfl) (by kernel_rfl) hS (List.Sublist.refl _) (List.Sublist.refl _) ?_; intro w1 hS) | (refine br_t (by assumption) ?_) | (refine br_f (by assumption) ?_))
        refine fc_m (hcall _) ?_; rintro v w1 ⟨rfl, hS'⟩; replace hS := hS.call0 hS'
        repeat ((conv => whnf); first | (apply q_i; focus (intro w1 hS; (conv => whnf); first | exact ⟨rfl, rfl⟩)) | (refine nw_f hS ?_; intro b w1 hS) | (refine as_i hS ?_) | (refine as_i (hS.subs (List.nil_sublist _) (by repeat (first | exact List.Sublist.refl _ | apply List.Sublist.cons_cons | apply List.Sublist.cons))) ?_) | (refine as_i (hS.subs (List.Sublist.refl _) (by repeat (first | exact List.Sublist.refl _ | apply List.Sublist.cons_cons | apply List.Sublist.cons))) ?_) | (refine bar_f hS ?_) | (refine drawf TB_ok rfl (by kernel_rfl) (by kernel_rfl) hS (List.Sublist.refl _) (List.Sublist.refl _) ?_; intro w1 hS) | (refine br_t (by assumption) ?_) | (refine br_f (by assumption) ?_))
        exact ⟨rfl, hS.nil⟩
      · have g : decide ((8 : Int) < ((strY l).size : Int)) = false := decide_eq_false (by omega)
        rw [if_neg (by decide), if_neg h8]
        repeat ((conv => whnf); first | (apply q_i; focus (intro w1 hS; (conv => whnf); first | exact ⟨rfl, rfl⟩)) | (refine nw_f hS ?_; intro b w1 hS) | (refine as_i hS ?_) | (refine as_i (hS.subs (List.nil_sublist _) (by repeat (first | exact List.Sublist.refl _ | apply List.Sublist.cons_cons | apply List.Sublist.cons))) ?_) | (refine as_i (hS.subs (List.Sublist.refl _) (by repeat (first | exact List.Sublist.refl _ | apply List.Sublist.cons_cons | apply List.Sublist.cons))) ?_) | (refine bar_f hS ?_) | (refine drawf TB_ok rfl (by kernel_rfl) (by kernel_rfl) hS (List.Sublist.refl _) (List.Sublist.refl _) ?_; intro w1 hS) | (refine br_t (by assumption) ?_) | (refine br_f (by assumption) ?_))
        refine fc_m (hcall _) ?_; rintro v w1 ⟨rfl, hS'⟩; replace hS := hS.call0 hS'
        repeat ((conv => whnf); first | (apply q_i; focus (intro w1 hS; (conv => whnf); first | exact ⟨rfl, rfl⟩)) | (refine nw_f hS ?_; intro b w1 hS) | (refine as_i hS ?_) | (refine as_i (hS.subs (List.nil_sublist _) (by repeat (first | exact List.Sublist.refl _ | apply List.Sublist.cons_cons | apply List.Sublist.cons))) ?_) | (refine as_i (hS.subs (List.Sublist.refl _) (by repeat (first | exact List.Sublist.refl _ | apply List.Sublist.cons_cons | apply List.Sublist.cons))) ?_) | (refine bar_f hS ?_) | (refine drawf TB_ok rfl (by kernel_rfl) (by kernel_rfl) hS (List.Sublist.refl _) (List.Sublist.refl _) ?_; intro w1 hS) | (refine br_t (by assumption) ?_) | (refine br_f (by assumption) ?_))
        exact ⟨rfl, hS.nil⟩
theorem pname_c (l : List UInt8) (w : World) : Fc Tryd.prog 7 [.string (strY l)] w fun v w' => v = .bool (nameB l) ∧ St [] w w' [] := by
  refine fc_i TB_ok Tryd.func7 rfl (by kernel_rfl) ?_
  have hS := Sf.refl w
  repeat ((conv => whnf); first | (apply q_i; focus (intro w1 hS; (conv => whnf); first | exact ⟨rfl, rfl⟩)) | (refine nw_f hS ?_; intro b w1 hS) | (refine as_i hS ?_) | (refine as_i (hS.subs (List.nil_sublist _) (by repeat (first | exact List.Sublist.refl _ | apply List.Sublist.cons_cons | apply List.Sublist.cons))) ?_) | (refine as_i (hS.subs (List.Sublist.refl _) (by repeat (first | exact List.Sublist.refl _ | apply List.Sublist.cons_cons | apply List.Sublist.cons))) ?_) | (refine bar_f hS ?_) | (refine drawf TB_ok rfl (by kernel_rfl) (by kernel_rfl) hS (List.Sublist.refl _) (List.Sublist.refl _) ?_; intro w1 hS) | (refine br_t (by assumption) ?_) | (refine br_f (by assumption) ?_))
  refine fc_m (pcheck_c l _) ?_; rintro v w1 ⟨rfl, hS'⟩; replace hS := hS.call0 hS'
  repeat ((conv => whnf); first | (apply q_i; focus (intro w1 hS; (conv => whnf); first | exact ⟨rfl, rfl⟩)) | (refine nw_f hS ?_; intro b w1 hS) | (refine as_i hS ?_) | (refine as_i (hS.subs (List.nil_sublist _) (by repeat (first | exact List.Sublist.refl _ | apply List.Sublist.cons_cons | apply List.Sublist.cons))) ?_) | (refine as_i (hS.subs (List.Sublist.refl _) (by repeat (first | exact List.Sublist.refl _ | apply List.Sublist.cons_cons | apply List.Sublist.cons))) ?_) | (refine bar_f hS ?_) | (refine drawf TB_ok rfl (by kernel_rfl) (by kernel_rfl) hS (List.Sublist.refl _) (List.Sublist.refl _) ?_; intro w1 hS) | (refine br_t (by assumption) ?_) | (refine br_f (by assumption) ?_))
  exact ⟨rfl, hS.nil⟩
def rightB (r n : Int) : Bool := decide (r < 8) && (decide (1 ≤ n) && decide (n ≤ 65535))
theorem right_c (r n : Int) (w : World) : Fc Tryd.prog 25 [dotV r n] w fun v w' => v = .bool (rightB r n) ∧ St [] w w' [] := by
  refine fc_i TB_ok Tryd.func25 rfl (by kernel_rfl) ?_
  have hS := Sf.refl w
  unfold rightB
  cases h1 : decide (r < 8) with
  | false =>
    repeat ((conv => whnf); first | (apply q_i; focus (intro w1 hS; (conv => whnf); first | exact ⟨rfl, rfl⟩ | ((refine ld_f hS 0 rfl rfl ?_); (conv => whnf); exact ⟨rfl, rfl⟩) | ((refine ldA_f hS 0 rfl rfl ?_); (conv => whnf); exact ⟨rfl, rfl⟩))) | (refine nw_f hS ?_; intro b w1 hS) | (refine as_i hS ?_) | (refine as_i (hS.subs (List.nil_sublist _) (by repeat (first | exact List.Sublist.refl _ | apply List.Sublist.cons_cons | apply List.Sublist.cons))) ?_) | (refine as_i (hS.subs (List.Sublist.refl _) (by repeat (first | exact List.Sublist.refl _ | apply List.Sublist.cons_cons | apply List.Sublist.cons))) ?_) | (refine bar_f hS ?_) | (refine ld_f hS 0 rfl rfl ?_) | (refine ldA_f hS 0 rfl rfl ?_) | (refine stN_f hS 0 rfl (Nat.le_of_ble_eq_true rfl) rfl rfl ?_; (conv => whnf); intro w1 hS) | (refine stM_f hS 0 rfl (Nat.le_of_ble_eq_true rfl) rfl ?_; (conv => whnf); intro w1 hS) | (refine drawf TB_ok rfl (by kernel_rfl) (by kernel_rfl) hS (List.Sublist.refl _) (List.Sublist.refl _) ?_; intro w1 hS) | (refine br_t (by assumption) ?_) | (refine br_f (by assumption) ?_))
    exact ⟨rfl, hS.nil⟩
  | true =>
    cases h2 : decide (1 ≤ n) with
    | false =>
      repeat ((conv => whnf); first | (apply q_i; focus (intro w1 hS; (conv => whnf); first | exact ⟨rfl, rfl⟩ | ((refine ld_f hS 0 rfl rfl ?_); (conv => whnf); exact ⟨rfl, rfl⟩) | ((refine ldA_f hS 0 rfl rfl ?_); (conv => whnf); exact ⟨rfl, rfl⟩))) | (refine nw_f hS ?_; intro b w1 hS) | (refine as_i hS ?_) | (refine as_i (hS.subs (List.nil_sublist _) (by repeat (first | exact List.Sublist.refl _ | apply List.Sublist.cons_cons | apply List.Sublist.cons))) ?_) | (refine as_i (hS.subs (List.Sublist.refl _) (by repeat (first | exact List.Sublist.refl _ | apply List.Sublist.cons_cons | apply List.Sublist.cons))) ?_) | (refine bar_f hS ?_) | (refine ld_f hS 0 rfl rfl ?_) | (refine ldA_f hS 0 rfl rfl ?_) | (refine stN_f hS 0 rfl (Nat.le_of_ble_eq_true rfl) rfl rfl ?_; (conv => whnf); intro w1 hS) | (refine stM_f hS 0 rfl (Nat.le_of_ble_eq_true rfl) rfl ?_; (conv => whnf); intro w1 hS) | (refine drawf TB_ok rfl (by kernel_rfl) (by kernel_rfl) hS (List.Sublist.refl _) (List.Sublist.refl _) ?_; intro w1 hS) | (refine br_t (by assumption) ?_) | (refine br_f (by assumption) ?_))
      exact ⟨rfl, hS.nil⟩
    | true =>
      repeat ((conv => whnf); first | (apply q_i; focus (intro w1 hS; (conv => whnf); first | exact ⟨rfl, rfl⟩ | ((refine ld_f hS 0 rfl rfl ?_); (conv => whnf); exact ⟨rfl, rfl⟩) | ((refine ldA_f hS 0 rfl rfl ?_); (conv => whnf); exact ⟨rfl, rfl⟩))) | (refine nw_f hS ?_; intro b w1 hS) | (refine as_i hS ?_) | (refine as_i (hS.subs (List.nil_sublist _) (by repeat (first | exact List.Sublist.refl _ | apply List.Sublist.cons_cons | apply List.Sublist.cons))) ?_) | (refine as_i (hS.subs (List.Sublist.refl _) (by repeat (first | exact List.Sublist.refl _ | apply List.Sublist.cons_cons | apply List.Sublist.cons))) ?_) | (refine bar_f hS ?_) | (refine ld_f hS 0 rfl rfl ?_) | (refine ldA_f hS 0 rfl rfl ?_) | (refine stN_f hS 0 rfl (Nat.le_of_ble_eq_true rfl) rfl rfl ?_; (conv => whnf); intro w1 hS) | (refine stM_f hS 0 rfl (Nat.le_of_ble_eq_true rfl) rfl ?_; (conv => whnf); intro w1 hS) | (refine drawf TB_ok rfl (by kernel_rfl) (by kernel_rfl) hS (List.Sublist.refl _) (List.Sublist.refl _) ?_; intro w1 hS) | (refine br_t (by assumption) ?_) | (refine br_f (by assumption) ?_))
      exact ⟨rfl, hS.nil⟩
/-- the digits of a number are told, wherever nothing that lay in w has turned -/
def Digs (w : World) (n : Int) : Prop := ∀ w', St [] w w' [] → Fc Tryd.prog 65 [.int .i64 n] w' fun v w'' => v = .string (strY (Lib.itoa n)) ∧ St [] w' w'' []
theorem Digs.below {w w' : World} {n : Int} (h : Digs w n) (hS : St [] w w' []) : Digs w' n := fun w'' h' => h w'' (hS.call0 h')
theorem digs_small (w : World) (i : Nat) (hi : i < 100) : Digs w i := fun w' _ => by
  refine fc_of_calls Tryd.func65 rfl (by kernel_rfl) ?_
  have h := Any.strconv_Itoa_small (P := Tryd.prog) (ρ := ren171) { lays171 with } i hi w'
  refine h.mono fun e w'' ⟨he, hw⟩ => ⟨_, he, ?_, hw ▸ St.refl _⟩
  rw [Lib.itoa, if_neg (by omega), Int.toNat_natCast]
  rfl
def confT (name : List UInt8) (r n : Int) : List UInt8 := if nameB name && rightB r n then name ++ [126] ++ Lib.itoa r ++ [46] ++ Lib.itoa n else []
theorem itoa_len {n : Int} (h0 : 0 ≤ n) (h1 : n ≤ 65535) : (Lib.itoa n).length ≤ 65535 + 1 := by
  rw [Lib.itoa, if_neg (by omega)]
  have : ∀ k u : Nat, u ≤ k → (Lib.decDigits u).length ≤ u + 1 := by
    intro k
    induction k with
    | zero =>
      intro u hu
      rw [Lib.decDigits, dif_pos (by omega)]
      simp
    | succ k ih =>
      intro u hu
      rw [Lib.decDigits]
      split
      · simp
      · have := ih (u / 10) (by omega)
        simp only [List.length_append, List.length_singleton]
        omega
  have := this _ n.toNat (Nat.le_refl _)
  omega
theorem conflict_c (name : List UInt8) (hnm : name.length ≤ 1073741824) (r n : Int) (hr : 0 ≤ r ∧ r ≤ 255) (hn : 0 ≤ n ∧ n ≤ 4294967295) (w : World) (hdr : rightB r n = true → Digs w r ∧ Digs w n) :
    Fc Tryd.prog 46 [.string (strY name), dotV r n] w fun v w' => v = .tuple #[.string (strY (confT name r n)), .int .i64 (if nameB name && rightB r n then 0 else 4)] ∧ St [] w w' [] := by
  refine fc_i TB_ok Tryd.func46 rfl (by kernel_rfl) ?_
  have hS := Sf.refl w
  unfold confT
  cases h1 : nameB name with
  | false =>
    have hc := fun w => pname_c name w
    rw [h1] at hc
    repeat ((conv => whnf); first | (apply q_i; focus (intro w1 hS; (conv => whnf); first | exact ⟨rfl, rfl⟩ | ((refine ld_f hS 0 rfl rfl ?_); (conv => whnf); exact ⟨rfl, rfl⟩) | ((refine ldA_f hS 0 rfl rfl ?_); (conv => whnf); exact ⟨rfl, rfl⟩))) | (refine nw_f hS ?_; intro b w1 hS) | (refine as_i hS ?_) | (refine as_i (hS.subs (List.nil_sublist _) (by repeat (first | exact List.Sublist.refl _ | apply List.Sublist.cons_cons | apply List.Sublist.cons))) ?_) | (refine as_i (hS.subs (List.Sublist.refl _) (by repeat (first | exact List.Sublist.refl _ | apply List.Sublist.cons_cons | apply List.Sublist.cons))) ?_) | (refine bar_f hS ?_) | (refine ld_f hS 0 rfl rfl ?_) | (refine ldA_f hS 0 rfl rfl ?_) | (refine stN_f hS 0 rfl (Nat.le_of_ble_eq_true rfl) rfl rfl ?_; (conv => whnf); intro w1 hS) | (refine stM_f hS 0 rfl (Nat.le_of_ble_eq_true rfl) rfl ?_; (conv => whnf); intro w1 hS) | (refine drawf TB_ok rfl (by kernel_rfl) (by kernel_rfl) hS (List.Sublist.refl _) (List.Sublist.refl _) ?_; intro w1 hS) | (refine br_t (by assumption) ?_) | (refine br_f (by assumption) ?_))
    refine fc_m (hc _) ?_; rintro v w1 ⟨rfl, hS'⟩; replace hS := hS.call0 hS'
    repeat ((conv => whnf); first | (apply q_i; focus (intro w1 hS; (conv => whnf); first | exact ⟨rfl, rfl⟩ | ((refine ld_f hS 0 rfl rfl ?_); (conv => whnf); exact ⟨rfl, rfl⟩) | ((refine ldA_f hS 0 rfl rfl ?_); (conv => whnf); exact ⟨rfl, rfl⟩))) | (refine nw_f hS ?_; intro b w1 hS) | (refine as_i hS ?_) | (refine as_i (hS.subs (List.nil_sublist _) (by repeat (first | exact List.Sublist.refl _ | apply List.Sublist.cons_cons | apply List.Sublist.cons))) ?_) | (refine as_i (hS.subs (List.Sublist.refl _) (by repeat (first | exact List.Sublist.refl _ | apply List.Sublist.cons_cons | apply List.Sublist.cons))) ?_) | (refine bar_f hS ?_) | (refine ld_f hS 0 rfl rfl ?_) | (refine ldA_f hS 0 rfl rfl ?_) | (refine stN_f hS 0 rfl (Nat.le_of_ble_eq_true rfl) rfl rfl ?_; (conv => whnf); intro w1 hS) | (refine stM_f hS 0 rfl (Nat.le_of_ble_eq_true rfl) rfl ?_; (conv => whnf); intro w1 hS) | (refine drawf TB_ok rfl (by kernel_rfl) (by kernel_rfl) hS (List.Sublist.refl _) (List.Sublist.refl _) ?_; intro w1 hS) | (refine br_t (by assumption) ?_) | (refine br_f (by assumption) ?_))
    exact ⟨rfl, hS.nil⟩
  | true =>
    have hc := fun w => pname_c name w
    rw [h1] at hc
    have hc2 := fun w => right_c r n w
    cases h2 : rightB r n with
    | false =>
      rw [h2] at hc2
      repeat ((conv => whnf); first | (apply q_i; focus (intro w1 hS; (conv => whnf); first | exact ⟨rfl, rfl⟩ | ((refine ld_f hS 0 rfl rfl ?_); (conv => whnf); exact ⟨rfl, rfl⟩) | ((refine ldA_f hS 0 rfl rfl ?_); (conv => whnf); exact ⟨rfl, rfl⟩))) | (refine nw_f hS ?_; intro b w1 hS) | (refine as_i hS ?_) | (refine as_i (hS.subs (List.nil_sublist _) (by repeat (first | exact List.Sublist.refl _ | apply List.Sublist.cons_cons | apply List.Sublist.cons))) ?_) | (refine as_i (hS.subs (List.Sublist.refl _) (by repeat (first | exact List.Sublist.refl _ | apply List.Sublist.cons_cons | apply List.Sublist.cons))) ?_) | (refine bar_f hS ?_) | (refine ld_f hS 0 rfl rfl ?_) | (refine ldA_f hS 0 rfl rfl ?_) | (refine stN_f hS 0 rfl (Nat.le_of_ble_eq_true rfl) rfl rfl ?_; (conv => whnf); intro w1 hS) | (refine stM_f hS 0 rfl (Nat.le_of_ble_eq_true rfl) rfl ?_; (conv => whnf); intro w1 hS) | (refine drawf TB_ok rfl (by kernel_rfl) (by kernel_rfl) hS (List.Sublist.refl _) (List.Sublist.refl _) ?_; intro w1 hS) | (refine br_t (by assumption) ?_) | (refine br_f (by assumption) ?_))
      refine fc_m (hc _) ?_; rintro v w1 ⟨rfl, hS'⟩; replace hS := hS.call0 hS'
      repeat ((conv => whnf); first | (apply q_i; focus (intro w1 hS; (conv => whnf); first | exact ⟨rfl, rfl⟩ | ((refine ld_f hS 0 rfl rfl ?_); (conv => whnf); exact ⟨rfl, rfl⟩) | ((refine ldA_f hS 0 rfl rfl ?_); (conv => whnf); exact ⟨rfl, rfl⟩))) | (refine nw_f hS ?_; intro b w1 hS) | (refine as_i hS ?_) | (refine as_i (hS.subs (List.nil_sublist _) (by repeat (first | exact List.Sublist.refl _ | apply List.Sublist.cons_cons | apply List.Sublist.cons))) ?_) | (refine as_i (hS.subs (List.Sublist.refl _) (by repeat (first | exact List.Sublist.refl _ | apply List.Sublist.cons_cons | apply List.Sublist.cons))) ?_) | (refine bar_f hS ?_) | (refine ld_f hS 0 rfl rfl ?_) | (refine ldA_f hS 0 rfl rfl ?_) | (refine stN_f hS 0 rfl (Nat.le_of_ble_eq_true rfl) rfl rfl ?_; (conv => whnf); intro w1 hS) | (refine stM_f hS 0 rfl (Nat.le_of_ble_eq_true rfl) rfl ?_; (conv => whnf); intro w1 hS) | (refine drawf TB_ok rfl (by kernel_rfl) (by kernel_rfl) hS (List.Sublist.refl _) (List.Sublist.refl _) ?_; intro w1 hS) | (refine br_t (by assumption) ?_) | (refine br_f (by assumption) ?_))
      refine fc_m (hc2 _) ?_; rintro v w1 ⟨rfl, hS'⟩; replace hS := hS.call0 hS'
      repeat ((conv => whnf); first | (apply q_i; focus (intro w1 hS; (conv => whnf); first | exact ⟨rfl, rfl⟩ | ((refine ld_f hS 0 rfl rfl ?_); (conv => whnf); exact ⟨rfl, rfl⟩) | ((refine ldA_f hS 0 rfl rfl ?_); (conv => whnf); exact ⟨rfl, rfl⟩))) | (refine nw_f hS ?_; intro b w1 hS) | (refine as_i hS ?_) | (refine as_i (hS.subs (List.nil_sublist _) (by repeat (first | exact List.Sublist.refl _ | apply List.Sublist.cons_cons | apply List.Sublist.cons))) ?_) | (refine as_i (hS.subs (List.Sublist.refl _) (by repeat (first | exact List.Sublist.refl _ | apply List.Sublist.cons_cons | apply List.Sublist.cons))) ?_) | (refine bar_f hS ?_) | (refine ld_f hS 0 rfl rfl ?_) | (refine ldA_f hS 0 rfl rfl ?_) | (refine stN_f hS 0 rfl (Nat.le_of_ble_eq_true rfl) rfl rfl ?_; (conv => whnf); intro w1 hS) | (refine stM_f hS 0 rfl (Nat.le_of_ble_eq_true rfl) rfl ?_; (conv => whnf); intro w1 hS) | (refine drawf TB_ok rfl (by kernel_rfl) (by kernel_rfl) hS (List.Sublist.refl _) (List.Sublist.refl _) ?_; intro w1 hS) | (refine br_t (by assumption) ?_) | (refine br_f (by assumption) ?_))
      exact ⟨rfl, hS.nil⟩
    | true =>
      rw [h2] at hc2
      obtain ⟨hd1, hd2⟩ := hdr h2
      have hb : r < 8 ∧ 1 ≤ n ∧ n ≤ 65535 := by simp [rightB] at h2; omega
      have l1 := itoa_len hr.1 (show r ≤ 65535 by omega)
      have l2 := itoa_len hn.1 hb.2.2
      have e1 : IntKind.i64.wrap r = r := wrap_i64 (by omega) (by omega)
      have e2 : IntKind.i64.wrap n = n := wrap_i64 (by omega) (by omega)
      have hr1 : strY name ++ ⟨#[126]⟩ = strY (name ++ [126]) := strY_append name [126]
      have hr2 : strY (name ++ [126]) ++ strY (Lib.itoa r) = strY (name ++ [126] ++ Lib.itoa r) := strY_append _ _
      have hr3 : strY (name ++ [126] ++ Lib.itoa r) ++ ⟨#[46]⟩ = strY (name ++ [126] ++ Lib.itoa r ++ [46]) := strY_append _ [46]
      have hr4 : strY (name ++ [126] ++ Lib.itoa r ++ [46]) ++ strY (Lib.itoa n) = strY (name ++ [126] ++ Lib.itoa r ++ [46] ++ Lib.itoa n) := strY_append _ _
      have g1 : (strY name).size + (⟨#[126]⟩ : ByteArray).size ≤ 9223372036854775807 := by
        have : (⟨#[126]⟩ : ByteArray).size = 1 := rfl
        rw [strY_size]; omega
      have g2 : (strY name ++ ⟨#[126]⟩).size + (strY (Lib.itoa r)).size ≤ 9223372036854775807 := by
        rw [hr1, strY_size, strY_size]; simp; omega
      have g3 : (strY name ++ ⟨#[126]⟩ ++ strY (Lib.itoa r)).size + (⟨#[46]⟩ : ByteArray).size ≤ 9223372036854775807 := by
        have : (⟨#[46]⟩ : ByteArray).size = 1 := rfl
        rw [hr1, hr2, strY_size]; simp; omega
      have g4 : (strY name ++ ⟨#[126]⟩ ++ strY (Lib.itoa r) ++ ⟨#[46]⟩).size + (strY (Lib.itoa n)).size ≤ 9223372036854775807 := by
        rw [hr1, hr2, hr3, strY_size, strY_size]; simp; omega
      have hfin : strY name ++ ⟨#[126]⟩ ++ strY (Lib.itoa r) ++ ⟨#[46]⟩ ++ strY (Lib.itoa n) = strY (name ++ [126] ++ Lib.itoa r ++ [46] ++ Lib.itoa n) := by rw [hr1, hr2, hr3, hr4]
      have hi1 : ∀ w', St [] w w' [] → Fc Tryd.prog 65 [.int .i64 (IntKind.i64.wrap r)] w' fun v w'' => v = .string (strY (Lib.itoa r)) ∧ St [] w' w'' [] := fun w' h => by rw [e1]; exact hd1 w' h
      have hi2 : ∀ w', St [] w w' [] → Fc Tryd.prog 65 [.int .i64 (IntKind.i64.wrap n)] w' fun v w'' => v = .string (strY (Lib.itoa n)) ∧ St [] w' w'' [] := fun w' h => by rw [e2]; exact hd2 w' h
      repeat ((conv => whnf); first | (apply q_i; focus (intro w1 hS; (conv => whnf); first | exact ⟨rfl, rfl⟩ | ((refine ld_f hS 0 rfl rfl ?_); (conv => whnf); exact ⟨rfl, rfl⟩) | ((refine ldA_f hS 0 rfl rfl ?_); (conv => whnf); exact ⟨rfl, rfl⟩))) | (refine nw_f hS ?_; intro b w1 hS) | (refine as_i hS ?_) | (refine as_i (hS.subs (List.nil_sublist _) (by repeat (first | exact List.Sublist.refl _ | apply List.Sublist.cons_cons | apply List.Sublist.cons))) ?_) | (refine as_i (hS.subs (List.Sublist.refl _) (by repeat (first | exact List.Sublist.refl _ | apply List.Sublist.cons_cons | apply List.Sublist.cons))) ?_) | (refine bar_f hS ?_) | (refine ld_f hS 0 rfl rfl ?_) | (refine ldA_f hS 0 rfl rfl ?_) | (refine stN_f hS 0 rfl (Nat.le_of_ble_eq_true rfl) rfl rfl ?_; (conv => whnf); intro w1 hS) | (refine stM_f hS 0 rfl (Nat.le_of_ble_eq_true rfl) rfl ?_; (conv => whnf); intro w1 hS) | (refine drawf TB_ok rfl (by kernel_rfl) (by kernel_rfl) hS (List.Sublist.refl _) (List.Sublist.refl _) ?_; intro w1 hS) | (refine br_t (by assumption) ?_) | (refine br_f (by assumption) ?_))
      refine fc_m (hc _) ?_; rintro v w1 ⟨rfl, hS'⟩; replace hS := hS.call0 hS'
      repeat ((conv => whnf); first | (apply q_i; focus (intro w1 hS; (conv => whnf); first | exact ⟨rfl, rfl⟩ | ((refine ld_f hS 0 rfl rfl ?_); (conv => whnf); exact ⟨rfl, rfl⟩) | ((refine ldA_f hS 0 rfl rfl ?_); (conv => whnf); exact ⟨rfl, rfl⟩))) | (refine nw_f hS ?_; intro b w1 hS) | (refine as_i hS ?_) | (refine as_i (hS.subs (List.nil_sublist _) (by repeat (first | exact List.Sublist.refl _ | apply List.Sublist.cons_cons | apply List.Sublist.cons))) ?_) | (refine as_i (hS.subs (List.Sublist.refl _) (by repeat (first | exact List.Sublist.refl _ | apply List.Sublist.cons_cons | apply List.Sublist.cons))) ?_) | (refine bar_f hS ?_) | (refine ld_f hS 0 rfl rfl ?_) | (refine ldA_f hS 0 rfl rfl ?_) | (refine stN_f hS 0 rfl (Nat.le_of_ble_eq_true rfl) rfl rfl ?_; (conv => whnf); intro w1 hS) | (refine stM_f hS 0 rfl (Nat.le_of_ble_eq_true rfl) rfl ?_; (conv => whnf); intro w1 hS) | (refine drawf TB_ok rfl (by kernel_rfl) (by kernel_rfl) hS (List.Sublist.refl _) (List.Sublist.refl _) ?_; intro w1 hS) | (refine br_t (by assumption) ?_) | (refine br_f (by assumption) ?_))
      refine fc_m (hc2 _) ?_; rintro v w1 ⟨rfl, hS'⟩; replace hS := hS.call0 hS'
      repeat ((conv => whnf); first | (apply q_i; focus (intro w1 hS; (conv => whnf); first | exact ⟨rfl, rfl⟩ | ((refine ld_f hS 0 rfl rfl ?_); (conv => whnf); exact ⟨rfl, rfl⟩) | ((refine ldA_f hS 0 rfl rfl ?_); (conv => whnf); exact ⟨rfl, rfl⟩))) | (refine nw_f hS ?_; intro b w1 hS) | (refine as_i hS ?_) | (refine as_i (hS.subs (List.nil_sublist _) (by repeat (first | exact List.Sublist.refl _ | apply List.Sublist.cons_cons | apply List.Sublist.cons))) ?_) | (refine as_i (hS.subs (List.Sublist.refl _) (by repeat (first | exact List.Sublist.refl _ | apply List.Sublist.cons_cons | apply List.Sublist.cons))) ?_) | (refine bar_f hS ?_) | (refine ld_f hS 0 rfl rfl ?_) | (refine ldA_f hS 0 rfl rfl ?_) | (refine stN_f hS 0 rfl (Nat.le_of_ble_eq_true rfl) rfl rfl ?_; (conv => whnf); intro w1 hS) | (refine stM_f hS 0 rfl (Nat.le_of_ble_eq_true rfl) rfl ?_; (conv => whnf); intro w1 hS) | (refine br_t (by assumption) ?_) | (refine br_f (by assumption) ?_))
      refine drawf (Ls := [_]) TB_ok rfl (by kernel_rfl) (by kernel_rfl) hS (List.nil_sublist _) (List.Sublist.refl _) ?_; intro w1 hS
      repeat' ((conv => whnf); first | (refine And.intro ?_ ?_) | (apply q_i; focus (intro w1 hS; (conv => whnf); first | exact ⟨rfl, rfl⟩ | ((refine ld_f hS 0 rfl rfl ?_); (conv => whnf); exact ⟨rfl, rfl⟩) | ((refine ldA_f hS 0 rfl rfl ?_); (conv => whnf); exact ⟨rfl, rfl⟩) | ((refine .mk g1 ?_); (conv => whnf); exact ⟨rfl, rfl⟩) | ((refine .mk g2 ?_); (conv => whnf); exact ⟨rfl, rfl⟩) | ((refine .mk g3 ?_); (conv => whnf); exact ⟨rfl, rfl⟩) | ((refine .mk g4 ?_); (conv => whnf); exact ⟨rfl, rfl⟩) | ((refine fc_m (hi1 _ hS.nil) ?_; rintro v w3 ⟨rfl, hS'⟩; replace hS := hS.call0 hS'); (conv => whnf); exact ⟨rfl, rfl⟩) | ((refine fc_m (hi2 _ hS.nil) ?_; rintro v w3 ⟨rfl, hS'⟩; replace hS := hS.call0 hS'); (conv => whnf); exact ⟨rfl, rfl⟩))) | (refine nw_f hS ?_; intro b w1 hS) | (refine as_i hS ?_) | (refine as_i (hS.subs (List.nil_sublist _) (by repeat (first | exact List.Sublist.refl _ | apply List.Sublist.cons_cons | apply List.Sublist.cons))) ?_) | (refine as_i (hS.subs (List.Sublist.refl _) (by repeat (first | exact List.Sublist.refl _ | apply List.Sublist.cons_cons | apply List.Sublist.cons))) ?_) | (refine bar_f hS ?_) | (refine ld_f hS 0 rfl rfl ?_) | (refine ldA_f hS 0 rfl rfl ?_) | (refine stN_f hS 0 rfl (Nat.le_of_ble_eq_true rfl) rfl rfl ?_; (conv => whnf); intro w1 hS) | (refine stM_f hS 0 rfl (Nat.le_of_ble_eq_true rfl) rfl ?_; (conv => whnf); intro w1 hS) | (refine .mk g1 ?_) | (refine .mk g2 ?_) | (refine .mk g3 ?_) | (refine .mk g4 ?_) | (refine fc_m (hi1 _ hS.nil) ?_; rintro v w3 ⟨rfl, hS'⟩; replace hS := hS.call0 hS') | (refine fc_m (hi2 _ hS.nil) ?_; rintro v w3 ⟨rfl, hS'⟩; replace hS := hS.call0 hS') | (refine drawf TB_ok rfl (by kernel_rfl) (by kernel_rfl) hS (List.Sublist.refl _) (List.Sublist.refl _) ?_; intro w1 hS) | (refine br_t (by assumption) ?_) | (refine br_f (by assumption) ?_))
      all_goals first
        | exact hS.nil
        | exact congrArg (fun x => Value.tuple #[.string x, .int .i64 0]) hfin
end Go.RV.C08
