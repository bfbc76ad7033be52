/- Contracts of functions of chapter 4: the document's names. Conditions: none. -/
import Derived.Test.YtdlmjbnggahpjaaDoorPa1
import Derived.Test.YtdlmjbnggahpjaaDoorRvY
import Derived.Lib.DecodeN
set_option maxRecDepth 20000
set_option linter.unusedVariables false
set_option linter.unusedSimpArgs false
namespace Go.RV
open Go Go.Proofs Go.RowKit

theorem bads_hit {l : List UInt8} {i : Nat} (h : i < l.length) (hb : badC l[i].toNat = true) : bads l = true := List.any_eq_true.2 ⟨_, List.getElem_mem h, hb⟩
theorem bads_no {l : List UInt8} (h : ∀ j (h : j < l.length), badC l[j].toNat = false) : bads l = false := by
  unfold bads
  rw [List.any_eq_false]
  intro x hx
  obtain ⟨j, hj, rfl⟩ := List.getElem_of_mem hx
  rw [h j hj]
  decide
theorem rcheck_c (l : List UInt8) (hl : l.length ≤ 4611686018427387904) (w : World) : Fc Tryd.prog 19 [.string (strY l)] w fun v w' => v = .int .i64 (checkE l) ∧ St [] w w' [] := by
  refine fc_i TB_ok Tryd.func19 rfl (by kernel_rfl) ?_
  have hS := Sf.refl w
  have hz := strY_size l
  by_cases h0 : l.length = 0
  · have g : (((strY l).size : Int) == 0) = true := by rw [hz, h0]; rfl
    have he : checkE l = 4 := by unfold checkE; rw [List.eq_nil_of_length_eq_zero h0]; rfl
    rw [he]
    repeat ((conv => whnf); first | (apply q_i; focus (intro w1 hS; (conv => whnf); first | exact ⟨rfl, rfl⟩)) | (refine nw_f hS ?_; intro b w1 hS) | (refine as_i hS ?_) | (refine as_i (hS.subs (List.nil_sublist _) (by repeat (first | exact List.Sublist.refl _ | apply List.Sublist.cons_cons | apply List.Sublist.cons))) ?_) | (refine as_i (hS.subs (List.Sublist.refl _) (by repeat (first | exact List.Sublist.refl _ | apply List.Sublist.cons_cons | apply List.Sublist.cons))) ?_) | (refine bar_f hS ?_) | (refine drawf TB_ok rfl (by kernel_rfl) (by kernel_rfl) hS (List.Sublist.refl _) (List.Sublist.refl _) ?_; intro w1 hS) | (refine br_t (by assumption) ?_) | (refine br_f (by assumption) ?_))
    exact ⟨rfl, hS.nil⟩
  · have g : (((strY l).size : Int) == 0) = false := beq_eq_false_iff_ne.2 (by omega)
    have hne : l.isEmpty = false := by cases l with | nil => exact absurd rfl h0 | cons a b => rfl
    repeat ((conv => whnf); first | (apply q_i; focus (intro w1 hS; (conv => whnf); first | exact ⟨rfl, rfl⟩)) | (refine nw_f hS ?_; intro b w1 hS) | (refine as_i hS ?_) | (refine as_i (hS.subs (List.nil_sublist _) (by repeat (first | exact List.Sublist.refl _ | apply List.Sublist.cons_cons | apply List.Sublist.cons))) ?_) | (refine as_i (hS.subs (List.Sublist.refl _) (by repeat (first | exact List.Sublist.refl _ | apply List.Sublist.cons_cons | apply List.Sublist.cons))) ?_) | (refine bar_f hS ?_) | (refine drawf TB_ok rfl (by kernel_rfl) (by kernel_rfl) hS (List.Sublist.refl _) (List.Sublist.refl _) ?_; intro w1 hS) | (refine br_t (by assumption) ?_) | (refine br_f (by assumption) ?_))
    refine loop_i TB_ok (fun i : Nat => [(3, .int .i64 i)]) (fun i w' => i ≤ l.length ∧ (∀ j (h : j < l.length), j < i → badC l[j].toNat = false) ∧ Sf [] w w' [] []) (fun i => l.length - i) 0 rfl ⟨Nat.zero_le _, fun j h h2 => by omega, hS⟩ ?_
    rintro i us w2 ⟨hi, hj, hS⟩
    by_cases hlt : i < l.length
    · have h1 : decide ((i : Int) < ((strY l).size : Int)) = true := decide_eq_true (by omega)
      have hsx := byteAt_strY hlt
      replace hsx : byteAt (strY l) ((i : Int)).toNat = (l[i].toNat : Int) := hsx
      obtain ⟨b1, e1⟩ : ∃ b1, decide (byteAt (strY l) ((i : Int)).toNat < 33) = b1 := ⟨_, rfl⟩
      obtain ⟨b2, e2⟩ : ∃ b2, decide (125 < byteAt (strY l) ((i : Int)).toNat) = b2 := ⟨_, rfl⟩
      obtain ⟨b3, e3⟩ : ∃ b3, (byteAt (strY l) ((i : Int)).toNat == 47) = b3 := ⟨_, rfl⟩
      have hbb : badC l[i].toNat = (b1 || (b2 || b3)) := by
        rw [← e1, ← e2, ← e3, hsx]
        unfold badC
        congr 1
        · exact decide_eq_decide.2 (by omega)
        · congr 1
          · exact decide_eq_decide.2 (by omega)
          · rw [Bool.eq_iff_iff]; simp; omega
      cases b1 with
      | true =>
        have he : checkE l = 4 := by unfold checkE; rw [bads_hit hlt hbb]; simp
        rw [he]
        repeat ((conv => whnf); first | (apply q_i; focus (intro w1 hS; (conv => whnf); first | exact ⟨rfl, rfl⟩ | ((refine .mk ⟨by omega, by omega⟩ ?_); (conv => whnf); exact ⟨rfl, rfl⟩))) | (refine nw_f hS ?_; intro b w1 hS) | (refine as_i hS ?_) | (refine as_i (hS.subs (List.nil_sublist _) (by repeat (first | exact List.Sublist.refl _ | apply List.Sublist.cons_cons | apply List.Sublist.cons))) ?_) | (refine as_i (hS.subs (List.Sublist.refl _) (by repeat (first | exact List.Sublist.refl _ | apply List.Sublist.cons_cons | apply List.Sublist.cons))) ?_) | (refine bar_f hS ?_) | (refine .mk ⟨by omega, by omega⟩ ?_) | (refine drawf TB_ok rfl (by kernel_rfl) (by kernel_rfl) hS (List.Sublist.refl _) (List.Sublist.refl _) ?_; intro w1 hS) | (refine br_t (by assumption) ?_) | (refine br_f (by assumption) ?_))
        exact ⟨rfl, hS.nil⟩
      | false =>
        cases b2 with
        | true =>
          have he : checkE l = 4 := by unfold checkE; rw [bads_hit hlt hbb]; simp
          rw [he]
          repeat ((conv => whnf); first | (apply q_i; focus (intro w1 hS; (conv => whnf); first | exact ⟨rfl, rfl⟩ | ((refine .mk ⟨by omega, by omega⟩ ?_); (conv => whnf); exact ⟨rfl, rfl⟩))) | (refine nw_f hS ?_; intro b w1 hS) | (refine as_i hS ?_) | (refine as_i (hS.subs (List.nil_sublist _) (by repeat (first | exact List.Sublist.refl _ | apply List.Sublist.cons_cons | apply List.Sublist.cons))) ?_) | (refine as_i (hS.subs (List.Sublist.refl _) (by repeat (first | exact List.Sublist.refl _ | apply List.Sublist.cons_cons | apply List.Sublist.cons))) ?_) | (refine bar_f hS ?_) | (refine .mk ⟨by omega, by omega⟩ ?_) | (refine drawf TB_ok rfl (by kernel_rfl) (by kernel_rfl) hS (List.Sublist.refl _) (List.Sublist.refl _) ?_; intro w1 hS) | (refine br_t (by assumption) ?_) | (refine br_f (by assumption) ?_))
          exact ⟨rfl, hS.nil⟩
        | false =>
          cases b3 with
          | true =>
            have he : checkE l = 4 := by unfold checkE; rw [bads_hit hlt hbb]; simp
            rw [he]
            repeat ((conv => whnf); first | (apply q_i; focus (intro w1 hS; (conv => whnf); first | exact ⟨rfl, rfl⟩ | ((refine .mk ⟨by omega, by omega⟩ ?_); (conv => whnf); exact ⟨rfl, rfl⟩))) | (refine nw_f hS ?_; intro b w1 hS) | (refine as_i hS ?_) | (refine as_i (hS.subs (List.nil_sublist _) (by repeat (first | exact List.Sublist.refl _ | apply List.Sublist.cons_cons | apply List.Sublist.cons))) ?_) | (refine as_i (hS.subs (List.Sublist.refl _) (by repeat (first | exact List.Sublist.refl _ | apply List.Sublist.cons_cons | apply List.Sublist.cons))) ?_) | (refine bar_f hS ?_) | (refine .mk ⟨by omega, by omega⟩ ?_) | (refine drawf TB_ok rfl (by kernel_rfl) (by kernel_rfl) hS (List.Sublist.refl _) (List.Sublist.refl _) ?_; intro w1 hS) | (refine br_t (by assumption) ?_) | (refine br_f (by assumption) ?_))
            exact ⟨rfl, hS.nil⟩
          | false =>
            repeat ((conv => whnf); first | (apply q_i; focus (intro w1 hS; (conv => whnf); first | exact ⟨rfl, rfl⟩ | ((refine .mk ⟨by omega, by omega⟩ ?_); (conv => whnf); exact ⟨rfl, rfl⟩))) | (refine nw_f hS ?_; intro b w1 hS) | (refine as_i hS ?_) | (refine as_i (hS.subs (List.nil_sublist _) (by repeat (first | exact List.Sublist.refl _ | apply List.Sublist.cons_cons | apply List.Sublist.cons))) ?_) | (refine as_i (hS.subs (List.Sublist.refl _) (by repeat (first | exact List.Sublist.refl _ | apply List.Sublist.cons_cons | apply List.Sublist.cons))) ?_) | (refine bar_f hS ?_) | (refine .mk ⟨by omega, by omega⟩ ?_) | (refine drawf TB_ok rfl (by kernel_rfl) (by kernel_rfl) hS (List.Sublist.refl _) (List.Sublist.refl _) ?_; intro w1 hS) | (refine br_t (by assumption) ?_) | (refine br_f (by assumption) ?_))
            refine ⟨rfl, i + 1, ?_, ⟨by omega, fun j h h2 => ?_, hS⟩, by omega⟩
            · rw [wi hlt (by omega)]
              rfl
            · by_cases e : j = i
              · subst e; exact hbb
              · exact hj j h (by omega)
    · have h1 : decide ((i : Int) < ((strY l).size : Int)) = false := decide_eq_false (by omega)
      have hb : bads l = false := bads_no fun j h => hj j h (by omega)
      unfold checkE
      rw [hne, hb]
      by_cases h8 : 8 < l.length
      · have g8 : decide ((8 : Int) < ((strY l).size : Int)) = true := decide_eq_true (by omega)
        rw [if_neg (by decide), if_pos h8]
        repeat ((conv => whnf); first | (apply q_i; focus (intro w1 hS; (conv => whnf); first | exact ⟨rfl, rfl⟩)) | (refine nw_f hS ?_; intro b w1 hS) | (refine as_i hS ?_) | (refine as_i (hS.subs (List.nil_sublist _) (by repeat (first | exact List.Sublist.refl _ | apply List.Sublist.cons_cons | apply List.Sublist.cons))) ?_) | (refine as_i (hS.subs (List.Sublist.refl _) (by repeat (first | exact List.Sublist.refl _ | apply List.Sublist.cons_cons | apply List.Sublist.cons))) ?_) | (refine bar_f hS ?_) | (refine drawf TB_ok rfl (by kernel_rfl) (by kernel_rfl) hS (List.Sublist.refl _) (List.Sublist.refl _) ?_; intro w1 hS) | (refine br_t (by assumption) ?_) | (refine br_f (by assumption) ?_))
        exact ⟨rfl, hS.nil⟩
      · have g8 : decide ((8 : Int) < ((strY l).size : Int)) = false := decide_eq_false (by omega)
        rw [if_neg (by decide), if_neg h8]
        repeat ((conv => whnf); first | (apply q_i; focus (intro w1 hS; (conv => whnf); first | exact ⟨rfl, rfl⟩)) | (refine nw_f hS ?_; intro b w1 hS) | (refine as_i hS ?_) | (refine as_i (hS.subs (List.nil_sublist _) (by repeat (first | exact List.Sublist.refl _ | apply List.Sublist.cons_cons | apply List.Sublist.cons))) ?_) | (refine as_i (hS.subs (List.Sublist.refl _) (by repeat (first | exact List.Sublist.refl _ | apply List.Sublist.cons_cons | apply List.Sublist.cons))) ?_) | (refine bar_f hS ?_) | (refine drawf TB_ok rfl (by kernel_rfl) (by kernel_rfl) hS (List.Sublist.refl _) (List.Sublist.refl _) ?_; intro w1 hS) | (refine br_t (by assumption) ?_) | (refine br_f (by assumption) ?_))
        exact ⟨rfl, hS.nil⟩
theorem dec_len : ∀ k u : Nat, u ≤ k → (Lib.decDigits u).length ≤ u + 1
  | 0, u, hu => by
    rw [Lib.decDigits, dif_pos (by omega)]
    simp
  | k+1, u, hu => by
    rw [Lib.decDigits]
    split
    · simp
    · have := dec_len k (u / 10) (by omega)
      simp only [List.length_append, List.length_singleton]
      omega
theorem digits_c (n0 : Int) (h0 : 0 ≤ n0) (h1 : n0 ≤ 4294967295) (w : World) : Fc Tryd.prog 51 [.int .u32 n0] w fun v w' => v = .string (strY (Lib.itoa n0)) ∧ St [] w w' [] := by
  refine fc_i TB_ok Tryd.func51 rfl (by kernel_rfl) ?_
  have hS := Sf.refl w
  repeat ((conv => whnf); first | (refine nw_f hS ?_; intro b w1 hS))
  have hi0 : Lib.itoa n0 = Lib.decDigits n0.toNat := by rw [Lib.itoa, if_neg (by omega)]
  have hil := dec_len n0.toNat n0.toNat (Nat.le_refl _)
  rw [hi0]
  refine loop_i TB_ok (fun t : Int × List UInt8 => [(0, .int .u32 t.1), (3, .string (strY t.2))]) (fun t w' => (0 ≤ t.1 ∧ t.1 ≤ 4294967295) ∧ Lib.decDigits t.1.toNat ++ t.2 = Lib.decDigits n0.toNat ∧ Sf [] w w' [] []) (fun t => t.1.toNat) (n0, []) rfl ⟨⟨h0, h1⟩, by simp, hS⟩ ?_
  rintro ⟨n, s⟩ us w2 ⟨hn, hs, hS⟩
  simp only at hn hs
  have hsl : s.length ≤ n0.toNat + 1 := by have := congrArg List.length hs; rw [List.length_append] at this; omega
  repeat ((conv => whnf); first | (refine nw_f hS ?_; intro b w1 hS) | (refine ld_f hS 0 rfl rfl ?_) | (refine ldA_f hS 0 rfl rfl ?_) | (refine stN_f hS 0 rfl (Nat.le_of_ble_eq_true rfl) rfl rfl ?_; (conv => whnf); intro w1 hS) | (refine stM_f hS 0 rfl (Nat.le_of_ble_eq_true rfl) rfl ?_; (conv => whnf); intro w1 hS) | (refine .mk (by decide) ?_))
  have hRd : Rd _ _ [Value.int .u8 (IntKind.u8.wrap (IntKind.u32.wrap (48 + n.tmod 10)))] := hS.rd 0 rfl
  rw [u8v, Int.tmod_eq_emod_of_nonneg hn.1, wrap_u32 (by omega) (by omega)] at hRd
  refine bStr_i Tryd.underlying84 Tryd.underlying5 Tryd.underlying9 hRd rfl ?_
  have hy : yI (48 + n % 10) = UInt8.ofNat (48 + n.toNat % 10) := by
    unfold yI
    congr 1
    omega
  have hdd : Lib.decDigits n.toNat = if n.toNat < 10 then [UInt8.ofNat (48 + n.toNat)] else Lib.decDigits (n.toNat / 10) ++ [UInt8.ofNat (48 + n.toNat % 10)] := by
    rw [Lib.decDigits]
    split <;> rfl
  have htd : IntKind.u32.wrap (n.tdiv 10) = n / 10 := by rw [Int.tdiv_eq_ediv_of_nonneg hn.1, wrap_u32 (by omega) (by omega)]
  repeat ((conv => whnf); first | (refine nw_f hS ?_; intro b w1 hS) | (refine ld_f hS 0 rfl rfl ?_) | (refine ldA_f hS 0 rfl rfl ?_) | (refine stN_f hS 0 rfl (Nat.le_of_ble_eq_true rfl) rfl rfl ?_; (conv => whnf); intro w1 hS) | (refine stM_f hS 0 rfl (Nat.le_of_ble_eq_true rfl) rfl ?_; (conv => whnf); intro w1 hS))
  refine .mk (by show (strY [yI (48 + n % 10)]).size + (strY s).size ≤ _; rw [strY_size, strY_size]; simp; omega) ?_
  by_cases h10 : n < 10
  · have g : (n.tdiv 10 == 0) = true := by rw [Int.tdiv_eq_ediv_of_nonneg hn.1]; simp; omega
    have g2 : (IntKind.u32.wrap (n.tdiv 10) == 0) = true := by rw [htd]; simp; omega
    repeat ((conv => whnf); first | (apply q_i; focus (intro w1 hS; (conv => whnf); first | exact ⟨rfl, rfl⟩ | ((refine ld_f hS 0 rfl rfl ?_); (conv => whnf); exact ⟨rfl, rfl⟩) | ((refine ldA_f hS 0 rfl rfl ?_); (conv => whnf); exact ⟨rfl, rfl⟩) | ((refine .mk (by decide) ?_); (conv => whnf); exact ⟨rfl, rfl⟩))) | (refine nw_f hS ?_; intro b w1 hS) | (refine as_i hS ?_) | (refine as_i (hS.subs (List.nil_sublist _) (by repeat (first | exact List.Sublist.refl _ | apply List.Sublist.cons_cons | apply List.Sublist.cons))) ?_) | (refine as_i (hS.subs (List.Sublist.refl _) (by repeat (first | exact List.Sublist.refl _ | apply List.Sublist.cons_cons | apply List.Sublist.cons))) ?_) | (refine bar_f hS ?_) | (refine ld_f hS 0 rfl rfl ?_) | (refine ldA_f hS 0 rfl rfl ?_) | (refine stN_f hS 0 rfl (Nat.le_of_ble_eq_true rfl) rfl rfl ?_; (conv => whnf); intro w1 hS) | (refine stM_f hS 0 rfl (Nat.le_of_ble_eq_true rfl) rfl ?_; (conv => whnf); intro w1 hS) | (refine .mk (by decide) ?_) | (refine drawf TB_ok rfl (by kernel_rfl) (by kernel_rfl) hS (List.Sublist.refl _) (List.Sublist.refl _) ?_; intro w1 hS) | (refine br_t (by assumption) ?_) | (refine br_f (by assumption) ?_))
    refine ⟨?_, hS.nil⟩
    rw [← hs, hdd, if_pos (by omega), strY_append, hy, Nat.mod_eq_of_lt (show n.toNat < 10 by omega)]
  · have g2 : (IntKind.u32.wrap (n.tdiv 10) == 0) = false := by rw [htd]; simp; omega
    repeat ((conv => whnf); first | (apply q_i; focus (intro w1 hS; (conv => whnf); first | exact ⟨rfl, rfl⟩ | ((refine ld_f hS 0 rfl rfl ?_); (conv => whnf); exact ⟨rfl, rfl⟩) | ((refine ldA_f hS 0 rfl rfl ?_); (conv => whnf); exact ⟨rfl, rfl⟩) | ((refine .mk (by decide) ?_); (conv => whnf); exact ⟨rfl, rfl⟩))) | (refine nw_f hS ?_; intro b w1 hS) | (refine as_i hS ?_) | (refine as_i (hS.subs (List.nil_sublist _) (by repeat (first | exact List.Sublist.refl _ | apply List.Sublist.cons_cons | apply List.Sublist.cons))) ?_) | (refine as_i (hS.subs (List.Sublist.refl _) (by repeat (first | exact List.Sublist.refl _ | apply List.Sublist.cons_cons | apply List.Sublist.cons))) ?_) | (refine bar_f hS ?_) | (refine ld_f hS 0 rfl rfl ?_) | (refine ldA_f hS 0 rfl rfl ?_) | (refine stN_f hS 0 rfl (Nat.le_of_ble_eq_true rfl) rfl rfl ?_; (conv => whnf); intro w1 hS) | (refine stM_f hS 0 rfl (Nat.le_of_ble_eq_true rfl) rfl ?_; (conv => whnf); intro w1 hS) | (refine .mk (by decide) ?_) | (refine drawf TB_ok rfl (by kernel_rfl) (by kernel_rfl) hS (List.Sublist.refl _) (List.Sublist.refl _) ?_; intro w1 hS) | (refine br_t (by assumption) ?_) | (refine br_f (by assumption) ?_))
    refine ⟨rfl, (n / 10, yI (48 + n % 10) :: s), ?_, ⟨by simp only; omega, ?_, hS.subs (List.Sublist.refl _) (List.nil_sublist _)⟩, by simp only; omega⟩
    · rw [htd, strY_append]
      rfl
    · simp only
      rw [← hs, hdd, if_neg (by omega), hy, show (n / 10).toNat = n.toNat / 10 from by omega]
      simp
theorem rconf_c (name : List UInt8) (hnm : name.length ≤ 1073741824) (r n : Int) (hr : 0 ≤ r ∧ r ≤ 255) (hn : 0 ≤ n ∧ n ≤ 4294967295) (w : World) :
    Fc Tryd.prog 25 [.string (strY name), dotV r n] w fun v w' => v = .tuple #[.string (strY (confT name r n)), .int .i64 (if nameB name && rightB r n then 0 else 4)] ∧ St [] w w' [] := by
  refine fc_i TB_ok Tryd.func25 rfl (by kernel_rfl) ?_
  have hS := Sf.refl w
  have hc := fun w => rcheck_c name (by omega) w
  unfold confT
  cases h1 : nameB name with
  | false =>
    have hne : (checkE name != 0) = true := by unfold nameB at h1; simp at h1; simpa using h1
    repeat ((conv => whnf); first | (apply q_i; focus (intro w1 hS; (conv => whnf); first | exact ⟨rfl, rfl⟩ | ((refine ld_f hS 0 rfl rfl ?_); (conv => whnf); exact ⟨rfl, rfl⟩) | ((refine ldA_f hS 0 rfl rfl ?_); (conv => whnf); exact ⟨rfl, rfl⟩) | ((refine fc_m (hc _) ?_; rintro v w1 ⟨rfl, hS'⟩; replace hS := hS.call0 hS'); (conv => whnf); exact ⟨rfl, rfl⟩))) | (refine nw_f hS ?_; intro b w1 hS) | (refine as_i hS ?_) | (refine as_i (hS.subs (List.nil_sublist _) (by repeat (first | exact List.Sublist.refl _ | apply List.Sublist.cons_cons | apply List.Sublist.cons))) ?_) | (refine as_i (hS.subs (List.Sublist.refl _) (by repeat (first | exact List.Sublist.refl _ | apply List.Sublist.cons_cons | apply List.Sublist.cons))) ?_) | (refine bar_f hS ?_) | (refine ld_f hS 0 rfl rfl ?_) | (refine ldA_f hS 0 rfl rfl ?_) | (refine stN_f hS 0 rfl (Nat.le_of_ble_eq_true rfl) rfl rfl ?_; (conv => whnf); intro w1 hS) | (refine stM_f hS 0 rfl (Nat.le_of_ble_eq_true rfl) rfl ?_; (conv => whnf); intro w1 hS) | (refine fc_m (hc _) ?_; rintro v w1 ⟨rfl, hS'⟩; replace hS := hS.call0 hS') | (refine drawf TB_ok rfl (by kernel_rfl) (by kernel_rfl) hS (List.Sublist.refl _) (List.Sublist.refl _) ?_; intro w1 hS) | (refine br_t (by assumption) ?_) | (refine br_f (by assumption) ?_))
    exact ⟨rfl, hS.nil⟩
  | true =>
    have hne : (checkE name != 0) = false := by unfold nameB at h1; simp at h1; simpa using h1
    by_cases c1 : 7 < r
    · have g1 : decide (7 < r) = true := decide_eq_true c1
      have hrb : rightB r n = false := by unfold rightB; rw [decide_eq_false (show ¬ r < 8 by omega)]; rfl
      rw [hrb]
      repeat ((conv => whnf); first | (apply q_i; focus (intro w1 hS; (conv => whnf); first | exact ⟨rfl, rfl⟩ | ((refine ld_f hS 0 rfl rfl ?_); (conv => whnf); exact ⟨rfl, rfl⟩) | ((refine ldA_f hS 0 rfl rfl ?_); (conv => whnf); exact ⟨rfl, rfl⟩) | ((refine fc_m (hc _) ?_; rintro v w1 ⟨rfl, hS'⟩; replace hS := hS.call0 hS'); (conv => whnf); exact ⟨rfl, rfl⟩))) | (refine nw_f hS ?_; intro b w1 hS) | (refine as_i hS ?_) | (refine as_i (hS.subs (List.nil_sublist _) (by repeat (first | exact List.Sublist.refl _ | apply List.Sublist.cons_cons | apply List.Sublist.cons))) ?_) | (refine as_i (hS.subs (List.Sublist.refl _) (by repeat (first | exact List.Sublist.refl _ | apply List.Sublist.cons_cons | apply List.Sublist.cons))) ?_) | (refine bar_f hS ?_) | (refine ld_f hS 0 rfl rfl ?_) | (refine ldA_f hS 0 rfl rfl ?_) | (refine stN_f hS 0 rfl (Nat.le_of_ble_eq_true rfl) rfl rfl ?_; (conv => whnf); intro w1 hS) | (refine stM_f hS 0 rfl (Nat.le_of_ble_eq_true rfl) rfl ?_; (conv => whnf); intro w1 hS) | (refine fc_m (hc _) ?_; rintro v w1 ⟨rfl, hS'⟩; replace hS := hS.call0 hS') | (refine drawf TB_ok rfl (by kernel_rfl) (by kernel_rfl) hS (List.Sublist.refl _) (List.Sublist.refl _) ?_; intro w1 hS) | (refine br_t (by assumption) ?_) | (refine br_f (by assumption) ?_))
      exact ⟨rfl, hS.nil⟩
    · have g1 : decide (7 < r) = false := decide_eq_false c1
      by_cases c2 : n < 1
      · have g2 : decide (n < 1) = true := decide_eq_true c2
        have hrb : rightB r n = false := by unfold rightB; rw [decide_eq_false (show ¬ 1 ≤ n by omega)]; simp
        rw [hrb]
        repeat ((conv => whnf); first | (apply q_i; focus (intro w1 hS; (conv => whnf); first | exact ⟨rfl, rfl⟩ | ((refine ld_f hS 0 rfl rfl ?_); (conv => whnf); exact ⟨rfl, rfl⟩) | ((refine ldA_f hS 0 rfl rfl ?_); (conv => whnf); exact ⟨rfl, rfl⟩) | ((refine fc_m (hc _) ?_; rintro v w1 ⟨rfl, hS'⟩; replace hS := hS.call0 hS'); (conv => whnf); exact ⟨rfl, rfl⟩))) | (refine nw_f hS ?_; intro b w1 hS) | (refine as_i hS ?_) | (refine as_i (hS.subs (List.nil_sublist _) (by repeat (first | exact List.Sublist.refl _ | apply List.Sublist.cons_cons | apply List.Sublist.cons))) ?_) | (refine as_i (hS.subs (List.Sublist.refl _) (by repeat (first | exact List.Sublist.refl _ | apply List.Sublist.cons_cons | apply List.Sublist.cons))) ?_) | (refine bar_f hS ?_) | (refine ld_f hS 0 rfl rfl ?_) | (refine ldA_f hS 0 rfl rfl ?_) | (refine stN_f hS 0 rfl (Nat.le_of_ble_eq_true rfl) rfl rfl ?_; (conv => whnf); intro w1 hS) | (refine stM_f hS 0 rfl (Nat.le_of_ble_eq_true rfl) rfl ?_; (conv => whnf); intro w1 hS) | (refine fc_m (hc _) ?_; rintro v w1 ⟨rfl, hS'⟩; replace hS := hS.call0 hS') | (refine drawf TB_ok rfl (by kernel_rfl) (by kernel_rfl) hS (List.Sublist.refl _) (List.Sublist.refl _) ?_; intro w1 hS) | (refine br_t (by assumption) ?_) | (refine br_f (by assumption) ?_))
        exact ⟨rfl, hS.nil⟩
      · have g2 : decide (n < 1) = false := decide_eq_false c2
        by_cases c3 : 65535 < n
        · have g3 : decide (65535 < n) = true := decide_eq_true c3
          have hrb : rightB r n = false := by unfold rightB; rw [decide_eq_false (show ¬ n ≤ 65535 by omega)]; simp
          rw [hrb]
          repeat ((conv => whnf); first | (apply q_i; focus (intro w1 hS; (conv => whnf); first | exact ⟨rfl, rfl⟩ | ((refine ld_f hS 0 rfl rfl ?_); (conv => whnf); exact ⟨rfl, rfl⟩) | ((refine ldA_f hS 0 rfl rfl ?_); (conv => whnf); exact ⟨rfl, rfl⟩) | ((refine fc_m (hc _) ?_; rintro v w1 ⟨rfl, hS'⟩; replace hS := hS.call0 hS'); (conv => whnf); exact ⟨rfl, rfl⟩))) | (refine nw_f hS ?_; intro b w1 hS) | (refine as_i hS ?_) | (refine as_i (hS.subs (List.nil_sublist _) (by repeat (first | exact List.Sublist.refl _ | apply List.Sublist.cons_cons | apply List.Sublist.cons))) ?_) | (refine as_i (hS.subs (List.Sublist.refl _) (by repeat (first | exact List.Sublist.refl _ | apply List.Sublist.cons_cons | apply List.Sublist.cons))) ?_) | (refine bar_f hS ?_) | (refine ld_f hS 0 rfl rfl ?_) | (refine ldA_f hS 0 rfl rfl ?_) | (refine stN_f hS 0 rfl (Nat.le_of_ble_eq_true rfl) rfl rfl ?_; (conv => whnf); intro w1 hS) | (refine stM_f hS 0 rfl (Nat.le_of_ble_eq_true rfl) rfl ?_; (conv => whnf); intro w1 hS) | (refine fc_m (hc _) ?_; rintro v w1 ⟨rfl, hS'⟩; replace hS := hS.call0 hS') | (refine drawf TB_ok rfl (by kernel_rfl) (by kernel_rfl) hS (List.Sublist.refl _) (List.Sublist.refl _) ?_; intro w1 hS) | (refine br_t (by assumption) ?_) | (refine br_f (by assumption) ?_))
          exact ⟨rfl, hS.nil⟩
        · have g3 : decide (65535 < n) = false := decide_eq_false c3
          have hrb : rightB r n = true := by unfold rightB; simp; omega
          rw [hrb]
          have e1 : IntKind.u32.wrap r = r := wrap_u32 (by omega) (by omega)
          have l1 := itoa_len hr.1 (show r ≤ 65535 by omega)
          have l2 := itoa_len hn.1 (show n ≤ 65535 by omega)
          have hr1 : strY name ++ ⟨#[126]⟩ = strY (name ++ [126]) := strY_append name [126]
          have hr2 : strY (name ++ [126]) ++ strY (Lib.itoa r) = strY (name ++ [126] ++ Lib.itoa r) := strY_append _ _
          have hr3 : strY (name ++ [126] ++ Lib.itoa r) ++ ⟨#[46]⟩ = strY (name ++ [126] ++ Lib.itoa r ++ [46]) := strY_append _ [46]
          have hr4 : strY (name ++ [126] ++ Lib.itoa r ++ [46]) ++ strY (Lib.itoa n) = strY (name ++ [126] ++ Lib.itoa r ++ [46] ++ Lib.itoa n) := strY_append _ _
          have k1 : (strY name).size + (⟨#[126]⟩ : ByteArray).size ≤ 9223372036854775807 := by
            have : (⟨#[126]⟩ : ByteArray).size = 1 := rfl
            rw [strY_size]; omega
          have k2 : (strY name ++ ⟨#[126]⟩).size + (strY (Lib.itoa r)).size ≤ 9223372036854775807 := by
            rw [hr1, strY_size, strY_size]; simp; omega
          have k3 : (strY name ++ ⟨#[126]⟩ ++ strY (Lib.itoa r)).size + (⟨#[46]⟩ : ByteArray).size ≤ 9223372036854775807 := by
            have : (⟨#[46]⟩ : ByteArray).size = 1 := rfl
            rw [hr1, hr2, strY_size]; simp; omega
          have k4 : (strY name ++ ⟨#[126]⟩ ++ strY (Lib.itoa r) ++ ⟨#[46]⟩).size + (strY (Lib.itoa n)).size ≤ 9223372036854775807 := by
            rw [hr1, hr2, hr3, strY_size, strY_size]; simp; omega
          have hfin : strY name ++ ⟨#[126]⟩ ++ strY (Lib.itoa r) ++ ⟨#[46]⟩ ++ strY (Lib.itoa n) = strY (name ++ [126] ++ Lib.itoa r ++ [46] ++ Lib.itoa n) := by rw [hr1, hr2, hr3, hr4]
          have hi1 : ∀ w', Fc Tryd.prog 51 [.int .u32 (IntKind.u32.wrap r)] w' fun v w'' => v = .string (strY (Lib.itoa r)) ∧ St [] w' w'' [] := fun w' => by rw [e1]; exact digits_c r hr.1 (by omega) w'
          have hi2 : ∀ w', Fc Tryd.prog 51 [.int .u32 n] w' fun v w'' => v = .string (strY (Lib.itoa n)) ∧ St [] w' w'' [] := fun w' => digits_c n hn.1 hn.2 w'
          repeat ((conv => whnf); first | (apply q_i; focus (intro w1 hS; (conv => whnf); first | exact ⟨rfl, rfl⟩ | ((refine ld_f hS 0 rfl rfl ?_); (conv => whnf); exact ⟨rfl, rfl⟩) | ((refine ldA_f hS 0 rfl rfl ?_); (conv => whnf); exact ⟨rfl, rfl⟩) | ((refine fc_m (hc _) ?_; rintro v w1 ⟨rfl, hS'⟩; replace hS := hS.call0 hS'); (conv => whnf); exact ⟨rfl, rfl⟩))) | (refine nw_f hS ?_; intro b w1 hS) | (refine as_i hS ?_) | (refine as_i (hS.subs (List.nil_sublist _) (by repeat (first | exact List.Sublist.refl _ | apply List.Sublist.cons_cons | apply List.Sublist.cons))) ?_) | (refine as_i (hS.subs (List.Sublist.refl _) (by repeat (first | exact List.Sublist.refl _ | apply List.Sublist.cons_cons | apply List.Sublist.cons))) ?_) | (refine bar_f hS ?_) | (refine ld_f hS 0 rfl rfl ?_) | (refine ldA_f hS 0 rfl rfl ?_) | (refine stN_f hS 0 rfl (Nat.le_of_ble_eq_true rfl) rfl rfl ?_; (conv => whnf); intro w1 hS) | (refine stM_f hS 0 rfl (Nat.le_of_ble_eq_true rfl) rfl ?_; (conv => whnf); intro w1 hS) | (refine fc_m (hc _) ?_; rintro v w1 ⟨rfl, hS'⟩; replace hS := hS.call0 hS') | (refine br_t (by assumption) ?_) | (refine br_f (by assumption) ?_))
          refine drawf (Ls := [_]) TB_ok rfl (by kernel_rfl) (by kernel_rfl) hS (List.nil_sublist _) (List.Sublist.refl _) ?_; intro w1 hS
          repeat' ((conv => whnf); first | (refine And.intro ?_ ?_) | (apply q_i; focus (intro w1 hS; (conv => whnf); first | exact ⟨rfl, rfl⟩ | ((refine ld_f hS 0 rfl rfl ?_); (conv => whnf); exact ⟨rfl, rfl⟩) | ((refine ldA_f hS 0 rfl rfl ?_); (conv => whnf); exact ⟨rfl, rfl⟩) | ((refine .mk k1 ?_); (conv => whnf); exact ⟨rfl, rfl⟩) | ((refine .mk k2 ?_); (conv => whnf); exact ⟨rfl, rfl⟩) | ((refine .mk k3 ?_); (conv => whnf); exact ⟨rfl, rfl⟩) | ((refine .mk k4 ?_); (conv => whnf); exact ⟨rfl, rfl⟩) | ((refine fc_m (hi1 _) ?_; rintro v w3 ⟨rfl, hS'⟩; replace hS := hS.call0 hS'); (conv => whnf); exact ⟨rfl, rfl⟩) | ((refine fc_m (hi2 _) ?_; rintro v w3 ⟨rfl, hS'⟩; replace hS := hS.call0 hS'); (conv => whnf); exact ⟨rfl, rfl⟩))) | (refine nw_f hS ?_; intro b w1 hS) | (refine as_i hS ?_) | (refine as_i (hS.subs (List.nil_sublist _) (by repeat (first | exact List.Sublist.refl _ | apply List.Sublist.cons_cons | apply List.Sublist.cons))) ?_) | (refine as_i (hS.subs (List.Sublist.refl _) (by repeat (first | exact List.Sublist.refl _ | apply List.Sublist.cons_cons | apply List.Sublist.cons))) ?_) | (refine bar_f hS ?_) | (refine ld_f hS 0 rfl rfl ?_) | (refine ldA_f hS 0 rfl rfl ?_) | (refine stN_f hS 0 rfl (Nat.le_of_ble_eq_true rfl) rfl rfl ?_; (conv => whnf); intro w1 hS) | (refine stM_f hS 0 rfl (Nat.le_of_ble_eq_true rfl) rfl ?_; (conv => whnf); intro w1 hS) | (refine .mk k1 ?_) | (refine .mk k2 ?_) | (refine .mk k3 ?_) | (refine .mk k4 ?_) | (refine fc_m (hi1 _) ?_; rintro v w3 ⟨rfl, hS'⟩; replace hS := hS.call0 hS') | (refine fc_m (hi2 _) ?_; rintro v w3 ⟨rfl, hS'⟩; replace hS := hS.call0 hS') | (refine drawf TB_ok rfl (by kernel_rfl) (by kernel_rfl) hS (List.Sublist.refl _) (List.Sublist.refl _) ?_; intro w1 hS) | (refine br_t (by assumption) ?_) | (refine br_f (by assumption) ?_))
          all_goals first
            | exact hS.nil
            | exact congrArg (fun x => Value.tuple #[.string x, .int .i64 0]) hfin
theorem digs_tab {w : World} (ht : Lib.TabIs Tryd.prog w "internal/strconv.uint64pow10" .u64 Lib.pow10Tab) {n : Int} (h0 : 0 ≤ n) (h1 : n ≤ 4294967295) : Digs w n := fun w' hS => by
  have ht' : Lib.TabIs Tryd.prog w' "internal/strconv.uint64pow10" .u64 Lib.pow10Tab := Lib.tabBelow_of_tabIs ht w' hS.below
  refine fc_of_calls Tryd.func47 rfl (by kernel_rfl) ?_
  have h := Any.strconv_Itoa (P := Tryd.prog) (ρ := ren171) lays171 n (by omega) (by omega) w' ht'
  refine h.mono fun e w'' ⟨he, k, os, hw⟩ => ⟨_, he, rfl, ?_⟩
  subst hw
  refine St.of_below' ⟨rfl, rfl, rfl, ?_, fun j hj => ?_⟩
  · show w'.heap.size ≤ (w'.heap ++ os).size
    rw [Array.size_append]; omega
  · show (w'.heap ++ os)[j]? = w'.heap[j]?
    rw [Array.getElem?_append_left hj]
theorem tabIs_of_mem {P : Program} {W : World} {name : String} {k : IntKind} {zs : List Int} {g : Nat} {t e : TypeId} {n : Nat}
    (hg : P.globalNamed name = some g) (hty : (P.globals[g]?).map (·.type) = some t) (ht : P.underlying t = some (.array n e)) (he : P.underlying e = some (.int k)) (hce : P.cellsOf e = 1) (hct : P.cellsOf t = n) :
    ∀ {l : List (String × DataW Unit)}, (name, Lib.tabData k zs) ∈ l → laidMet P l W → Lib.TabIs P W name k zs := by
  intro l hm h
  obtain ⟨ps, h, hrest⟩ := h
  clear hrest
  induction l generalizing ps with
  | nil => cases hm
  | cons x r ih =>
    obtain ⟨nm, d⟩ := x
    obtain ⟨g', t', cs, fuel, p, q, hg', ht', hvar, hd, hr, _⟩ := h
    rcases List.mem_cons.1 hm with e | hm
    · cases e
      obtain rfl := Option.some.inj (hg.symm.trans hg')
      obtain rfl := Option.some.inj (hty.symm.trans ht')
      unfold Lib.TabIs
      rw [hvar, ← Lib.cells_of_tab ht he hce hct hd]
    · exact ih hm q hr
theorem tab_row {W : World} {l : List (String × DataW Unit)} (hp : (l.all fun x => x.2.handleName?.isNone) = true) (hm : ("internal/strconv.uint64pow10", Lib.tabData .u64 Lib.pow10Tab) ∈ l) (h : laidMetH Tryd.prog l W) :
    Lib.TabIs Tryd.prog W "internal/strconv.uint64pow10" .u64 Lib.pow10Tab := by
  rw [MakeChecks.laidMetH_plain _ _ _ hp] at h
  exact tabIs_of_mem (g := 3) (t := 137) (e := 69) (n := 20) (by kernel_rfl) (by kernel_rfl) Tryd.underlying137 Tryd.underlying69 (by kernel_rfl) (by kernel_rfl) hm h
end Go.RV
