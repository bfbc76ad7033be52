/- Contracts of functions of chapter 1: the reader. Conditions: none. -/
import Derived.Test.YtedoalnjdanebaaV5
set_option maxRecDepth 20000
set_option linter.unusedVariables false
set_option linter.unusedSimpArgs false
namespace Go.RV
open Go Go.Proofs

/-- a reader's state -/
structure RS where
  rest : List UInt8
  e : Int
def rdO (s : RS) : Obj := .cells #[.string (strY s.rest), .int .i64 s.e] 79 (0, 0)
theorem strY_extract (l : List UInt8) (a b : Nat) : (strY l).extract a b = strY ((l.take b).drop a) := by
  apply ByteArray.ext
  simp [strY, List.drop_take]
def fixedR (s : RS) (n : Int) : List UInt8 × RS := if s.e ≠ 0 ∨ n ≤ 0 then ([], s) else if (s.rest.length : Int) < n then ([], ⟨[], 10⟩) else (s.rest.take n.toNat, ⟨s.rest.drop n.toNat, s.e⟩)

theorem read_c (s : List UInt8) (w : World) : Fc Try.prog 23 [.string (strY s)] w fun v w' => ∃ b, v = .pointer (some ⟨b, 0, none⟩) ∧ St [] w w' [(b, rdO ⟨s, 0⟩)] := by
  refine fc_i TB_ok Try.func23 rfl (by kernel_rfl) ?_
  have hS := Sf.refl w
  repeat ((conv => whnf); first | (refine nw_f hS ?_; intro b w1 hS) | (refine ld_f hS 0 rfl rfl ?_) | (refine ldA_f hS 0 rfl rfl ?_) | (refine stN_f hS 0 rfl (Nat.le_of_ble_eq_true rfl) rfl rfl ?_; (conv => whnf); intro w1 hS) | (refine stM_f hS 0 rfl (Nat.le_of_ble_eq_true rfl) rfl ?_; (conv => whnf); intro w1 hS))
  exact ⟨_, rfl, hS.sub (by repeat (first | exact List.Sublist.refl _ | apply List.Sublist.cons_cons | apply List.Sublist.cons))⟩
theorem rerr_c (b : Nat) (s : RS) (w : World) (hS : St [b] w w [(b, rdO s)]) : Fc Try.prog 46 [.pointer (some ⟨b, 0, none⟩)] w fun v w' => v = .int .i64 s.e ∧ St [] w w' [] := by
  refine fc_i TB_ok Try.func46 rfl (by kernel_rfl) ?_
  have hH : Holds w [(b, .cells #[.string (strY s.rest), .int .i64 s.e] 79 (0, 0))] := fun x hx => hS.own x.1 x.2 hx
  replace hS := Sf.refl w
  repeat ((conv => whnf); first | (refine nw_f hS ?_; intro b w1 hS) | (refine ld_f hS 0 rfl rfl ?_) | (refine ldA_f hS 0 rfl rfl ?_) | (refine stN_f hS 0 rfl (Nat.le_of_ble_eq_true rfl) rfl rfl ?_; (conv => whnf); intro w1 hS) | (refine stM_f hS 0 rfl (Nat.le_of_ble_eq_true rfl) rfl ?_; (conv => whnf); intro w1 hS) | (refine ld_h hS.nil hH 0 rfl rfl ?_))
  exact ⟨rfl, hS.nil⟩
theorem rrest_c (b : Nat) (s : RS) (w : World) (hS : St [b] w w [(b, rdO s)]) : Fc Try.prog 28 [.pointer (some ⟨b, 0, none⟩)] w fun v w' => v = .string (strY s.rest) ∧ St [] w w' [] := by
  refine fc_i TB_ok Try.func28 rfl (by kernel_rfl) ?_
  have hH : Holds w [(b, .cells #[.string (strY s.rest), .int .i64 s.e] 79 (0, 0))] := fun x hx => hS.own x.1 x.2 hx
  replace hS := Sf.refl w
  repeat ((conv => whnf); first | (refine nw_f hS ?_; intro b w1 hS) | (refine ld_f hS 0 rfl rfl ?_) | (refine ldA_f hS 0 rfl rfl ?_) | (refine stN_f hS 0 rfl (Nat.le_of_ble_eq_true rfl) rfl rfl ?_; (conv => whnf); intro w1 hS) | (refine stM_f hS 0 rfl (Nat.le_of_ble_eq_true rfl) rfl ?_; (conv => whnf); intro w1 hS) | (refine ld_h hS.nil hH 0 rfl rfl ?_))
  exact ⟨rfl, hS.nil⟩
theorem rfail_c (b : Nat) (s : RS) (e : Int) (w : World) (hS : St [b] w w [(b, rdO s)]) : Fc Try.prog 65 [.pointer (some ⟨b, 0, none⟩), .int .i64 e] w fun v w' => St [b] w w' [(b, rdO ⟨[], e⟩)] := by
  refine fc_i TB_ok Try.func65 rfl (by kernel_rfl) ?_
  have hS : Sf [b] w w [] [(b, .cells #[.string (strY s.rest), .int .i64 s.e] 79 (0, 0))] := ⟨hS⟩
  repeat ((conv => whnf); first | (refine nw_f hS ?_; intro b w1 hS) | (refine ld_f hS 0 rfl rfl ?_) | (refine ldA_f hS 0 rfl rfl ?_) | (refine stN_f hS 0 rfl (Nat.le_of_ble_eq_true rfl) rfl rfl ?_; (conv => whnf); intro w1 hS) | (refine stM_f hS 0 rfl (Nat.le_of_ble_eq_true rfl) rfl ?_; (conv => whnf); intro w1 hS))
  exact hS.st

theorem rfixed0_c (b : Nat) (s : RS) (n : Int) (w : World) (hS : St [b] w w [(b, rdO s)]) :
    Fc Try.prog 49 [.pointer (some ⟨b, 0, none⟩), .int .i64 n] w fun v w' => v = .string (strY (fixedR s n).1) ∧ St [b] w w' [(b, rdO (fixedR s n).2)] := by
  refine fc_i TB_ok Try.func49 rfl (by kernel_rfl) ?_
  have hS : Sf [b] w w [] [(b, .cells #[.string (strY s.rest), .int .i64 s.e] 79 (0, 0))] := ⟨hS⟩
  repeat ((conv => whnf); first | (refine nw_f hS ?_; intro b w1 hS) | (refine ld_f hS 0 rfl rfl ?_) | (refine ldA_f hS 0 rfl rfl ?_) | (refine stN_f hS 0 rfl (Nat.le_of_ble_eq_true rfl) rfl rfl ?_; (conv => whnf); intro w1 hS) | (refine stM_f hS 0 rfl (Nat.le_of_ble_eq_true rfl) rfl ?_; (conv => whnf); intro w1 hS))
  refine br_i (fun h0 => ?_) (fun h0 => ?_)
  · repeat ((conv => whnf); first | (refine nw_f hS ?_; intro b w1 hS) | (refine ld_f hS 0 rfl rfl ?_) | (refine ldA_f hS 0 rfl rfl ?_) | (refine stN_f hS 0 rfl (Nat.le_of_ble_eq_true rfl) rfl rfl ?_; (conv => whnf); intro w1 hS) | (refine stM_f hS 0 rfl (Nat.le_of_ble_eq_true rfl) rfl ?_; (conv => whnf); intro w1 hS))
    have hc : s.e ≠ 0 ∨ n ≤ 0 := .inl (by simpa using h0)
    exact ⟨by rw [fixedR, if_pos hc]; rfl, by rw [fixedR, if_pos hc]; exact hS.st⟩
  · repeat ((conv => whnf); first | (refine nw_f hS ?_; intro b w1 hS) | (refine ld_f hS 0 rfl rfl ?_) | (refine ldA_f hS 0 rfl rfl ?_) | (refine stN_f hS 0 rfl (Nat.le_of_ble_eq_true rfl) rfl rfl ?_; (conv => whnf); intro w1 hS) | (refine stM_f hS 0 rfl (Nat.le_of_ble_eq_true rfl) rfl ?_; (conv => whnf); intro w1 hS))
    refine br_i (fun h1 => ?_) (fun h1 => ?_)
    · repeat ((conv => whnf); first | (refine nw_f hS ?_; intro b w1 hS) | (refine ld_f hS 0 rfl rfl ?_) | (refine ldA_f hS 0 rfl rfl ?_) | (refine stN_f hS 0 rfl (Nat.le_of_ble_eq_true rfl) rfl rfl ?_; (conv => whnf); intro w1 hS) | (refine stM_f hS 0 rfl (Nat.le_of_ble_eq_true rfl) rfl ?_; (conv => whnf); intro w1 hS))
      have hc : s.e ≠ 0 ∨ n ≤ 0 := .inr (by simpa using h1)
      exact ⟨by rw [fixedR, if_pos hc]; rfl, by rw [fixedR, if_pos hc]; exact hS.st⟩
    · have hc : ¬ (s.e ≠ 0 ∨ n ≤ 0) := by simp at h0 h1; omega
      have hsz := strY_size s.rest
      repeat ((conv => whnf); first | (refine nw_f hS ?_; intro b w1 hS) | (refine ld_f hS 0 rfl rfl ?_) | (refine ldA_f hS 0 rfl rfl ?_) | (refine stN_f hS 0 rfl (Nat.le_of_ble_eq_true rfl) rfl rfl ?_; (conv => whnf); intro w1 hS) | (refine stM_f hS 0 rfl (Nat.le_of_ble_eq_true rfl) rfl ?_; (conv => whnf); intro w1 hS))
      refine br_i (fun h2 => ?_) (fun h2 => ?_)
      · have h2' : (s.rest.length : Int) < n := by have := of_decide_eq_true h2; omega
        repeat ((conv => whnf); first | (refine nw_f hS ?_; intro b w1 hS) | (refine ld_f hS 0 rfl rfl ?_) | (refine ldA_f hS 0 rfl rfl ?_) | (refine stN_f hS 0 rfl (Nat.le_of_ble_eq_true rfl) rfl rfl ?_; (conv => whnf); intro w1 hS) | (refine stM_f hS 0 rfl (Nat.le_of_ble_eq_true rfl) rfl ?_; (conv => whnf); intro w1 hS))
        refine fc_m (rfail_c b s 10 _ (hS.ownL (Lw := [(b, rdO s)]) (List.Sublist.refl _))) ?_
        rintro v w1 hS'
        have hS2 : Sf [b] w w1 [] [(b, rdO ⟨[], 10⟩)] := ⟨by simpa using hS.st.callM hS' (Lk := []) (fun b' hb => ⟨_, by simp at hb; subst hb; exact List.mem_singleton.2 rfl⟩) (List.nil_sublist _) (fun x hx => by cases hx)⟩
        replace hS := hS2
        repeat ((conv => whnf); first | (refine nw_f hS ?_; intro b w1 hS) | (refine ld_f hS 0 rfl rfl ?_) | (refine ldA_f hS 0 rfl rfl ?_) | (refine stN_f hS 0 rfl (Nat.le_of_ble_eq_true rfl) rfl rfl ?_; (conv => whnf); intro w1 hS) | (refine stM_f hS 0 rfl (Nat.le_of_ble_eq_true rfl) rfl ?_; (conv => whnf); intro w1 hS))
        exact ⟨by rw [fixedR, if_neg hc, if_pos h2']; rfl, by rw [fixedR, if_neg hc, if_pos h2']; exact hS.st⟩
      · have h2' : ¬ (s.rest.length : Int) < n := by have := of_decide_eq_false h2; omega
        repeat ((conv => whnf); first | (refine nw_f hS ?_; intro b w1 hS) | (refine ld_f hS 0 rfl rfl ?_) | (refine ldA_f hS 0 rfl rfl ?_) | (refine stN_f hS 0 rfl (Nat.le_of_ble_eq_true rfl) rfl rfl ?_; (conv => whnf); intro w1 hS) | (refine stM_f hS 0 rfl (Nat.le_of_ble_eq_true rfl) rfl ?_; (conv => whnf); intro w1 hS))
        refine drawf TB_ok rfl (by kernel_rfl) (by kernel_rfl) hS (List.Sublist.refl _) (List.Sublist.refl _) ?_
        intro w1 hS
        repeat ((conv => whnf); apply q_i; focus (intro w1 hS; (conv => whnf); first | exact ⟨rfl, rfl⟩ | (refine ld_f hS 0 rfl rfl ?_; (conv => whnf); exact ⟨rfl, rfl⟩) | (refine ldA_f hS 0 rfl rfl ?_; (conv => whnf); exact ⟨rfl, rfl⟩) | (refine .mk ⟨by omega, by omega⟩ ?_; (conv => whnf); exact ⟨rfl, rfl⟩)))
        (conv => whnf)
        refine stN_f hS 0 rfl (Nat.le_of_ble_eq_true rfl) rfl rfl ?_
        (conv => whnf)
        intro w2 hS
        repeat ((conv => whnf); first | (refine nw_f hS ?_; intro b w1 hS) | (refine ld_f hS 0 rfl rfl ?_) | (refine ldA_f hS 0 rfl rfl ?_) | (refine stN_f hS 0 rfl (Nat.le_of_ble_eq_true rfl) rfl rfl ?_; (conv => whnf); intro w1 hS) | (refine stM_f hS 0 rfl (Nat.le_of_ble_eq_true rfl) rfl ?_; (conv => whnf); intro w1 hS))
        rw [fixedR, if_neg hc, if_neg h2']
        refine ⟨?_, ?_⟩
        · rw [strY_extract]
          simp
        · have e : (strY s.rest).extract n.toNat (strY s.rest).size = strY (s.rest.drop n.toNat) := by
            rw [strY_extract, hsz, List.take_length]
          rw [e] at hS
          exact hS.st
end Go.RV
