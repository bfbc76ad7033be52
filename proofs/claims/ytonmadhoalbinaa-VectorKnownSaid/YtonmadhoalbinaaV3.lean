/- Contracts of functions of chapter 1: the document's texts. Conditions: none. -/
import Derived.Test.YtonmadhoalbinaaV2
set_option maxRecDepth 20000
set_option linter.unusedVariables false
set_option linter.unusedSimpArgs false
namespace Go.RV
open Go Go.Proofs

/-- a var number's bytes -/
def varF : Nat → Int → List UInt8
  | 0, n => [yI n]
  | f+1, n => if 127 < n then yI (128 + n % 128) :: varF f (n / 128) else [yI n]
def varD (n : Int) : List UInt8 := varF 5 n

theorem yI_emod (n : Int) : yI (n % 256) = yI n := by unfold yI; rw [Int.emod_emod_of_dvd _ (by decide)]
theorem be_snoc (n : Int) : ∀ w, yI (n / 2 ^ (8 * w)) :: be n w = be n (w + 1) := fun w => rfl
theorem be_low (n : Int) (h0 : 0 ≤ n) : ∀ (w : Nat), be n (w + 1) = be (n / 256) w ++ [yI n]
  | 0 => by simp [be]
  | w+1 => by
    have ih := be_low n h0 w
    rw [be, ih]
    show _ = (yI (n / 256 / 2 ^ (8 * w)) :: be (n / 256) w) ++ [yI n]
    have e : n / 256 / 2 ^ (8 * w) = n / 2 ^ (8 * (w + 1)) := by
      rw [Int.ediv_ediv_of_nonneg (by decide)]
      congr 1
      rw [show 8 * (w + 1) = 8 * w + 8 from by omega, Int.pow_add, Int.mul_comm]
      rfl
    rw [e]
    rfl

theorem rvar_c (n0 : Int) (h0 : 0 ≤ n0) (h1 : n0 ≤ 4294967295) (w : World) :
    Fc Try.prog 38 [.int .u32 n0] w fun v w' => v = .string (strY (varD n0)) ∧ St [] w w' [] := by
  refine fc_i TB_ok Try.func38 rfl (by kernel_rfl) ?_
  have hS := Sf.refl w
  repeat ((conv => whnf); first | (refine nw_f hS ?_; intro b w1 hS) | (refine ld_f hS 0 rfl rfl ?_) | (refine ldA_f hS 0 rfl rfl ?_) | (refine stN_f hS 0 rfl (Nat.le_of_ble_eq_true rfl) rfl rfl ?_; (conv => whnf); intro w1 hS) | (refine stM_f hS 0 rfl (Nat.le_of_ble_eq_true rfl) rfl ?_; (conv => whnf); intro w1 hS))
  refine loop_i TB_ok (fun s : Nat × Int × List UInt8 => [(0, .int .u32 s.2.1), (3, .string (strY s.2.2))]) (fun s w' => (s.1 ≤ 5 ∧ 1 ≤ s.1) ∧ (0 ≤ s.2.1 ∧ s.2.1 ≤ 4294967295 ∧ s.2.1 < 2 ^ (7 * s.1)) ∧ s.2.2 ++ varF s.1 s.2.1 = varD n0 ∧ s.2.2.length = 5 - s.1 ∧ Sf [] w w' [] []) (fun s => s.1) (5, n0, []) rfl ⟨⟨Nat.le_refl _, by show 1 ≤ 5; decide⟩, ⟨h0, h1, by show n0 < 2 ^ 35; omega⟩, rfl, rfl, hS⟩ ?_
  rintro ⟨f, n, s⟩ us w2 ⟨hf, hn, hs, hl, hS⟩
  simp only at hf hn hs hl
  obtain ⟨f, rfl⟩ : ∃ j, f = j + 1 := ⟨f - 1, by omega⟩
  (conv => whnf)
  refine br_i (fun hb => ?_) (fun hb => ?_)
  · have hlt : 127 < n := of_decide_eq_true hb
    have hf1 : 1 ≤ f := by
      rcases Nat.lt_or_ge 0 f with h | h
      · exact h
      · obtain rfl : f = 0 := by omega
        have := hn.2.2
        simp at this
        omega
    rw [varF, if_pos hlt] at hs
    repeat ((conv => whnf); first | (refine nw_f hS ?_; intro b w1 hS) | (refine ld_f hS 0 rfl rfl ?_) | (refine ldA_f hS 0 rfl rfl ?_) | (refine stN_f hS 0 rfl (Nat.le_of_ble_eq_true rfl) rfl rfl ?_; (conv => whnf); intro w1 hS) | (refine stM_f hS 0 rfl (Nat.le_of_ble_eq_true rfl) rfl ?_; (conv => whnf); intro w1 hS) | (refine .mk (by decide) ?_))
    have hRd : Rd _ _ [Value.int .u8 (IntKind.u8.wrap (IntKind.u32.wrap (128 + n.tmod 128)))] := hS.rd 0 rfl
    rw [u8v, Int.tmod_eq_emod_of_nonneg hn.1, wrap_u32 (by omega) (by omega)] at hRd
    refine bStr_i Try.underlying76 Try.underlying5 Try.underlying9 hRd rfl ?_
    repeat ((conv => whnf); first | (refine nw_f hS ?_; intro b w1 hS) | (refine ld_f hS 0 rfl rfl ?_) | (refine ldA_f hS 0 rfl rfl ?_) | (refine stN_f hS 0 rfl (Nat.le_of_ble_eq_true rfl) rfl rfl ?_; (conv => whnf); intro w1 hS) | (refine stM_f hS 0 rfl (Nat.le_of_ble_eq_true rfl) rfl ?_; (conv => whnf); intro w1 hS))
    refine .mk (by show (strY s).size + (strY [yI (128 + n % 128)]).size ≤ _; rw [strY_size, strY_size]; simp; omega) ?_
    repeat ((conv => whnf); first | (refine nw_f hS ?_; intro b w1 hS) | (refine ld_f hS 0 rfl rfl ?_) | (refine ldA_f hS 0 rfl rfl ?_) | (refine stN_f hS 0 rfl (Nat.le_of_ble_eq_true rfl) rfl rfl ?_; (conv => whnf); intro w1 hS) | (refine stM_f hS 0 rfl (Nat.le_of_ble_eq_true rfl) rfl ?_; (conv => whnf); intro w1 hS) | (refine .mk (by decide) ?_))
    refine ⟨rfl, (f, n / 128, s ++ [yI (128 + n % 128)]), ?_, ⟨by simp only; omega, ⟨by simp only; omega, by simp only; omega, ?_⟩, by simpa using hs, by simp; omega, hS.subs (List.Sublist.refl _) (List.nil_sublist _)⟩, by simp⟩
    · rw [Int.tdiv_eq_ediv_of_nonneg hn.1, wrap_u32 (by omega) (by omega), strY_append]
      rfl
    · have h := hn.2.2
      simp only
      rw [show 7 * (f + 1) = 7 * f + 7 from by omega, Int.pow_add] at h
      have h7 : (2 : Int) ^ 7 = 128 := by decide
      rw [h7] at h
      exact Int.ediv_lt_of_lt_mul (by decide) h
  · have hge : ¬ 127 < n := of_decide_eq_false hb
    rw [varF, if_neg hge] at hs
    repeat ((conv => whnf); first | (refine nw_f hS ?_; intro b w1 hS) | (refine ld_f hS 0 rfl rfl ?_) | (refine ldA_f hS 0 rfl rfl ?_) | (refine stN_f hS 0 rfl (Nat.le_of_ble_eq_true rfl) rfl rfl ?_; (conv => whnf); intro w1 hS) | (refine stM_f hS 0 rfl (Nat.le_of_ble_eq_true rfl) rfl ?_; (conv => whnf); intro w1 hS))
    have hRd : Rd _ _ [Value.int .u8 (IntKind.u8.wrap n)] := hS.rd 0 rfl
    rw [u8v] at hRd
    refine bStr_i Try.underlying76 Try.underlying5 Try.underlying9 hRd rfl ?_
    repeat ((conv => whnf); first | (refine nw_f hS ?_; intro b w1 hS) | (refine ld_f hS 0 rfl rfl ?_) | (refine ldA_f hS 0 rfl rfl ?_) | (refine stN_f hS 0 rfl (Nat.le_of_ble_eq_true rfl) rfl rfl ?_; (conv => whnf); intro w1 hS) | (refine stM_f hS 0 rfl (Nat.le_of_ble_eq_true rfl) rfl ?_; (conv => whnf); intro w1 hS))
    refine .mk (by show (strY s).size + (strY [yI n]).size ≤ _; rw [strY_size, strY_size]; simp; omega) ?_
    repeat ((conv => whnf); first | (refine nw_f hS ?_; intro b w1 hS) | (refine ld_f hS 0 rfl rfl ?_) | (refine ldA_f hS 0 rfl rfl ?_) | (refine stN_f hS 0 rfl (Nat.le_of_ble_eq_true rfl) rfl rfl ?_; (conv => whnf); intro w1 hS) | (refine stM_f hS 0 rfl (Nat.le_of_ble_eq_true rfl) rfl ?_; (conv => whnf); intro w1 hS))
    refine ⟨?_, hS.nil⟩
    rw [strY_append, hs]

theorem varF_len : ∀ (f : Nat) (n : Int), (varF f n).length ≤ f + 1
  | 0, n => by simp [varF]
  | f+1, n => by
    rw [varF]
    split
    · have := varF_len f (n / 128)
      simp; omega
    · simp
theorem varD_len (n : Int) : (varD n).length ≤ 6 := varF_len 5 n
def textD (s : List UInt8) : List UInt8 := varD s.length ++ s
theorem bytes_c (bw : Nat) (bs : List UInt8) (L : LM) (hW : Wr bw bs L) (w : World) (hS : St (keys L) w w L) :
    Fc Try.prog 36 [.pointer (some ⟨bw, 0, none⟩)] w fun v w' => v = .string (strY bs) ∧ St [] w w' [] := by
  refine fc_i TB_ok Try.func36 rfl (by kernel_rfl) ?_
  obtain ⟨v, Lv, rfl, hv⟩ := hW.out
  obtain ⟨Av, cv, rfl, hv⟩ := hv.open
  have hH : Holds w ((bw, .cells #[.slice Av bs.length cv] 78 (0, 0)) :: Lv) := fun x hx => hS.own x.1 x.2 hx
  have hRv : Rd w Av (flat encY bs) := hv.rd hS (fun x hx => List.mem_cons_of_mem _ hx)
  replace hS := Sf.refl w
  repeat ((conv => whnf); first | (refine nw_f hS ?_; intro b w1 hS) | (refine ld_f hS 0 rfl rfl ?_) | (refine ldA_f hS 0 rfl rfl ?_) | (refine stN_f hS 0 rfl (Nat.le_of_ble_eq_true rfl) rfl rfl ?_; (conv => whnf); intro w1 hS) | (refine stM_f hS 0 rfl (Nat.le_of_ble_eq_true rfl) rfl ?_; (conv => whnf); intro w1 hS) | (refine ld_h hS.nil hH 0 rfl rfl ?_))
  refine bStr_i Try.underlying76 Try.underlying5 Try.underlying9 hRv rfl ?_
  repeat ((conv => whnf); first | (refine nw_f hS ?_; intro b w1 hS) | (refine ld_f hS 0 rfl rfl ?_) | (refine ldA_f hS 0 rfl rfl ?_) | (refine stN_f hS 0 rfl (Nat.le_of_ble_eq_true rfl) rfl rfl ?_; (conv => whnf); intro w1 hS) | (refine stM_f hS 0 rfl (Nat.le_of_ble_eq_true rfl) rfl ?_; (conv => whnf); intro w1 hS))
  exact ⟨rfl, hS.nil⟩

end Go.RV
