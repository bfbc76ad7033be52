/- Contracts of functions of chapter 1: the document's texts. Conditions: none. -/
import Derived.Test.YtedoalnjdanebaaV2
set_option maxRecDepth 20000
set_option linter.unusedVariables false
set_option linter.unusedSimpArgs false
namespace Go.RV
open Go Go.Proofs

/-- a var number's bytes -/
def varF : Nat → Int → List UInt8
  | 0, n => [yI n]
  | f+1, n => if 127 < n then yI (128 + n % 128) :: varF f (n / 128) else [yI n]
def varD (n : Int) : List UInt8 := varF 5 n

theorem yI_emod (n : Int) : yI (n % 256) = yI n := by unfold yI; rw [Int.emod_emod_of_dvd _ (by decide)]
theorem be_snoc (n : Int) : ∀ w, yI (n / 2 ^ (8 * w)) :: be n w = be n (w + 1) := fun w => rfl
theorem be_low (n : Int) (h0 : 0 ≤ n) : ∀ (w : Nat), be n (w + 1) = be (n / 256) w ++ [yI n]
  | 0 => by simp [be]
  | w+1 => by
    have ih := be_low n h0 w
    rw [be, ih]
    show _ = (yI (n / 256 / 2 ^ (8 * w)) :: be (n / 256) w) ++ [yI n]
    have e : n / 256 / 2 ^ (8 * w) = n / 2 ^ (8 * (w + 1)) := by
      rw [Int.ediv_ediv_of_nonneg (by decide)]
      congr 1
      rw [show 8 * (w + 1) = 8 * w + 8 from by omega, Int.pow_add, Int.mul_comm]
      rfl
    rw [e]
    rfl

theorem rfixed_c (n0 : Int) (h0 : 0 ≤ n0) (h1 : n0 ≤ 4294967295) (W : Nat) (hW : W ≤ 4) (w : World) :
    Fc Try.prog 41 [.int .u32 n0, .int .i64 W] w fun v w' => v = .string (strY (be n0 W)) ∧ St [] w w' [] := by
  refine fc_i TB_ok Try.func41 rfl (by kernel_rfl) ?_
  have hS := Sf.refl w
  repeat ((conv => whnf); first | (refine nw_f hS ?_; intro b w1 hS) | (refine ld_f hS 0 rfl rfl ?_) | (refine ldA_f hS 0 rfl rfl ?_) | (refine stN_f hS 0 rfl (Nat.le_of_ble_eq_true rfl) rfl rfl ?_; (conv => whnf); intro w1 hS) | (refine stM_f hS 0 rfl (Nat.le_of_ble_eq_true rfl) rfl ?_; (conv => whnf); intro w1 hS))
  refine loop_i TB_ok (fun s : Nat × Int × List UInt8 => [(6, .int .i64 s.1), (0, .int .u32 s.2.1), (5, .string (strY s.2.2))]) (fun s w' => s.1 ≤ W ∧ (0 ≤ s.2.1 ∧ s.2.1 ≤ 4294967295) ∧ be s.2.1 (W - s.1) ++ s.2.2 = be n0 W ∧ s.2.2.length = s.1 ∧ Sf [] w w' [] []) (fun s => W - s.1) (0, n0, []) rfl ⟨Nat.zero_le _, ⟨h0, h1⟩, by simp, rfl, hS⟩ ?_
  rintro ⟨i, n, s⟩ us w2 ⟨hi, hn, hs, hl, hS⟩
  simp only at hi hn hs hl
  (conv => whnf)
  refine br_i (fun hb => ?_) (fun hb => ?_)
  · have hlt : i < W := by simpa using hb
    repeat ((conv => whnf); first | (refine nw_f hS ?_; intro b w1 hS) | (refine ld_f hS 0 rfl rfl ?_) | (refine ldA_f hS 0 rfl rfl ?_) | (refine stN_f hS 0 rfl (Nat.le_of_ble_eq_true rfl) rfl rfl ?_; (conv => whnf); intro w1 hS) | (refine stM_f hS 0 rfl (Nat.le_of_ble_eq_true rfl) rfl ?_; (conv => whnf); intro w1 hS) | (refine .mk (by decide) ?_))
    have hRd : Rd _ _ [Value.int .u8 (IntKind.u8.wrap (n.tmod 256))] := hS.rd 0 rfl
    rw [u8v, Int.tmod_eq_emod_of_nonneg hn.1, yI_emod] at hRd
    refine bStr_i Try.underlying69 Try.underlying5 Try.underlying9 hRd rfl ?_
    repeat ((conv => whnf); first | (refine nw_f hS ?_; intro b w1 hS) | (refine ld_f hS 0 rfl rfl ?_) | (refine ldA_f hS 0 rfl rfl ?_) | (refine stN_f hS 0 rfl (Nat.le_of_ble_eq_true rfl) rfl rfl ?_; (conv => whnf); intro w1 hS) | (refine stM_f hS 0 rfl (Nat.le_of_ble_eq_true rfl) rfl ?_; (conv => whnf); intro w1 hS))
    refine .mk (by show (strY [yI n]).size + (strY s).size ≤ _; rw [strY_size, strY_size]; simp; omega) ?_
    repeat ((conv => whnf); first | (refine nw_f hS ?_; intro b w1 hS) | (refine ld_f hS 0 rfl rfl ?_) | (refine ldA_f hS 0 rfl rfl ?_) | (refine stN_f hS 0 rfl (Nat.le_of_ble_eq_true rfl) rfl rfl ?_; (conv => whnf); intro w1 hS) | (refine stM_f hS 0 rfl (Nat.le_of_ble_eq_true rfl) rfl ?_; (conv => whnf); intro w1 hS) | (refine .mk (by decide) ?_))
    refine ⟨rfl, (i + 1, n / 256, yI n :: s), ?_, ⟨by simp only; omega, by simp only; omega, ?_, by simp [hl], hS.subs (List.Sublist.refl _) (List.nil_sublist _)⟩, by simp only; omega⟩
    · rw [wi hlt (by omega), Int.tdiv_eq_ediv_of_nonneg hn.1, wrap_u32 (by omega) (by omega), strY_append]
      rfl
    · rw [← hs, show W - i = (W - (i + 1)) + 1 from by omega, be_low n hn.1]
      simp
  · have hge : i = W := by simp at hb; omega
    subst hge
    repeat ((conv => whnf); first | (refine nw_f hS ?_; intro b w1 hS) | (refine ld_f hS 0 rfl rfl ?_) | (refine ldA_f hS 0 rfl rfl ?_) | (refine stN_f hS 0 rfl (Nat.le_of_ble_eq_true rfl) rfl rfl ?_; (conv => whnf); intro w1 hS) | (refine stM_f hS 0 rfl (Nat.le_of_ble_eq_true rfl) rfl ?_; (conv => whnf); intro w1 hS))
    refine ⟨?_, hS.nil⟩
    simp [be] at hs
    rw [hs]

theorem varF_len : ∀ (f : Nat) (n : Int), (varF f n).length ≤ f + 1
  | 0, n => by simp [varF]
  | f+1, n => by
    rw [varF]
    split
    · have := varF_len f (n / 128)
      simp; omega
    · simp
theorem varD_len (n : Int) : (varD n).length ≤ 6 := varF_len 5 n
def textD (s : List UInt8) : List UInt8 := varD s.length ++ s
theorem bytes_c (bw : Nat) (bs : List UInt8) (L : LM) (hW : Wr bw bs L) (w : World) (hS : St (keys L) w w L) :
    Fc Try.prog 40 [.pointer (some ⟨bw, 0, none⟩)] w fun v w' => v = .string (strY bs) ∧ St [] w w' [] := by
  refine fc_i TB_ok Try.func40 rfl (by kernel_rfl) ?_
  obtain ⟨v, Lv, rfl, hv⟩ := hW.out
  obtain ⟨Av, cv, rfl, hv⟩ := hv.open
  have hH : Holds w ((bw, .cells #[.slice Av bs.length cv] 71 (0, 0)) :: Lv) := fun x hx => hS.own x.1 x.2 hx
  have hRv : Rd w Av (flat encY bs) := hv.rd hS (fun x hx => List.mem_cons_of_mem _ hx)
  replace hS := Sf.refl w
  repeat ((conv => whnf); first | (refine nw_f hS ?_; intro b w1 hS) | (refine ld_f hS 0 rfl rfl ?_) | (refine ldA_f hS 0 rfl rfl ?_) | (refine stN_f hS 0 rfl (Nat.le_of_ble_eq_true rfl) rfl rfl ?_; (conv => whnf); intro w1 hS) | (refine stM_f hS 0 rfl (Nat.le_of_ble_eq_true rfl) rfl ?_; (conv => whnf); intro w1 hS) | (refine ld_h hS.nil hH 0 rfl rfl ?_))
  refine bStr_i Try.underlying69 Try.underlying5 Try.underlying9 hRv rfl ?_
  repeat ((conv => whnf); first | (refine nw_f hS ?_; intro b w1 hS) | (refine ld_f hS 0 rfl rfl ?_) | (refine ldA_f hS 0 rfl rfl ?_) | (refine stN_f hS 0 rfl (Nat.le_of_ble_eq_true rfl) rfl rfl ?_; (conv => whnf); intro w1 hS) | (refine stM_f hS 0 rfl (Nat.le_of_ble_eq_true rfl) rfl ?_; (conv => whnf); intro w1 hS))
  exact ⟨rfl, hS.nil⟩

theorem raw_c (bw : Nat) (bs s : List UInt8) (L : LM) (hW : Wr bw bs L) (w : World) (hS : St (keys L) w w L) (hn : bs.length + s.length ≤ 140737488355328) :
    Fc Try.prog 42 [.pointer (some ⟨bw, 0, none⟩), .string (strY s)] w fun v w' => ∃ L', Wr bw (bs ++ s) L' ∧ St (keys L) w w' L' := by
  refine fc_i TB_ok Try.func42 rfl (by kernel_rfl) ?_
  have hS : Sf (keys L) w w (L ++ []) [] := ⟨by simpa using hS⟩
  repeat ((conv => whnf); first | (refine nw_f hS ?_; intro b w1 hS) | (refine ld_f hS 0 rfl rfl ?_) | (refine ldA_f hS 0 rfl rfl ?_) | (refine stN_f hS 0 rfl (Nat.le_of_ble_eq_true rfl) rfl rfl ?_; (conv => whnf); intro w1 hS) | (refine stM_f hS 0 rfl (Nat.le_of_ble_eq_true rfl) rfl ?_; (conv => whnf); intro w1 hS))
  refine sBytes_i Try.underlying9 Try.underlying69 Try.underlying5 hS ?_
  intro br cap C w1 hcap hrow hS
  have hsz : (strY s).size = s.length := strY_size s
  have hd : (strY s).data.toList = s := by simp [strY]
  rw [hd] at hrow
  rw [hsz]
  repeat ((conv => whnf); first | (refine nw_f hS ?_; intro b w1 hS) | (refine ld_f hS 0 rfl rfl ?_) | (refine ldA_f hS 0 rfl rfl ?_) | (refine stN_f hS 0 rfl (Nat.le_of_ble_eq_true rfl) rfl rfl ?_; (conv => whnf); intro w1 hS) | (refine stM_f hS 0 rfl (Nat.le_of_ble_eq_true rfl) rfl ?_; (conv => whnf); intro w1 hS))
  refine fc_m (write_c bw bs s L hW _ _ _ hS.ownF (hrow.rd hS) hn) ?_
  rintro v w3 ⟨L2, hW2, hS'⟩
  replace hS := hS.callW hS'
  repeat ((conv => whnf); first | (refine nw_f hS ?_; intro b w1 hS) | (refine ld_f hS 0 rfl rfl ?_) | (refine ldA_f hS 0 rfl rfl ?_) | (refine stN_f hS 0 rfl (Nat.le_of_ble_eq_true rfl) rfl rfl ?_; (conv => whnf); intro w1 hS) | (refine stM_f hS 0 rfl (Nat.le_of_ble_eq_true rfl) rfl ?_; (conv => whnf); intro w1 hS))
  exact ⟨L2, hW2, by simpa using hS.fr (List.Sublist.refl _)⟩
end Go.RV
