/- Plain laws of chapter 1: var numbers. Conditions: none. -/
import Derived.Test.YtjgdcifkaopnpaaDoorV12
set_option linter.unusedVariables false
set_option linter.unusedSimpArgs false
namespace Go.RV
open Go Go.Proofs

theorem k5 {k : Nat} (h : k ≤ 4) : k = 0 ∨ k = 1 ∨ k = 2 ∨ k = 3 ∨ k = 4 := by omega
theorem varRF_f {f k : Nat} {n : Int} {t : List UInt8} {c : UInt8} : varRF (f+1) k n ⟨c :: t, 0⟩ = if (k = 4 ∧ 15 < c.toNat) ∨ (0 < k ∧ c.toNat = 0) then (0, ⟨[], 4⟩) else
    if c.toNat < 128 then (n + (c.toNat % 128 : Nat) * 2 ^ (7 * k), ⟨t, 0⟩) else varRF f (k+1) (n + (c.toNat % 128 : Nat) * 2 ^ (7 * k)) ⟨t, 0⟩ := by
  rw [varRF, if_neg (by simp)]
theorem varRF_e {f k : Nat} {n : Int} {s : RS} (h : s.e ≠ 0) : varRF f k n s = (0, s) := by
  cases f with
  | zero => rfl
  | succ f => rw [varRF, if_pos h]
theorem varRF_nil {f k : Nat} {n : Int} : varRF (f+1) k n ⟨[], 0⟩ = (0, ⟨[], 10⟩) := by
  rw [varRF, if_neg (by simp)]
theorem yI_of {x : Int} (h0 : 0 ≤ x) (h1 : x < 256) : ((yI x).toNat : Int) = x := by rw [yI_val]; omega
theorem u8_ext {a b : UInt8} (h : (a.toNat : Int) = b.toNat) : a = b := UInt8.toNat_inj.1 (by omega)

/-- what is read is what is written -/
theorem varRF_back : ∀ (f k : Nat) (n m : Int) (rest : List UInt8), f + k = 5 → k ≤ 4 → 0 ≤ m → m * 2 ^ (7 * k) < 4294967296 → (0 < k → 0 < m) → varRF f k n ⟨varF f m ++ rest, 0⟩ = (n + m * 2 ^ (7 * k), ⟨rest, 0⟩)
  | 0, k, n, m, rest, hf, hk, _, _, _ => by omega
  | f+1, k, n, m, rest, hf, hk, h0, h1, hp => by
    rw [varF]
    split
    · rename_i hlt
      have hc := yI_of (x := 128 + m % 128) (by omega) (by omega)
      have hk3 : k ≤ 3 := by
        rcases k5 hk with rfl | rfl | rfl | rfl | rfl <;> simp at h1 ⊢; omega
      rw [List.cons_append, varRF_f, if_neg (by omega), if_neg (by omega)]
      have hm : (((yI (128 + m % 128)).toNat % 128 : Nat) : Int) = m % 128 := by omega
      rw [hm, varRF_back f (k+1) _ (m / 128) rest (by omega) (by omega) (by omega) ?_ (by omega)]
      · congr 1
        rcases k5 hk with rfl | rfl | rfl | rfl | rfl <;> simp at hk3 ⊢ <;> omega
      · rcases k5 hk with rfl | rfl | rfl | rfl | rfl <;> simp at h1 hk3 ⊢ <;> omega
    · rename_i hlt
      have hc := yI_of (x := m) (by omega) (by omega)
      have hk4 : k = 4 → m < 16 := by
        rintro rfl
        simp at h1
        omega
      rw [List.cons_append, List.nil_append, varRF_f, if_neg (by omega), if_pos (by omega)]
      have hm : (((yI m).toNat % 128 : Nat) : Int) = m := by omega
      rw [hm]
theorem varR_back {m : Int} (h0 : 0 ≤ m) (h1 : m ≤ 4294967295) (rest : List UInt8) : varR ⟨varD m ++ rest, 0⟩ = (m, ⟨rest, 0⟩) := by
  have := varRF_back 5 0 0 m rest rfl (by decide) h0 (by simp; omega) (by simp)
  unfold varR varD
  rw [this]
  simp
theorem varD_inj {a b : Int} (ha : 0 ≤ a ∧ a ≤ 4294967295) (hb : 0 ≤ b ∧ b ≤ 4294967295) (h : varD a = varD b) : a = b := by
  have h1 := varR_back ha.1 ha.2 []
  have h2 := varR_back hb.1 hb.2 []
  rw [h, h2] at h1
  exact (congrArg Prod.fst h1).symm

/-- what is written is what was read -/
theorem varRF_one : ∀ (f k : Nat) (n : Int) (t : List UInt8), f + k = 5 → k ≤ 4 → (varRF f k n ⟨t, 0⟩).2.e = 0 → ∃ m : Int, 0 ≤ m ∧ (0 < k → 0 < m) ∧ (varRF f k n ⟨t, 0⟩).1 = n + m * 2 ^ (7 * k) ∧ t = varF f m ++ (varRF f k n ⟨t, 0⟩).2.rest
  | 0, k, _, _, hf, hk, _ => by omega
  | f+1, k, n, [], hf, hk, h => by
    rw [varRF_nil] at h
    exact absurd h (by decide)
  | f+1, k, n, c :: t, hf, hk, h => by
    have hc := c.toNat_lt
    rw [varRF_f] at h ⊢
    by_cases hB : (k = 4 ∧ 15 < c.toNat) ∨ (0 < k ∧ c.toNat = 0)
    · rw [if_pos hB] at h
      exact absurd h (show (4 : Int) ≠ 0 by decide)
    · rw [if_neg hB] at h ⊢
      by_cases hd : c.toNat < 128
      · rw [if_pos hd] at h ⊢
        refine ⟨(c.toNat : Int), by omega, by omega, ?_, ?_⟩
        · simp only
          rw [Nat.mod_eq_of_lt hd]
        · simp only
          rw [varF, if_neg (by omega)]
          have : yI (c.toNat : Int) = c := u8_ext (yI_of (by omega) (by omega))
          rw [this]
          rfl
      · rw [if_neg hd] at h ⊢
        obtain ⟨m, h0, hp, hv, ht⟩ := varRF_one f (k+1) _ t (by omega) (by omega) h
        have hp' := hp (by omega)
        refine ⟨(c.toNat % 128 : Nat) + 128 * m, by omega, by omega, ?_, ?_⟩
        · rw [hv]
          have e : (2 : Int) ^ (7 * (k + 1)) = 2 ^ (7 * k) * 128 := by rw [show 7 * (k + 1) = 7 * k + 7 from by omega, Int.pow_add]; rfl
          rw [e, Int.add_mul, Int.add_assoc, Int.mul_assoc, ← Int.mul_assoc m, Int.mul_comm (m * _) 128]
        · rw [varF, if_pos (by omega)]
          have e1 : (((c.toNat % 128 : Nat) : Int) + 128 * m) % 128 = (c.toNat % 128 : Nat) := by omega
          have e2 : (((c.toNat % 128 : Nat) : Int) + 128 * m) / 128 = m := by omega
          rw [e1, e2]
          have : yI (128 + ((c.toNat % 128 : Nat) : Int)) = c := u8_ext (by rw [yI_of (by omega) (by omega)]; omega)
          rw [this, List.cons_append, ← ht]
theorem varR_one {t : List UInt8} (h : (varR ⟨t, 0⟩).2.e = 0) : varD (varR ⟨t, 0⟩).1 ++ (varR ⟨t, 0⟩).2.rest = t := by
  obtain ⟨m, _, _, hv, ht⟩ := varRF_one 5 0 0 t rfl (by decide) h
  unfold varR varD at *
  rw [hv]
  simp only [Nat.mul_zero, Int.pow_zero, Int.mul_one, Int.zero_add]
  exact ht.symm
theorem varF_mono : ∀ (f : Nat) {a b : Int}, a ≤ b → (varF f a).length ≤ (varF f b).length
  | 0, a, b, h => by simp [varF]
  | f+1, a, b, h => by
    have ih := varF_mono f (a := a / 128) (b := b / 128) (by omega)
    rw [varF, varF]
    split <;> split <;> simp <;> omega
theorem varF_pos : ∀ (f : Nat) (a : Int), 1 ≤ (varF f a).length
  | 0, a => by simp [varF]
  | f+1, a => by
    rw [varF]
    split <;> simp
theorem varF_le : ∀ (f : Nat) (a : Int), 1 ≤ f → a < 2 ^ (7 * f) → (varF f a).length ≤ f
  | 0, a, h, _ => by omega
  | f+1, a, _, h => by
    rw [varF]
    split
    · rename_i hlt
      cases f with
      | zero => simp at h; omega
      | succ f =>
        have e : (2 : Int) ^ (7 * (f + 1 + 1)) = 2 ^ (7 * (f + 1)) * 128 := by rw [show 7 * (f + 1 + 1) = 7 * (f + 1) + 7 from by omega, Int.pow_add]; rfl
        rw [e] at h
        have ih := varF_le (f + 1) (a / 128) (by omega) (Int.ediv_lt_of_lt_mul (by decide) h)
        simp only [List.length_cons]
        omega
    · simp
theorem varD_le {a : Int} (h : a ≤ 4294967295) : (varD a).length ≤ 5 := varF_le 5 a (by decide) (Int.lt_of_le_of_lt h (by decide))
end Go.RV

/- The laws of chapter 1, walked: CodecOne. Conditions: none. -/
set_option maxRecDepth 20000
set_option linter.unusedVariables false
set_option linter.unusedSimpArgs false
namespace Go.RV
open Go Go.Proofs

section
variable {M : List Nat} {w0 w w' : World} {A B C D R L : LM}
theorem perm2 : (C ++ (A ++ (B ++ R))).Perm (A ++ (B ++ (C ++ R))) := by
  refine (List.perm_append_comm_assoc C A (B ++ R)).trans (List.Perm.append_left A ?_)
  exact List.perm_append_comm_assoc C B R
theorem perm3 : (D ++ (A ++ (B ++ (C ++ R)))).Perm (A ++ (B ++ (C ++ (D ++ R)))) := by
  refine (List.perm_append_comm_assoc D A _).trans (List.Perm.append_left A ?_)
  exact perm2
theorem Sf.rot2 (h : Sf M w0 w (A ++ (B ++ (C ++ R))) L) : Sf M w0 w (C ++ (A ++ (B ++ R))) L := ⟨h.st.perm (List.Perm.append_right L perm2)⟩
theorem Sf.rot3 (h : Sf M w0 w (A ++ (B ++ (C ++ (D ++ R)))) L) : Sf M w0 w (D ++ (A ++ (B ++ (C ++ R)))) L := ⟨h.st.perm (List.Perm.append_right L perm3)⟩
end
theorem bytesE {bw : Nat} {bs : List UInt8} {L : LM} (hW : Wr bw bs L) {w : World} (hS : St (keys L) w w L) :
    Fc Tryd.prog 35 [.pointer (some ⟨bw, 0, none⟩)] w fun v w' => ∃ s, v = .string s ∧ s = strY bs ∧ St [] w w' [] :=
  Fc.mono (bytes_c bw bs L hW w hS) fun v w' h => ⟨_, h.1, rfl, h.2⟩

end Go.RV

/- Contracts of functions of chapter 1: the document's reader; one. Conditions: none. -/
set_option maxRecDepth 20000
set_option linter.unusedVariables false
set_option linter.unusedSimpArgs false
namespace Go.RV
open Go Go.Proofs

/-- something that is asked -/
structure Ask where
  kind : Int
  n : Int
def askV (x : Ask) : Value := .agg #[.int .u8 x.kind, .int .i64 x.n]
def encK (x : Ask) : List Value := [.int .u8 x.kind, .int .i64 x.n]
theorem encK_len (x : Ask) : (encK x).length = 2 := rfl

theorem numF_lt (s : RS) (W : Nat) : 0 ≤ numF 0 (fixedR s W).1 ∧ numF 0 (fixedR s W).1 < 256 ^ W := by
  have h := numF_bound (fixedR s W).1 0 (by decide)
  have hl := fixedR_len s W
  refine ⟨h.1, Int.lt_of_lt_of_le h.2 ?_⟩
  rw [Int.zero_add, Int.one_mul]
  exact_mod_cast Nat.pow_le_pow_right (by decide) hl
end Go.RV

/- Contracts of functions of chapter 1: writers and readers that are none. Conditions: none. -/
set_option maxRecDepth 20000
set_option linter.unusedVariables false
set_option linter.unusedSimpArgs false
namespace Go.RV
open Go Go.Proofs

theorem bytesN (w : World) : Fc Tryd.prog 35 [.pointer none] w fun v w' => v = .string ⟨#[]⟩ ∧ St [] w w' [] := by
  refine fc_i TB_ok Tryd.func35 rfl (by kernel_rfl) ?_
  have hS := Sf.refl w
  repeat ((conv => whnf); first | (apply q_i; focus (intro w1 hS; (conv => whnf); first | exact ⟨rfl, rfl⟩)) | (refine nw_f hS ?_; intro b w1 hS) | (refine as_i hS ?_) | (refine as_i (hS.subs (List.nil_sublist _) (by repeat (first | exact List.Sublist.refl _ | apply List.Sublist.cons_cons | apply List.Sublist.cons))) ?_) | (refine as_i (hS.subs (List.Sublist.refl _) (by repeat (first | exact List.Sublist.refl _ | apply List.Sublist.cons_cons | apply List.Sublist.cons))) ?_) | (refine bar_f hS ?_) | (refine drawf TB_ok rfl (by kernel_rfl) (by kernel_rfl) hS (List.Sublist.refl _) (List.Sublist.refl _) ?_; intro w1 hS) | (refine br_t (by assumption) ?_) | (refine br_f (by assumption) ?_))
  exact ⟨rfl, hS.nil⟩
theorem writeN (A : Option Addr) (n c : Nat) (w : World) : Fc Tryd.prog 57 [.pointer none, .slice A n c] w fun v w' => St [] w w' [] := by
  refine fc_i TB_ok Tryd.func57 rfl (by kernel_rfl) ?_
  have hS := Sf.refl w
  repeat ((conv => whnf); first | (apply q_i; focus (intro w1 hS; (conv => whnf); first | exact ⟨rfl, rfl⟩)) | (refine nw_f hS ?_; intro b w1 hS) | (refine as_i hS ?_) | (refine as_i (hS.subs (List.nil_sublist _) (by repeat (first | exact List.Sublist.refl _ | apply List.Sublist.cons_cons | apply List.Sublist.cons))) ?_) | (refine as_i (hS.subs (List.Sublist.refl _) (by repeat (first | exact List.Sublist.refl _ | apply List.Sublist.cons_cons | apply List.Sublist.cons))) ?_) | (refine bar_f hS ?_) | (refine drawf TB_ok rfl (by kernel_rfl) (by kernel_rfl) hS (List.Sublist.refl _) (List.Sublist.refl _) ?_; intro w1 hS) | (refine br_t (by assumption) ?_) | (refine br_f (by assumption) ?_))
  exact hS.nil
theorem varN1 (w : World) : Fc Tryd.prog 34 [.pointer none, .int .u32 1] w fun v w' => St [] w w' [] := by
  refine fc_i TB_ok Tryd.func34 rfl (by kernel_rfl) ?_
  have hS := Sf.refl w
  repeat ((conv => whnf); first | (refine nw_f hS ?_; intro b w1 hS) | (refine ld_f hS 0 rfl rfl ?_) | (refine ld_f hS 1 rfl rfl ?_) | (refine ldA_f hS 0 rfl rfl ?_) | (refine ldA_f hS 1 rfl rfl ?_) | (refine stN_f hS 0 rfl (Nat.le_of_ble_eq_true rfl) rfl rfl ?_; (conv => whnf); intro w1 hS) | (refine stN_f hS 1 rfl (Nat.le_of_ble_eq_true rfl) rfl rfl ?_; (conv => whnf); intro w1 hS) | (refine stM_f hS 0 rfl (Nat.le_of_ble_eq_true rfl) rfl ?_; (conv => whnf); intro w1 hS) | (refine stM_f hS 1 rfl (Nat.le_of_ble_eq_true rfl) rfl ?_; (conv => whnf); intro w1 hS))
  refine fc_m (digits_c 1 _) ?_
  rintro v w1 ⟨bn, rfl, hS'⟩
  replace hS := hS.call' hS'
  repeat ((conv => whnf); first | (refine nw_f hS ?_; intro b w1 hS) | (refine ld_f hS 0 rfl rfl ?_) | (refine ld_f hS 1 rfl rfl ?_) | (refine ldA_f hS 0 rfl rfl ?_) | (refine ldA_f hS 1 rfl rfl ?_) | (refine stN_f hS 0 rfl (Nat.le_of_ble_eq_true rfl) rfl rfl ?_; (conv => whnf); intro w1 hS) | (refine stN_f hS 1 rfl (Nat.le_of_ble_eq_true rfl) rfl rfl ?_; (conv => whnf); intro w1 hS) | (refine stM_f hS 0 rfl (Nat.le_of_ble_eq_true rfl) rfl ?_; (conv => whnf); intro w1 hS) | (refine stM_f hS 1 rfl (Nat.le_of_ble_eq_true rfl) rfl ?_; (conv => whnf); intro w1 hS))
  refine range_i rfl Tryd.func83 rfl (by kernel_rfl) hS ?_
  intro fi bd l w2 hS
  refine fc_i TB_ok Tryd.func83 rfl (by kernel_rfl) ?_
  repeat ((conv => whnf); first | (refine nw_f hS ?_; intro b w1 hS) | (refine ld_f hS 0 rfl rfl ?_) | (refine ld_f hS 1 rfl rfl ?_) | (refine ld_f hS 2 rfl rfl ?_) | (refine ld_f hS 3 rfl rfl ?_) | (refine ldA_f hS 0 rfl rfl ?_) | (refine ldA_f hS 1 rfl rfl ?_) | (refine ldA_f hS 2 rfl rfl ?_) | (refine ldA_f hS 3 rfl rfl ?_) | (refine stN_f hS 0 rfl (Nat.le_of_ble_eq_true rfl) rfl rfl ?_; (conv => whnf); intro w1 hS) | (refine stN_f hS 1 rfl (Nat.le_of_ble_eq_true rfl) rfl rfl ?_; (conv => whnf); intro w1 hS) | (refine stN_f hS 2 rfl (Nat.le_of_ble_eq_true rfl) rfl rfl ?_; (conv => whnf); intro w1 hS) | (refine stN_f hS 3 rfl (Nat.le_of_ble_eq_true rfl) rfl rfl ?_; (conv => whnf); intro w1 hS) | (refine stM_f hS 0 rfl (Nat.le_of_ble_eq_true rfl) rfl ?_; (conv => whnf); intro w1 hS) | (refine stM_f hS 1 rfl (Nat.le_of_ble_eq_true rfl) rfl ?_; (conv => whnf); intro w1 hS) | (refine stM_f hS 2 rfl (Nat.le_of_ble_eq_true rfl) rfl ?_; (conv => whnf); intro w1 hS) | (refine stM_f hS 3 rfl (Nat.le_of_ble_eq_true rfl) rfl ?_; (conv => whnf); intro w1 hS))
  refine loop_i TB_ok (fun s : Unit => []) (fun s w' => Sf [] w w' [] [_, _, _, (bn, .cells #[.int .u32 1] 22 (0, 0))]) (fun s => 0) () rfl hS ?_
  rintro _ us w3 hS
  repeat ((conv => whnf); first | (refine nw_f hS ?_; intro b w1 hS) | (refine ld_f hS 0 rfl rfl ?_) | (refine ld_f hS 1 rfl rfl ?_) | (refine ld_f hS 2 rfl rfl ?_) | (refine ld_f hS 3 rfl rfl ?_) | (refine ldA_f hS 0 rfl rfl ?_) | (refine ldA_f hS 1 rfl rfl ?_) | (refine ldA_f hS 2 rfl rfl ?_) | (refine ldA_f hS 3 rfl rfl ?_) | (refine stN_f hS 0 rfl (Nat.le_of_ble_eq_true rfl) rfl rfl ?_; (conv => whnf); intro w1 hS) | (refine stN_f hS 1 rfl (Nat.le_of_ble_eq_true rfl) rfl rfl ?_; (conv => whnf); intro w1 hS) | (refine stN_f hS 2 rfl (Nat.le_of_ble_eq_true rfl) rfl rfl ?_; (conv => whnf); intro w1 hS) | (refine stN_f hS 3 rfl (Nat.le_of_ble_eq_true rfl) rfl rfl ?_; (conv => whnf); intro w1 hS) | (refine stM_f hS 0 rfl (Nat.le_of_ble_eq_true rfl) rfl ?_; (conv => whnf); intro w1 hS) | (refine stM_f hS 1 rfl (Nat.le_of_ble_eq_true rfl) rfl ?_; (conv => whnf); intro w1 hS) | (refine stM_f hS 2 rfl (Nat.le_of_ble_eq_true rfl) rfl ?_; (conv => whnf); intro w1 hS) | (refine stM_f hS 3 rfl (Nat.le_of_ble_eq_true rfl) rfl ?_; (conv => whnf); intro w1 hS))
  (conv => whnf)
  refine yield1_i TB_ok (hS.obj 0 rfl) rfl ?_
  (conv => whnf)
  refine begin_f hS 0 rfl rfl ?_
  (conv => whnf)
  intro w5 hS
  repeat ((conv => whnf); first | (refine nw_f hS ?_; intro b w1 hS) | (refine ld_f hS 0 rfl rfl ?_) | (refine ld_f hS 1 rfl rfl ?_) | (refine ld_f hS 2 rfl rfl ?_) | (refine ld_f hS 3 rfl rfl ?_) | (refine ldA_f hS 0 rfl rfl ?_) | (refine ldA_f hS 1 rfl rfl ?_) | (refine ldA_f hS 2 rfl rfl ?_) | (refine ldA_f hS 3 rfl rfl ?_) | (refine stN_f hS 0 rfl (Nat.le_of_ble_eq_true rfl) rfl rfl ?_; (conv => whnf); intro w1 hS) | (refine stN_f hS 1 rfl (Nat.le_of_ble_eq_true rfl) rfl rfl ?_; (conv => whnf); intro w1 hS) | (refine stN_f hS 2 rfl (Nat.le_of_ble_eq_true rfl) rfl rfl ?_; (conv => whnf); intro w1 hS) | (refine stN_f hS 3 rfl (Nat.le_of_ble_eq_true rfl) rfl rfl ?_; (conv => whnf); intro w1 hS) | (refine stM_f hS 0 rfl (Nat.le_of_ble_eq_true rfl) rfl ?_; (conv => whnf); intro w1 hS) | (refine stM_f hS 1 rfl (Nat.le_of_ble_eq_true rfl) rfl ?_; (conv => whnf); intro w1 hS) | (refine stM_f hS 2 rfl (Nat.le_of_ble_eq_true rfl) rfl ?_; (conv => whnf); intro w1 hS) | (refine stM_f hS 3 rfl (Nat.le_of_ble_eq_true rfl) rfl ?_; (conv => whnf); intro w1 hS))
  refine fc_m (writeN _ _ _ _) ?_
  rintro v w6 hS'
  replace hS := hS.call0 hS'
  (conv => whnf)
  refine end_f hS 1 rfl ?_
  (conv => whnf)
  intro w7 hS
  (conv => whnf)
  refine loopEnd_f hS 1 rfl rfl rfl ?_
  (conv => whnf)
  intro w8 hS
  (conv => whnf)
  refine take_f hS 2 rfl ?_
  (conv => whnf)
  intro w9 hS
  (conv => whnf)
  exact hS.nil
end Go.RV

/- Contracts of functions of chapter 1: an item written, an item read. Conditions: none. -/
set_option maxRecDepth 20000
set_option linter.unusedVariables false
set_option linter.unusedSimpArgs false
namespace Go.RV
open Go Go.Proofs

end Go.RV

/- Plain laws of chapter 1: what is written is read; a beginning is torn. Conditions: none. -/
set_option linter.unusedVariables false
set_option linter.unusedSimpArgs false
namespace Go.RV
open Go Go.Proofs

theorem fixedR_all {l rest : List UInt8} {n : Int} (hn : n = l.length) : fixedR ⟨l ++ rest, 0⟩ n = (l, ⟨rest, 0⟩) := by
  subst hn
  cases l with
  | nil => rw [fixedR, if_pos (.inr (by simp))]; rfl
  | cons c l =>
    rw [fixedR, if_neg (by simp), if_neg (by simp; omega)]
    simp
theorem fixedR_torn {p : List UInt8} {n : Int} (hn : (p.length : Int) < n) : fixedR ⟨p, 0⟩ n = ([], ⟨[], 10⟩) := by
  rw [fixedR, if_neg (by simp; omega), if_pos (by simpa using hn)]
theorem numF_be1 {n : Int} (h : 0 ≤ n) : numF 0 (be n 1) = n % 256 := by
  simp only [be, numF, List.foldl_cons, List.foldl_nil, yI_val, Nat.mul_zero, Int.pow_zero, Int.ediv_one]
  omega
theorem numF_be2 {n : Int} (h : 0 ≤ n) : numF 0 (be n 2) = n % 65536 := by
  simp only [be, numF, List.foldl_cons, List.foldl_nil, yI_val, Nat.mul_zero, Int.pow_zero, Int.ediv_one, show (2 : Int) ^ (8 * 1) = 256 from by decide]
  omega
theorem numF_be4 {n : Int} (h : 0 ≤ n) (h1 : n ≤ 4294967295) : numF 0 (be n 4) = n := by
  simp only [be, numF, List.foldl_cons, List.foldl_nil, yI_val, Nat.mul_zero, Int.pow_zero, Int.ediv_one, show (2 : Int) ^ (8 * 1) = 256 from by decide, show (2 : Int) ^ (8 * 2) = 65536 from by decide, show (2 : Int) ^ (8 * 3) = 16777216 from by decide]
  omega
theorem textR_back {s rest : List UInt8} (hs : s.length ≤ 4294967295) : textR ⟨textD s ++ rest, 0⟩ = (s, ⟨rest, 0⟩) := by
  unfold textR textD
  rw [List.append_assoc, varR_back (by omega) (by omega)]
  exact fixedR_all rfl

theorem varRF_torn : ∀ (f k : Nat) (n m : Int) (p q : List UInt8), f + k = 5 → k ≤ 4 → 0 ≤ m → m * 2 ^ (7 * k) < 4294967296 → p ++ q = varF f m → q ≠ [] → varRF f k n ⟨p, 0⟩ = (0, ⟨[], 10⟩)
  | 0, k, n, m, p, q, hf, hk, _, _, _, _ => by omega
  | f+1, k, n, m, [], q, hf, hk, h0, h1, hpq, hq => varRF_nil
  | f+1, k, n, m, c :: p, q, hf, hk, h0, h1, hpq, hq => by
    rw [varF] at hpq
    split at hpq
    · rename_i hlt
      rw [List.cons_append, List.cons.injEq] at hpq
      obtain ⟨rfl, hpq⟩ := hpq
      have hc := yI_of (x := 128 + m % 128) (by omega) (by omega)
      have hk3 : k ≤ 3 := by
        rcases k5 hk with rfl | rfl | rfl | rfl | rfl <;> simp at h1 ⊢; omega
      rw [varRF_f, if_neg (by omega), if_neg (by omega)]
      refine varRF_torn f (k+1) _ (m / 128) p q (by omega) (by omega) (by omega) ?_ hpq hq
      rcases k5 hk with rfl | rfl | rfl | rfl | rfl <;> simp at h1 hk3 ⊢ <;> omega
    · have hl := congrArg List.length hpq
      have : q.length ≠ 0 := fun h => hq (List.eq_nil_of_length_eq_zero h)
      simp only [List.length_append, List.length_cons, List.length_nil] at hl
      omega
theorem varR_torn {m : Int} (h0 : 0 ≤ m) (h1 : m ≤ 4294967295) {p q : List UInt8} (h : p ++ q = varD m) (hq : q ≠ []) : varR ⟨p, 0⟩ = (0, ⟨[], 10⟩) :=
  varRF_torn 5 0 0 m p q rfl (by decide) h0 (by simp; omega) h hq
theorem len_ne {α : Type} {q : List α} (h : q ≠ []) : 0 < q.length := by
  cases q with
  | nil => exact absurd rfl h
  | cons => simp
theorem fixedR_stuck (n : Int) : fixedR ⟨[], 10⟩ n = ([], ⟨[], 10⟩) := fixedR_err (by show (10 : Int) ≠ 0; decide) n

end Go.RV
