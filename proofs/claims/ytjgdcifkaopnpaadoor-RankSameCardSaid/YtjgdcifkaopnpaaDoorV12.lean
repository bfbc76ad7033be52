/- Contracts of functions of chapter 1: the writer. Conditions: none. -/
import Derived.Test.YtjgdcifkaopnpaaDoorRvT
import Derived.Test.YtjgdcifkaopnpaaDoorRvR
set_option maxRecDepth 20000
set_option linter.unusedVariables false
set_option linter.unusedSimpArgs false
namespace Go.RV
open Go Go.Proofs

theorem elY : ElemOk Tryd.prog TB 71 5 1 1 := ⟨rfl, ⟨_, _, inf5, rfl, rfl, rfl, rfl⟩, by decide⟩
/-- a writer in block b, in which these bytes were written -/
structure Wr (b : Nat) (bs : List UInt8) (L : LM) : Prop where
  out : ∃ v Lv, L = (b, .cells #[v] 73 (0, 0)) :: Lv ∧ Sl 5 1 v bs.length (flat encY bs) Lv

theorem write_c (b : Nat) (bs ys : List UInt8) (L : LM) (hW : Wr b bs L) (A : Option Addr) (c : Nat) (w : World) (hS : St (keys L) w w L) (hR : Rd w A (flat encY ys)) (hn : bs.length + ys.length ≤ 140737488355328) :
    Fc Tryd.prog 57 [.pointer (some ⟨b, 0, none⟩), .slice A ys.length c] w fun v w' => ∃ L', Wr b (bs ++ ys) L' ∧ St (keys L) w w' L' := by
  refine fc_i TB_ok Tryd.func57 rfl (by kernel_rfl) ?_
  obtain ⟨v, Lv, rfl, hv⟩ := hW.out
  obtain ⟨Av, cv, rfl, hv⟩ := hv.open
  have hS : Sf (keys ((b, .cells #[.slice Av bs.length cv] 73 (0, 0)) :: Lv)) w w (Lv ++ []) [(b, .cells #[.slice Av bs.length cv] 73 (0, 0))] := ⟨hS.perm (by rw [List.append_nil]; exact List.perm_append_comm (l₁ := Lv) (l₂ := [_]))⟩
  repeat ((conv => whnf); first | (refine nw_f hS ?_; intro b w1 hS) | (refine ld_f hS 0 rfl rfl ?_) | (refine ldA_f hS 0 rfl rfl ?_) | (refine stN_f hS 0 rfl (Nat.le_of_ble_eq_true rfl) rfl rfl ?_; (conv => whnf); intro w1 hS) | (refine stM_f hS 0 rfl (Nat.le_of_ble_eq_true rfl) rfl ?_; (conv => whnf); intro w1 hS))
  refine app_f TB_ok elY hS hv hR (by rw [flat_length encY_len]) (fun y hy => ?_) (by omega) (by omega) ?_
  · obtain ⟨x, _, hx⟩ := List.mem_flatMap.1 hy
    simp [encY] at hx
    subst hx
    rfl
  intro v' Lv' w6 hv' hS
  obtain ⟨Av', cv', rfl, hv'⟩ := hv'.open
  repeat ((conv => whnf); first | (refine nw_f hS ?_; intro b w1 hS) | (refine ld_f hS 0 rfl rfl ?_) | (refine ldA_f hS 0 rfl rfl ?_) | (refine stN_f hS 0 rfl (Nat.le_of_ble_eq_true rfl) rfl rfl ?_; (conv => whnf); intro w1 hS) | (refine stM_f hS 0 rfl (Nat.le_of_ble_eq_true rfl) rfl ?_; (conv => whnf); intro w1 hS))
  refine ⟨(b, .cells #[.slice Av' (bs.length + ys.length) cv'] 73 (0, 0)) :: Lv', ⟨_, Lv', rfl, ?_⟩, ?_⟩
  · rw [flat_append, List.length_append]
    exact hv'
  · exact hS.st.perm (by rw [List.append_nil]; exact (List.perm_append_comm (l₁ := Lv') (l₂ := [_])).symm)
end Go.RV

/- Contracts of functions of chapter 1: numbers that are written. Conditions: none. -/
set_option maxRecDepth 20000
set_option linter.unusedVariables false
set_option linter.unusedSimpArgs false
namespace Go.RV
open Go Go.Proofs

/-- a number's last byte -/
def yI (x : Int) : UInt8 := UInt8.ofNat (x % 256).toNat
theorem yI_val (x : Int) : (((yI x).toNat : Nat) : Int) = x % 256 := by
  unfold yI
  rw [UInt8.toNat_ofNat']
  have h1 : 0 ≤ x % 256 := Int.emod_nonneg _ (by decide)
  have h2 : x % 256 < 256 := Int.emod_lt_of_pos _ (by decide)
  have h3 : (x % 256).toNat % 2 ^ 8 = (x % 256).toNat := Nat.mod_eq_of_lt (by omega)
  rw [h3]
  omega
theorem u8v (x : Int) : [Value.int .u8 (IntKind.u8.wrap x)] = flat encY [yI x] := by
  show _ = [Value.int .u8 (((yI x).toNat : Nat) : Int)]
  rw [yI_val, wrap_u8_mod]
/-- a fixed number's bytes, the highest first -/
def be (n : Int) : Nat → List UInt8
  | 0 => []
  | w+1 => yI (n / 2 ^ (8 * w)) :: be n w
theorem be_len (n : Int) : ∀ w, (be n w).length = w
  | 0 => rfl
  | w+1 => by simp [be, be_len n w]

theorem putv {n : Int} {k : Nat} (h0 : 0 ≤ n) (h1 : n ≤ 4294967295) (hk : k < 4) : IntKind.u8.wrap (bShr .u32 (IntKind.u32.wrap n) (IntKind.i64.wrap (8 * IntKind.i64.wrap (((k + 1 : Nat) : Int) - 1)))) = IntKind.u8.wrap (n / 2 ^ (8 * k)) := by
  rw [wrap_i64 (x := ((k + 1 : Nat) : Int) - 1) (by omega) (by omega), wrap_i64 (by omega) (by omega), wrap_u32 h0 (by omega)]
  unfold bShr
  have e : min (8 * (((k + 1 : Nat) : Int) - 1)).toNat IntKind.u32.bits = 8 * k := by
    have : IntKind.u32.bits = 32 := rfl
    rw [this]
    omega
  rw [e, Int.fdiv_eq_ediv_of_nonneg _ (Int.le_of_lt (Int.pow_pos (by decide)))]
theorem putv' {n : Int} {k : Nat} (h0 : 0 ≤ n) (h1 : n ≤ 4294967295) (hk : k < 4) : IntKind.u8.wrap (bShr .u32 n (IntKind.i64.wrap (8 * IntKind.i64.wrap (((k + 1 : Nat) : Int) - 1)))) = IntKind.u8.wrap (n / 2 ^ (8 * k)) := by
  have := putv h0 h1 hk
  rwa [wrap_u32 h0 (by omega)] at this
theorem putv0 {k : Nat} (hk : k < 4) : 0 ≤ IntKind.i64.wrap (8 * IntKind.i64.wrap (((k + 1 : Nat) : Int) - 1)) := by
  rw [wrap_i64 (x := ((k + 1 : Nat) : Int) - 1) (by omega) (by omega), wrap_i64 (by omega) (by omega)]
  omega

end Go.RV

/- Contracts of functions of chapter 1: the document's texts. Conditions: none. -/
set_option maxRecDepth 20000
set_option linter.unusedVariables false
set_option linter.unusedSimpArgs false
namespace Go.RV
open Go Go.Proofs

/-- a var number's bytes -/
def varF : Nat → Int → List UInt8
  | 0, n => [yI n]
  | f+1, n => if 127 < n then yI (128 + n % 128) :: varF f (n / 128) else [yI n]
def varD (n : Int) : List UInt8 := varF 5 n

theorem yI_emod (n : Int) : yI (n % 256) = yI n := by unfold yI; rw [Int.emod_emod_of_dvd _ (by decide)]
theorem be_snoc (n : Int) : ∀ w, yI (n / 2 ^ (8 * w)) :: be n w = be n (w + 1) := fun w => rfl
theorem be_low (n : Int) (h0 : 0 ≤ n) : ∀ (w : Nat), be n (w + 1) = be (n / 256) w ++ [yI n]
  | 0 => by simp [be]
  | w+1 => by
    have ih := be_low n h0 w
    rw [be, ih]
    show _ = (yI (n / 256 / 2 ^ (8 * w)) :: be (n / 256) w) ++ [yI n]
    have e : n / 256 / 2 ^ (8 * w) = n / 2 ^ (8 * (w + 1)) := by
      rw [Int.ediv_ediv_of_nonneg (by decide)]
      congr 1
      rw [show 8 * (w + 1) = 8 * w + 8 from by omega, Int.pow_add, Int.mul_comm]
      rfl
    rw [e]
    rfl

theorem varF_len : ∀ (f : Nat) (n : Int), (varF f n).length ≤ f + 1
  | 0, n => by simp [varF]
  | f+1, n => by
    rw [varF]
    split
    · have := varF_len f (n / 128)
      simp; omega
    · simp
theorem varD_len (n : Int) : (varD n).length ≤ 6 := varF_len 5 n
def textD (s : List UInt8) : List UInt8 := varD s.length ++ s
theorem bytes_c (bw : Nat) (bs : List UInt8) (L : LM) (hW : Wr bw bs L) (w : World) (hS : St (keys L) w w L) :
    Fc Tryd.prog 35 [.pointer (some ⟨bw, 0, none⟩)] w fun v w' => v = .string (strY bs) ∧ St [] w w' [] := by
  refine fc_i TB_ok Tryd.func35 rfl (by kernel_rfl) ?_
  obtain ⟨v, Lv, rfl, hv⟩ := hW.out
  obtain ⟨Av, cv, rfl, hv⟩ := hv.open
  have hH : Holds w ((bw, .cells #[.slice Av bs.length cv] 73 (0, 0)) :: Lv) := fun x hx => hS.own x.1 x.2 hx
  have hRv : Rd w Av (flat encY bs) := hv.rd hS (fun x hx => List.mem_cons_of_mem _ hx)
  replace hS := Sf.refl w
  repeat ((conv => whnf); first | (refine nw_f hS ?_; intro b w1 hS) | (refine ld_f hS 0 rfl rfl ?_) | (refine ldA_f hS 0 rfl rfl ?_) | (refine stN_f hS 0 rfl (Nat.le_of_ble_eq_true rfl) rfl rfl ?_; (conv => whnf); intro w1 hS) | (refine stM_f hS 0 rfl (Nat.le_of_ble_eq_true rfl) rfl ?_; (conv => whnf); intro w1 hS) | (refine ld_h hS.nil hH 0 rfl rfl ?_))
  refine bStr_i Tryd.underlying71 Tryd.underlying5 Tryd.underlying9 hRv rfl ?_
  repeat ((conv => whnf); first | (refine nw_f hS ?_; intro b w1 hS) | (refine ld_f hS 0 rfl rfl ?_) | (refine ldA_f hS 0 rfl rfl ?_) | (refine stN_f hS 0 rfl (Nat.le_of_ble_eq_true rfl) rfl rfl ?_; (conv => whnf); intro w1 hS) | (refine stM_f hS 0 rfl (Nat.le_of_ble_eq_true rfl) rfl ?_; (conv => whnf); intro w1 hS))
  exact ⟨rfl, hS.nil⟩

end Go.RV

/- Contracts of functions of chapter 1: a var number that is written. Conditions: none. -/
set_option maxRecDepth 20000
set_option linter.unusedVariables false
set_option linter.unusedSimpArgs false
namespace Go.RV
open Go Go.Proofs

theorem digits_c (n : Int) (w : World) : Fc Tryd.prog 56 [.int .u32 n] w fun v w' => ∃ b, v = .func (.func 83) #[] #[.pointer (some ⟨b, 0, none⟩)] ∧ St [] w w' [(b, .cells #[.int .u32 n] 22 (0, 0))] := by
  refine fc_i TB_ok Tryd.func56 rfl (by kernel_rfl) ?_
  have hS := Sf.refl w
  repeat ((conv => whnf); first | (refine nw_f hS ?_; intro b w1 hS) | (refine ld_f hS 0 rfl rfl ?_) | (refine ld_f hS 1 rfl rfl ?_) | (refine ldA_f hS 0 rfl rfl ?_) | (refine ldA_f hS 1 rfl rfl ?_) | (refine stN_f hS 0 rfl (Nat.le_of_ble_eq_true rfl) rfl rfl ?_; (conv => whnf); intro w1 hS) | (refine stN_f hS 1 rfl (Nat.le_of_ble_eq_true rfl) rfl rfl ?_; (conv => whnf); intro w1 hS) | (refine stM_f hS 0 rfl (Nat.le_of_ble_eq_true rfl) rfl ?_; (conv => whnf); intro w1 hS) | (refine stM_f hS 1 rfl (Nat.le_of_ble_eq_true rfl) rfl ?_; (conv => whnf); intro w1 hS))
  exact ⟨_, rfl, hS.sub (by repeat (first | exact List.Sublist.refl _ | apply List.Sublist.cons_cons | apply List.Sublist.cons))⟩

theorem u8var {n : Int} (h : 0 ≤ n) : [Value.int .u8 (IntKind.u8.wrap (IntKind.u8.wrap (n.tmod 128) + 128))] = flat encY [yI (128 + n % 128)] := by
  rw [Int.tmod_eq_emod_of_nonneg h, wrap_u8 (x := n % 128) (by omega) (by omega), Int.add_comm, u8v]

theorem wvar_c (bw : Nat) (bs : List UInt8) (L : LM) (hW : Wr bw bs L) (n0 : Int) (h0 : 0 ≤ n0) (h1 : n0 ≤ 4294967295) (w : World) (hS : St (keys L) w w L) (hn : bs.length ≤ 70368744177664) :
    Fc Tryd.prog 34 [.pointer (some ⟨bw, 0, none⟩), .int .u32 n0] w fun v w' => ∃ L', Wr bw (bs ++ varD n0) L' ∧ St (keys L) w w' L' := by
  refine fc_i TB_ok Tryd.func34 rfl (by kernel_rfl) ?_
  have hS : Sf (keys L) w w (L ++ []) [] := ⟨by simpa using hS⟩
  repeat ((conv => whnf); first | (refine nw_f hS ?_; intro b w1 hS) | (refine ld_f hS 0 rfl rfl ?_) | (refine ld_f hS 1 rfl rfl ?_) | (refine ldA_f hS 0 rfl rfl ?_) | (refine ldA_f hS 1 rfl rfl ?_) | (refine stN_f hS 0 rfl (Nat.le_of_ble_eq_true rfl) rfl rfl ?_; (conv => whnf); intro w1 hS) | (refine stN_f hS 1 rfl (Nat.le_of_ble_eq_true rfl) rfl rfl ?_; (conv => whnf); intro w1 hS) | (refine stM_f hS 0 rfl (Nat.le_of_ble_eq_true rfl) rfl ?_; (conv => whnf); intro w1 hS) | (refine stM_f hS 1 rfl (Nat.le_of_ble_eq_true rfl) rfl ?_; (conv => whnf); intro w1 hS))
  refine fc_m (digits_c n0 _) ?_
  rintro v w1 ⟨bn, rfl, hS'⟩
  replace hS := hS.call' hS'
  repeat ((conv => whnf); first | (refine nw_f hS ?_; intro b w1 hS) | (refine ld_f hS 0 rfl rfl ?_) | (refine ld_f hS 1 rfl rfl ?_) | (refine ldA_f hS 0 rfl rfl ?_) | (refine ldA_f hS 1 rfl rfl ?_) | (refine stN_f hS 0 rfl (Nat.le_of_ble_eq_true rfl) rfl rfl ?_; (conv => whnf); intro w1 hS) | (refine stN_f hS 1 rfl (Nat.le_of_ble_eq_true rfl) rfl rfl ?_; (conv => whnf); intro w1 hS) | (refine stM_f hS 0 rfl (Nat.le_of_ble_eq_true rfl) rfl ?_; (conv => whnf); intro w1 hS) | (refine stM_f hS 1 rfl (Nat.le_of_ble_eq_true rfl) rfl ?_; (conv => whnf); intro w1 hS))
  refine range_i rfl Tryd.func83 rfl (by kernel_rfl) hS ?_
  intro fi bd l w2 hS
  refine fc_i TB_ok Tryd.func83 rfl (by kernel_rfl) ?_
  repeat ((conv => whnf); first | (refine nw_f hS ?_; intro b w1 hS) | (refine ld_f hS 0 rfl rfl ?_) | (refine ld_f hS 1 rfl rfl ?_) | (refine ld_f hS 2 rfl rfl ?_) | (refine ld_f hS 3 rfl rfl ?_) | (refine ldA_f hS 0 rfl rfl ?_) | (refine ldA_f hS 1 rfl rfl ?_) | (refine ldA_f hS 2 rfl rfl ?_) | (refine ldA_f hS 3 rfl rfl ?_) | (refine stN_f hS 0 rfl (Nat.le_of_ble_eq_true rfl) rfl rfl ?_; (conv => whnf); intro w1 hS) | (refine stN_f hS 1 rfl (Nat.le_of_ble_eq_true rfl) rfl rfl ?_; (conv => whnf); intro w1 hS) | (refine stN_f hS 2 rfl (Nat.le_of_ble_eq_true rfl) rfl rfl ?_; (conv => whnf); intro w1 hS) | (refine stN_f hS 3 rfl (Nat.le_of_ble_eq_true rfl) rfl rfl ?_; (conv => whnf); intro w1 hS) | (refine stM_f hS 0 rfl (Nat.le_of_ble_eq_true rfl) rfl ?_; (conv => whnf); intro w1 hS) | (refine stM_f hS 1 rfl (Nat.le_of_ble_eq_true rfl) rfl ?_; (conv => whnf); intro w1 hS) | (refine stM_f hS 2 rfl (Nat.le_of_ble_eq_true rfl) rfl ?_; (conv => whnf); intro w1 hS) | (refine stM_f hS 3 rfl (Nat.le_of_ble_eq_true rfl) rfl ?_; (conv => whnf); intro w1 hS))
  refine loop_i TB_ok (fun s : Nat × Int × List UInt8 => []) (fun s w' => (s.1 ≤ 5 ∧ 1 ≤ s.1) ∧ (0 ≤ s.2.1 ∧ s.2.1 ≤ 4294967295 ∧ s.2.1 < 2 ^ (7 * s.1)) ∧ s.2.2 ++ varF s.1 s.2.1 = varD n0 ∧ s.2.2.length = 5 - s.1 ∧ ∃ L', Wr bw (bs ++ s.2.2) L' ∧ Sf (keys L) w w' (L' ++ []) [_, _, _, (bn, .cells #[.int .u32 s.2.1] 22 (0, 0))]) (fun s => s.1) (5, n0, []) rfl ⟨⟨Nat.le_refl _, by show 1 ≤ 5; decide⟩, ⟨h0, h1, by show n0 < 2 ^ 35; omega⟩, rfl, rfl, L, by simpa using hW, hS⟩ ?_
  rintro ⟨f, n, pre⟩ us w3 ⟨hf, hn', hs, hl, L', hW', hS⟩
  simp only at hf hn' hs hl hW'
  obtain ⟨f, rfl⟩ : ∃ j, f = j + 1 := ⟨f - 1, by omega⟩
  repeat ((conv => whnf); first | (refine nw_f hS ?_; intro b w1 hS) | (refine ld_f hS 0 rfl rfl ?_) | (refine ld_f hS 1 rfl rfl ?_) | (refine ld_f hS 2 rfl rfl ?_) | (refine ld_f hS 3 rfl rfl ?_) | (refine ldA_f hS 0 rfl rfl ?_) | (refine ldA_f hS 1 rfl rfl ?_) | (refine ldA_f hS 2 rfl rfl ?_) | (refine ldA_f hS 3 rfl rfl ?_) | (refine stN_f hS 0 rfl (Nat.le_of_ble_eq_true rfl) rfl rfl ?_; (conv => whnf); intro w1 hS) | (refine stN_f hS 1 rfl (Nat.le_of_ble_eq_true rfl) rfl rfl ?_; (conv => whnf); intro w1 hS) | (refine stN_f hS 2 rfl (Nat.le_of_ble_eq_true rfl) rfl rfl ?_; (conv => whnf); intro w1 hS) | (refine stN_f hS 3 rfl (Nat.le_of_ble_eq_true rfl) rfl rfl ?_; (conv => whnf); intro w1 hS) | (refine stM_f hS 0 rfl (Nat.le_of_ble_eq_true rfl) rfl ?_; (conv => whnf); intro w1 hS) | (refine stM_f hS 1 rfl (Nat.le_of_ble_eq_true rfl) rfl ?_; (conv => whnf); intro w1 hS) | (refine stM_f hS 2 rfl (Nat.le_of_ble_eq_true rfl) rfl ?_; (conv => whnf); intro w1 hS) | (refine stM_f hS 3 rfl (Nat.le_of_ble_eq_true rfl) rfl ?_; (conv => whnf); intro w1 hS))
  refine br_i (fun hb => ?_) (fun hb => ?_)
  · have hlt : 127 < n := by have : (128 : Int) ≤ n := of_decide_eq_true hb; omega
    have hf1 : 1 ≤ f := by
      rcases Nat.lt_or_ge 0 f with h | h
      · exact h
      · obtain rfl : f = 0 := by omega
        have := hn'.2.2
        simp at this
        omega
    rw [varF, if_pos hlt] at hs
    repeat ((conv => whnf); first | (refine nw_f hS ?_; intro b w1 hS) | (refine ld_f hS 0 rfl rfl ?_) | (refine ld_f hS 1 rfl rfl ?_) | (refine ld_f hS 2 rfl rfl ?_) | (refine ld_f hS 3 rfl rfl ?_) | (refine ldA_f hS 0 rfl rfl ?_) | (refine ldA_f hS 1 rfl rfl ?_) | (refine ldA_f hS 2 rfl rfl ?_) | (refine ldA_f hS 3 rfl rfl ?_) | (refine stN_f hS 0 rfl (Nat.le_of_ble_eq_true rfl) rfl rfl ?_; (conv => whnf); intro w1 hS) | (refine stN_f hS 1 rfl (Nat.le_of_ble_eq_true rfl) rfl rfl ?_; (conv => whnf); intro w1 hS) | (refine stN_f hS 2 rfl (Nat.le_of_ble_eq_true rfl) rfl rfl ?_; (conv => whnf); intro w1 hS) | (refine stN_f hS 3 rfl (Nat.le_of_ble_eq_true rfl) rfl rfl ?_; (conv => whnf); intro w1 hS) | (refine stM_f hS 0 rfl (Nat.le_of_ble_eq_true rfl) rfl ?_; (conv => whnf); intro w1 hS) | (refine stM_f hS 1 rfl (Nat.le_of_ble_eq_true rfl) rfl ?_; (conv => whnf); intro w1 hS) | (refine stM_f hS 2 rfl (Nat.le_of_ble_eq_true rfl) rfl ?_; (conv => whnf); intro w1 hS) | (refine stM_f hS 3 rfl (Nat.le_of_ble_eq_true rfl) rfl ?_; (conv => whnf); intro w1 hS) | (refine .mk (by decide) ?_))
    (conv => whnf)
    refine yield1_i TB_ok (hS.obj 0 rfl) rfl ?_
    (conv => whnf)
    refine begin_f hS 0 rfl rfl ?_
    (conv => whnf)
    intro w5 hS
    repeat ((conv => whnf); first | (refine nw_f hS ?_; intro b w1 hS) | (refine ld_f hS 0 rfl rfl ?_) | (refine ld_f hS 1 rfl rfl ?_) | (refine ld_f hS 2 rfl rfl ?_) | (refine ld_f hS 3 rfl rfl ?_) | (refine ldA_f hS 0 rfl rfl ?_) | (refine ldA_f hS 1 rfl rfl ?_) | (refine ldA_f hS 2 rfl rfl ?_) | (refine ldA_f hS 3 rfl rfl ?_) | (refine stN_f hS 0 rfl (Nat.le_of_ble_eq_true rfl) rfl rfl ?_; (conv => whnf); intro w1 hS) | (refine stN_f hS 1 rfl (Nat.le_of_ble_eq_true rfl) rfl rfl ?_; (conv => whnf); intro w1 hS) | (refine stN_f hS 2 rfl (Nat.le_of_ble_eq_true rfl) rfl rfl ?_; (conv => whnf); intro w1 hS) | (refine stN_f hS 3 rfl (Nat.le_of_ble_eq_true rfl) rfl rfl ?_; (conv => whnf); intro w1 hS) | (refine stM_f hS 0 rfl (Nat.le_of_ble_eq_true rfl) rfl ?_; (conv => whnf); intro w1 hS) | (refine stM_f hS 1 rfl (Nat.le_of_ble_eq_true rfl) rfl ?_; (conv => whnf); intro w1 hS) | (refine stM_f hS 2 rfl (Nat.le_of_ble_eq_true rfl) rfl ?_; (conv => whnf); intro w1 hS) | (refine stM_f hS 3 rfl (Nat.le_of_ble_eq_true rfl) rfl ?_; (conv => whnf); intro w1 hS))
    have hRd : Rd _ _ [Value.int .u8 (IntKind.u8.wrap (IntKind.u8.wrap (n.tmod 128) + 128))] := hS.rd 0 rfl
    rw [u8var hn'.1] at hRd
    refine fc_m (write_c bw (bs ++ pre) [yI (128 + n % 128)] L' hW' _ _ _ hS.ownF hRd (by have h1 : pre.length = 5 - (f + 1) := hl; simp; omega)) ?_
    rintro v w6 ⟨L2, hW2, hS'⟩
    replace hS := hS.callW hS'
    (conv => whnf)
    refine end_f hS 1 rfl ?_
    (conv => whnf)
    intro w7 hS
    repeat ((conv => whnf); first | (refine nw_f hS ?_; intro b w1 hS) | (refine ld_f hS 0 rfl rfl ?_) | (refine ld_f hS 1 rfl rfl ?_) | (refine ld_f hS 2 rfl rfl ?_) | (refine ld_f hS 3 rfl rfl ?_) | (refine ld_f hS 4 rfl rfl ?_) | (refine ldA_f hS 0 rfl rfl ?_) | (refine ldA_f hS 1 rfl rfl ?_) | (refine ldA_f hS 2 rfl rfl ?_) | (refine ldA_f hS 3 rfl rfl ?_) | (refine ldA_f hS 4 rfl rfl ?_) | (refine stN_f hS 0 rfl (Nat.le_of_ble_eq_true rfl) rfl rfl ?_; (conv => whnf); intro w1 hS) | (refine stN_f hS 1 rfl (Nat.le_of_ble_eq_true rfl) rfl rfl ?_; (conv => whnf); intro w1 hS) | (refine stN_f hS 2 rfl (Nat.le_of_ble_eq_true rfl) rfl rfl ?_; (conv => whnf); intro w1 hS) | (refine stN_f hS 3 rfl (Nat.le_of_ble_eq_true rfl) rfl rfl ?_; (conv => whnf); intro w1 hS) | (refine stN_f hS 4 rfl (Nat.le_of_ble_eq_true rfl) rfl rfl ?_; (conv => whnf); intro w1 hS) | (refine stM_f hS 0 rfl (Nat.le_of_ble_eq_true rfl) rfl ?_; (conv => whnf); intro w1 hS) | (refine stM_f hS 1 rfl (Nat.le_of_ble_eq_true rfl) rfl ?_; (conv => whnf); intro w1 hS) | (refine stM_f hS 2 rfl (Nat.le_of_ble_eq_true rfl) rfl ?_; (conv => whnf); intro w1 hS) | (refine stM_f hS 3 rfl (Nat.le_of_ble_eq_true rfl) rfl ?_; (conv => whnf); intro w1 hS) | (refine stM_f hS 4 rfl (Nat.le_of_ble_eq_true rfl) rfl ?_; (conv => whnf); intro w1 hS) | (refine .mk (by decide) ?_))
    have e : IntKind.u32.wrap (n.tdiv 128) = n / 128 := by rw [Int.tdiv_eq_ediv_of_nonneg hn'.1, wrap_u32 (by omega) (by omega)]
    have hl' : pre.length = 5 - (f + 1) := hl
    refine ⟨rfl, (f, IntKind.u32.wrap (n.tdiv 128), pre ++ [yI (128 + n % 128)]), rfl, ⟨by simp only; omega, ⟨by simp only; rw [e]; omega, by simp only; rw [e]; omega, ?_⟩, by simp only; rw [e, ← hs]; simp, by simp; omega, L2, by simpa [List.append_assoc] using hW2, hS.subs (List.Sublist.refl _) (by repeat (first | exact List.Sublist.refl _ | apply List.Sublist.cons_cons | apply List.Sublist.cons))⟩, by simp⟩
    simp only
    rw [e]
    have h := hn'.2.2
    rw [show 7 * (f + 1) = 7 * f + 7 from by omega, Int.pow_add] at h
    have h7 : (2 : Int) ^ 7 = 128 := by decide
    rw [h7] at h
    exact Int.ediv_lt_of_lt_mul (by decide) h
  · have hge : ¬ 127 < n := by have : ¬ (128 : Int) ≤ n := of_decide_eq_false hb; omega
    rw [varF, if_neg hge] at hs
    repeat ((conv => whnf); first | (refine nw_f hS ?_; intro b w1 hS) | (refine ld_f hS 0 rfl rfl ?_) | (refine ld_f hS 1 rfl rfl ?_) | (refine ld_f hS 2 rfl rfl ?_) | (refine ld_f hS 3 rfl rfl ?_) | (refine ldA_f hS 0 rfl rfl ?_) | (refine ldA_f hS 1 rfl rfl ?_) | (refine ldA_f hS 2 rfl rfl ?_) | (refine ldA_f hS 3 rfl rfl ?_) | (refine stN_f hS 0 rfl (Nat.le_of_ble_eq_true rfl) rfl rfl ?_; (conv => whnf); intro w1 hS) | (refine stN_f hS 1 rfl (Nat.le_of_ble_eq_true rfl) rfl rfl ?_; (conv => whnf); intro w1 hS) | (refine stN_f hS 2 rfl (Nat.le_of_ble_eq_true rfl) rfl rfl ?_; (conv => whnf); intro w1 hS) | (refine stN_f hS 3 rfl (Nat.le_of_ble_eq_true rfl) rfl rfl ?_; (conv => whnf); intro w1 hS) | (refine stM_f hS 0 rfl (Nat.le_of_ble_eq_true rfl) rfl ?_; (conv => whnf); intro w1 hS) | (refine stM_f hS 1 rfl (Nat.le_of_ble_eq_true rfl) rfl ?_; (conv => whnf); intro w1 hS) | (refine stM_f hS 2 rfl (Nat.le_of_ble_eq_true rfl) rfl ?_; (conv => whnf); intro w1 hS) | (refine stM_f hS 3 rfl (Nat.le_of_ble_eq_true rfl) rfl ?_; (conv => whnf); intro w1 hS))
    (conv => whnf)
    refine yield1_i TB_ok (hS.obj 0 rfl) rfl ?_
    (conv => whnf)
    refine begin_f hS 0 rfl rfl ?_
    (conv => whnf)
    intro w5 hS
    repeat ((conv => whnf); first | (refine nw_f hS ?_; intro b w1 hS) | (refine ld_f hS 0 rfl rfl ?_) | (refine ld_f hS 1 rfl rfl ?_) | (refine ld_f hS 2 rfl rfl ?_) | (refine ld_f hS 3 rfl rfl ?_) | (refine ldA_f hS 0 rfl rfl ?_) | (refine ldA_f hS 1 rfl rfl ?_) | (refine ldA_f hS 2 rfl rfl ?_) | (refine ldA_f hS 3 rfl rfl ?_) | (refine stN_f hS 0 rfl (Nat.le_of_ble_eq_true rfl) rfl rfl ?_; (conv => whnf); intro w1 hS) | (refine stN_f hS 1 rfl (Nat.le_of_ble_eq_true rfl) rfl rfl ?_; (conv => whnf); intro w1 hS) | (refine stN_f hS 2 rfl (Nat.le_of_ble_eq_true rfl) rfl rfl ?_; (conv => whnf); intro w1 hS) | (refine stN_f hS 3 rfl (Nat.le_of_ble_eq_true rfl) rfl rfl ?_; (conv => whnf); intro w1 hS) | (refine stM_f hS 0 rfl (Nat.le_of_ble_eq_true rfl) rfl ?_; (conv => whnf); intro w1 hS) | (refine stM_f hS 1 rfl (Nat.le_of_ble_eq_true rfl) rfl ?_; (conv => whnf); intro w1 hS) | (refine stM_f hS 2 rfl (Nat.le_of_ble_eq_true rfl) rfl ?_; (conv => whnf); intro w1 hS) | (refine stM_f hS 3 rfl (Nat.le_of_ble_eq_true rfl) rfl ?_; (conv => whnf); intro w1 hS))
    have hRd : Rd _ _ [Value.int .u8 (IntKind.u8.wrap n)] := hS.rd 0 rfl
    rw [u8v] at hRd
    refine fc_m (write_c bw (bs ++ pre) [yI n] L' hW' _ _ _ hS.ownF hRd (by have h1 : pre.length = 5 - (f + 1) := hl; simp; omega)) ?_
    rintro v w6 ⟨L2, hW2, hS'⟩
    replace hS := hS.callW hS'
    (conv => whnf)
    refine end_f hS 1 rfl ?_
    (conv => whnf)
    intro w7 hS
    (conv => whnf)
    refine loopEnd_f hS 1 rfl rfl rfl ?_
    (conv => whnf)
    intro w8 hS
    (conv => whnf)
    refine take_f hS 2 rfl ?_
    (conv => whnf)
    intro w9 hS
    (conv => whnf)
    refine ⟨L2, ?_, by simpa using hS.fr (List.Sublist.refl _)⟩
    rw [← hs, ← List.append_assoc]
    exact hW2
end Go.RV

/- Contracts of functions of chapter 1: texts that are written; items. Conditions: none. -/
set_option maxRecDepth 20000
set_option linter.unusedVariables false
set_option linter.unusedSimpArgs false
namespace Go.RV
open Go Go.Proofs

/-- an item -/
structure Itm where
  kind : Int
  n : Int
  s : List UInt8
def itmV (x : Itm) : Value := .agg #[.int .u8 x.kind, .int .u32 x.n, .string (strY x.s)]
def encI (x : Itm) : List Value := [.int .u8 x.kind, .int .u32 x.n, .string (strY x.s)]
theorem encI_len (x : Itm) : (encI x).length = 3 := rfl
def itmOk (x : Itm) : Prop := 0 ≤ x.kind ∧ 0 ≤ x.n ∧ x.n ≤ 4294967295
def itmD (x : Itm) : List UInt8 :=
  if x.kind % 6 = 0 then be x.n 1 else if x.kind % 6 = 1 then be x.n 2 else if x.kind % 6 = 2 then be x.n 4 else if x.kind % 6 = 3 then varD x.n else if x.kind % 6 = 4 then x.s else textD x.s

theorem yI_congr {a b : Int} (h : a % 256 = b % 256) : yI a = yI b := by unfold yI; rw [h]
theorem be1w (n : Int) (h : 0 ≤ n) : be (IntKind.u8.wrap n) 1 = be n 1 := by
  rw [wrap_u8_mod]
  simp only [be, List.cons.injEq, and_true]
  exact yI_congr (by simp)
theorem be2w (n : Int) (h : 0 ≤ n) : be (IntKind.u16.wrap n) 2 = be n 2 := by
  rw [wrap_u16_mod]
  simp only [be, List.cons.injEq, and_true]
  refine ⟨yI_congr ?_, yI_congr ?_⟩
  · show n % 65536 / 256 % 256 = n / 256 % 256
    omega
  · simp

end Go.RV

/- Contracts of functions of chapter 1: the reader. Conditions: none. -/
set_option maxRecDepth 20000
set_option linter.unusedVariables false
set_option linter.unusedSimpArgs false
namespace Go.RV
open Go Go.Proofs

/-- a reader's state -/
structure RS where
  rest : List UInt8
  e : Int
theorem strY_extract (l : List UInt8) (a b : Nat) : (strY l).extract a b = strY ((l.take b).drop a) := by
  apply ByteArray.ext
  simp [strY, List.drop_take]
def fixedR (s : RS) (n : Int) : List UInt8 × RS := if s.e ≠ 0 ∨ n ≤ 0 then ([], s) else if (s.rest.length : Int) < n then ([], ⟨[], 10⟩) else (s.rest.take n.toNat, ⟨s.rest.drop n.toNat, s.e⟩)

end Go.RV

/- Contracts of functions of chapter 1: the reader's numbers. Conditions: none. -/
set_option maxRecDepth 20000
set_option linter.unusedVariables false
set_option linter.unusedSimpArgs false
namespace Go.RV
open Go Go.Proofs

def numF (n : Int) (l : List UInt8) : Int := l.foldl (fun n c => n * 256 + (c.toNat : Int)) n
theorem or_add {n c : Nat} (hc : c < 256) : (n * 256) ||| c = n * 256 + c := by
  rw [show n * 256 = n <<< 8 from by rw [Nat.shiftLeft_eq]]
  exact (Nat.shiftLeft_add_eq_or_of_lt hc n).symm
theorem orv {n : Int} {c : Nat} (h0 : 0 ≤ n) (h1 : n < 16777216) (hc : c < 256) : bOr .u32 (bShl .u32 n 8) (c : Int) = n * 256 + c := by
  obtain ⟨m, rfl⟩ := Int.eq_ofNat_of_zero_le h0
  have e8 : bShl .u32 (m : Int) 8 = ((m * 256 : Nat) : Int) := by
    unfold bShl
    have e : min (8 : Int).toNat IntKind.u32.bits = 8 := rfl
    rw [e]
    show IntKind.u32.wrap ((m : Int) * 256) = _
    rw [wrap_u32 (by omega) (by omega)]
    omega
  rw [e8]
  unfold bOr
  have hb : IntKind.u32.bits = 32 := rfl
  rw [hb]
  have e1 : BitVec.ofInt 32 ((m * 256 : Nat) : Int) = BitVec.ofNat 32 (m * 256) := BitVec.ofInt_natCast 32 _
  have e2 : BitVec.ofInt 32 ((c : Nat) : Int) = BitVec.ofNat 32 c := BitVec.ofInt_natCast 32 _
  rw [e1, e2, BitVec.toNat_or, BitVec.toNat_ofNat, BitVec.toNat_ofNat, Nat.mod_eq_of_lt (by omega), Nat.mod_eq_of_lt (by omega), or_add hc, wrap_u32 (by omega) (by omega)]
  omega
theorem numF_bound : ∀ (l : List UInt8) (n : Int), 0 ≤ n → 0 ≤ numF n l ∧ numF n l < (n + 1) * 256 ^ l.length
  | [], n, h => by simp [numF]; omega
  | c :: l, n, h => by
    have hc : c.toNat < 256 := c.toNat_lt
    have ih := numF_bound l (n * 256 + c.toNat) (by omega)
    refine ⟨ih.1, Int.lt_of_lt_of_le ih.2 ?_⟩
    rw [List.length_cons, Int.pow_succ, Int.mul_comm (256 ^ l.length) 256, ← Int.mul_assoc]
    exact Int.mul_le_mul_of_nonneg_right (by omega) (Int.pow_nonneg (by decide))
theorem fixedR_len (s : RS) (W : Nat) : (fixedR s W).1.length ≤ W := by
  unfold fixedR
  split
  · simp
  · split
    · simp
    · simp; omega

end Go.RV

/- Contracts of functions of chapter 1: the reader's methods. Conditions: none. -/
set_option maxRecDepth 20000
set_option linter.unusedVariables false
set_option linter.unusedSimpArgs false
namespace Go.RV
open Go Go.Proofs

theorem streq_strY (a b : List UInt8) : streq (strY a) (strY b) = decide (a = b) := by
  unfold streq
  rw [ByteArray.toList_eq, ByteArray.toList_eq]
  show ((⟨a.toArray⟩ : ByteArray).data.toList == (⟨b.toArray⟩ : ByteArray).data.toList) = _
  rw [Bool.eq_iff_iff]
  simp
def endR (s : RS) : Int := if s.e ≠ 0 then s.e else if s.rest ≠ [] then 4 else 0
end Go.RV

/- Contracts of functions of chapter 1: a var number that is read. Conditions: none. -/
set_option maxRecDepth 20000
set_option linter.unusedVariables false
set_option linter.unusedSimpArgs false
namespace Go.RV
open Go Go.Proofs

def varRF : Nat → Nat → Int → RS → Int × RS
  | 0, _, _, s => (0, s)
  | f+1, k, n, s => if s.e ≠ 0 then (0, s) else match s.rest with
    | [] => (0, ⟨[], 10⟩)
    | c :: t => if (k = 4 ∧ 15 < c.toNat) ∨ (0 < k ∧ c.toNat = 0) then (0, ⟨[], 4⟩) else
      if c.toNat < 128 then (n + (c.toNat % 128 : Nat) * 2 ^ (7 * k), ⟨t, 0⟩) else varRF f (k+1) (n + (c.toNat % 128 : Nat) * 2 ^ (7 * k)) ⟨t, 0⟩
def varR (s : RS) : Int × RS := varRF 5 0 0 s

theorem fixedR_one_nil {s : RS} (h : s.e = 0) (hr : s.rest = []) : fixedR s 1 = ([], ⟨[], 10⟩) := by
  rw [fixedR, if_neg (by simp [h]), if_pos (by simp [hr])]
theorem fixedR_one_cons {s : RS} {c : UInt8} {t : List UInt8} (h : s.e = 0) (hr : s.rest = c :: t) : fixedR s 1 = ([c], ⟨t, 0⟩) := by
  rw [fixedR, if_neg (by simp [h]), if_neg (by simp [hr]; omega)]
  simp [hr, h]
theorem numF_one (c : UInt8) : IntKind.u8.wrap (numF 0 [c]) = (c.toNat : Int) := by
  have hc := c.toNat_lt
  simp only [numF, List.foldl_cons, List.foldl_nil]
  rw [wrap_u8 (by omega) (by omega)]
  omega
theorem orShift {n : Int} {x k : Nat} (h0 : 0 ≤ n) (h1 : n < 2 ^ (7 * k)) (hk : k ≤ 4) (hx : x < 128) (hx4 : k = 4 → x < 16) : bOr .u32 n (bShl .u32 (x : Int) ((7 * k : Nat) : Int)) = n + (x : Int) * 2 ^ (7 * k) := by
  obtain ⟨m, rfl⟩ := Int.eq_ofNat_of_zero_le h0
  have hm : m < 2 ^ (7 * k) := by exact_mod_cast h1
  have hb : IntKind.u32.bits = 32 := rfl
  have hlt : x * 2 ^ (7 * k) + m < 4294967296 := by
    have hk5 : k = 0 ∨ k = 1 ∨ k = 2 ∨ k = 3 ∨ k = 4 := by omega
    rcases hk5 with rfl | rfl | rfl | rfl | rfl <;> simp at hm ⊢ <;> first | omega | (have := hx4 rfl; omega)
  have e8 : bShl .u32 (x : Int) ((7 * k : Nat) : Int) = ((x * 2 ^ (7 * k) : Nat) : Int) := by
    unfold bShl
    rw [hb, Int.toNat_natCast, Nat.min_eq_left (by omega)]
    have : ((x : Int) * 2 ^ (7 * k)) = ((x * 2 ^ (7 * k) : Nat) : Int) := by simp
    rw [this, wrap_u32 (by omega) (by omega)]
  rw [e8]
  unfold bOr
  rw [hb]
  have e1 : BitVec.ofInt 32 ((m : Nat) : Int) = BitVec.ofNat 32 m := BitVec.ofInt_natCast 32 _
  have e2 : BitVec.ofInt 32 ((x * 2 ^ (7 * k) : Nat) : Int) = BitVec.ofNat 32 (x * 2 ^ (7 * k)) := BitVec.ofInt_natCast 32 _
  rw [e1, e2, BitVec.toNat_or, BitVec.toNat_ofNat, BitVec.toNat_ofNat, Nat.mod_eq_of_lt (by omega), Nat.mod_eq_of_lt (by omega)]
  have e3 : m ||| x * 2 ^ (7 * k) = x * 2 ^ (7 * k) + m := by
    rw [Nat.or_comm, ← Nat.shiftLeft_eq]
    exact (Nat.shiftLeft_add_eq_or_of_lt hm x).symm
  rw [e3, wrap_u32 (by omega) (by omega)]
  simp
  omega

end Go.RV

/- Contracts of functions of chapter 1: a text that is read, and the document's reader. Conditions: none. -/
set_option maxRecDepth 20000
set_option linter.unusedVariables false
set_option linter.unusedSimpArgs false
namespace Go.RV
open Go Go.Proofs

theorem varRF_bound : ∀ (f k : Nat) (n : Int) (s : RS), f + k = 5 → 0 ≤ n → n < 2 ^ (7 * k) → 0 ≤ (varRF f k n s).1 ∧ (varRF f k n s).1 ≤ 4294967295
  | 0, _, _, _, _, _, _ => by simp [varRF]
  | f+1, k, n, s, hk, h0, h1 => by
    rw [varRF]
    split
    · simp
    · split
      · simp
      · rename_i c t hr
        split
        · simp
        · rename_i hB
          have hc := c.toNat_lt
          have hlt : n + (c.toNat % 128 : Nat) * 2 ^ (7 * k) ≤ 4294967295 ∧ (k ≤ 3 → n + (c.toNat % 128 : Nat) * 2 ^ (7 * k) < 2 ^ (7 * (k + 1))) := by
            have hk5 : k = 0 ∨ k = 1 ∨ k = 2 ∨ k = 3 ∨ k = 4 := by omega
            rcases hk5 with rfl | rfl | rfl | rfl | rfl <;> simp at h1 hB ⊢ <;> omega
          have h0' : 0 ≤ n + (c.toNat % 128 : Nat) * 2 ^ (7 * k) := Int.add_nonneg h0 (Int.mul_nonneg (Int.natCast_nonneg _) (Int.pow_nonneg (by decide)))
          split
          · exact ⟨h0', hlt.1⟩
          · by_cases hk3 : k ≤ 3
            · exact varRF_bound f (k + 1) _ _ (by omega) h0' (hlt.2 hk3)
            · obtain rfl : f = 0 := by omega
              simp [varRF]
theorem varR_bound (s : RS) : 0 ≤ (varR s).1 ∧ (varR s).1 ≤ 4294967295 := varRF_bound 5 0 0 s rfl (by decide) (by decide)
def textR (s : RS) : List UInt8 × RS := fixedR (varR s).2 (varR s).1
theorem byteAt_strY {l : List UInt8} {i : Nat} (h : i < l.length) : byteAt (strY l) i = (l[i].toNat : Int) := by
  unfold byteAt strY
  simp [h]
end Go.RV

/- Contracts of functions of chapter 1: the document's reader. Conditions: none. -/
set_option maxRecDepth 20000
set_option linter.unusedVariables false
set_option linter.unusedSimpArgs false
namespace Go.RV
open Go Go.Proofs

theorem wrap_u64 {x : Int} (h0 : 0 ≤ x) (h1 : x ≤ 18446744073709551615) : IntKind.u64.wrap x = x := by
  show x.emod 18446744073709551616 = x
  exact Int.emod_eq_of_lt h0 (by omega)
theorem fixedR_err {s : RS} (h : s.e ≠ 0) (n : Int) : fixedR s n = ([], s) := by rw [fixedR, if_pos (.inl h)]
theorem accB {n : Int} {x k : Nat} (h0 : 0 ≤ n) (h1 : n < 2 ^ (7 * k)) (hk : k ≤ 3) (hx : x < 128) : 0 ≤ n + (x : Int) * 2 ^ (7 * k) ∧ n + (x : Int) * 2 ^ (7 * k) < 2 ^ (7 * (k + 1)) := by
  have hk5 : k = 0 ∨ k = 1 ∨ k = 2 ∨ k = 3 := by omega
  rcases hk5 with rfl | rfl | rfl | rfl <;> simp at h1 ⊢ <;> omega
theorem over4 {n : Int} {x k : Nat} (h0 : 0 ≤ n) (h1 : n < 2 ^ (7 * k)) (hk : k ≤ 4) (hx : x < 128) : 4294967295 < n + (x : Int) * 2 ^ (7 * k) ↔ k = 4 ∧ 15 < x := by
  have hk5 : k = 0 ∨ k = 1 ∨ k = 2 ∨ k = 3 ∨ k = 4 := by omega
  rcases hk5 with rfl | rfl | rfl | rfl | rfl <;> simp at h1 ⊢ <;> omega
theorem accW {n : Int} {x k : Nat} (h0 : 0 ≤ n) (h1 : n < 2 ^ (7 * k)) (hk : k ≤ 4) (hx : x < 128) : IntKind.u64.wrap (n + IntKind.u64.wrap ((x : Int) * 2 ^ (7 * k))) = n + (x : Int) * 2 ^ (7 * k) := by
  have hk5 : k = 0 ∨ k = 1 ∨ k = 2 ∨ k = 3 ∨ k = 4 := by omega
  have h : 0 ≤ (x : Int) * 2 ^ (7 * k) ∧ (x : Int) * 2 ^ (7 * k) ≤ 1152921504606846976 ∧ n ≤ 1152921504606846976 := by
    rcases hk5 with rfl | rfl | rfl | rfl | rfl <;> simp at h1 ⊢ <;> omega
  rw [wrap_u64 h.1 (by omega), wrap_u64 (by omega) (by omega)]

end Go.RV

/- Contracts of functions of chapter 1: few, reads, awake; CodecWrites walked. Conditions: none. -/
set_option maxRecDepth 20000
set_option linter.unusedVariables false
set_option linter.unusedSimpArgs false
namespace Go.RV
open Go Go.Proofs

theorem Wr.new (b : Nat) : Wr b [] [(b, .cells #[.slice none 0 0] 73 (0, 0))] := ⟨_, [], rfl, .nil⟩
theorem lit_eq {bs : List UInt8} (l : List UInt8) (h : bs = l) : streq (strY bs) (strY l) = true := by rw [streq_strY, h]; simp
theorem bytesK {bw : Nat} {bs : List UInt8} {L : LM} (a : ByteArray) (e : streq (strY bs) a = true) (hW : Wr bw bs L) {w : World} (hS : St (keys L) w w L) :
    Fc Tryd.prog 35 [.pointer (some ⟨bw, 0, none⟩)] w fun v w' => ∃ s, v = .string s ∧ streq s a = true ∧ St [] w w' [] :=
  Fc.mono (bytes_c bw bs L hW w hS) fun v w' h => ⟨_, h.1, e, h.2⟩

theorem itmD_len (x : Itm) (hs : x.s.length ≤ 300) : (itmD x).length ≤ 306 := by
  have h1 := varD_len x.n
  have h2 := varD_len (x.s.length : Int)
  unfold itmD
  repeat' split
  all_goals first | (rw [be_len]; omega) | omega | (simp only [textD, List.length_append]; omega)
def itmsD (l : List Itm) : List UInt8 := l.flatMap itmD
theorem itmsD_len : ∀ (l : List Itm), (∀ x ∈ l, x.s.length ≤ 300) → (itmsD l).length ≤ 306 * l.length
  | [], _ => by simp [itmsD]
  | x :: l, h => by
    have h1 := itmD_len x (h x (by simp))
    have h2 := itmsD_len l (fun y hy => h y (by simp [hy]))
    have e : itmsD (x :: l) = itmD x ++ itmsD l := by simp [itmsD]
    rw [e, List.length_append, List.length_cons]
    omega
theorem itmsD_snoc (l : List Itm) {i : Nat} (h : i < l.length) : itmsD (l.take (i + 1)) = itmsD (l.take i) ++ itmD l[i] := by
  unfold itmsD
  rw [List.take_succ_eq_append_getElem h, List.flatMap_append]
  simp

end Go.RV
