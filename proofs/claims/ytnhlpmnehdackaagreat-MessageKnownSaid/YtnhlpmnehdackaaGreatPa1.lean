/- Contracts of functions of chapter 4: names, conflict names. Conditions: none. -/
import Derived.Test.YtnhlpmnehdackaaGreatS1
import Derived.Test.YtnhlpmnehdackaaGreatRvX
import Derived.Test.YtnhlpmnehdackaaGreatRvU
import Derived.Test.YtnhlpmnehdackaaGreatRvR
import Derived.Test.YtnhlpmnehdackaaGreatRvY
import Derived.Lib.DecodeN
set_option maxRecDepth 20000
set_option linter.unusedVariables false
set_option linter.unusedSimpArgs false
namespace Go.RV.C04
open Go Go.Proofs Go.RowKit

def dotV (r n : Int) : Value := .agg #[.int .u8 r, .int .u32 n]
/-- a number's last byte -/
def yI (x : Int) : UInt8 := UInt8.ofNat (x % 256).toNat
theorem yI_val (x : Int) : (((yI x).toNat : Nat) : Int) = x % 256 := by
  unfold yI
  rw [UInt8.toNat_ofNat']
  have h1 : 0 ≤ x % 256 := Int.emod_nonneg _ (by decide)
  have h2 : x % 256 < 256 := Int.emod_lt_of_pos _ (by decide)
  have h3 : (x % 256).toNat % 2 ^ 8 = (x % 256).toNat := Nat.mod_eq_of_lt (by omega)
  rw [h3]
  omega
theorem u8v (x : Int) : [Value.int .u8 (IntKind.u8.wrap x)] = flat encY [yI x] := by
  show _ = [Value.int .u8 (((yI x).toNat : Nat) : Int)]
  rw [yI_val, wrap_u8_mod]
theorem byteAt_strY {l : List UInt8} {i : Nat} (h : i < l.length) : byteAt (strY l) i = (l[i].toNat : Int) := by
  unfold byteAt strY
  simp [h]
theorem strY_extract (l : List UInt8) (a b : Nat) : (strY l).extract a b = strY ((l.take b).drop a) := by
  apply ByteArray.ext
  simp [strY, List.drop_take]
theorem streq_strY (a b : List UInt8) : streq (strY a) (strY b) = decide (a = b) := by
  unfold streq
  rw [ByteArray.toList_eq, ByteArray.toList_eq]
  show ((⟨a.toArray⟩ : ByteArray).data.toList == (⟨b.toArray⟩ : ByteArray).data.toList) = _
  rw [Bool.eq_iff_iff]
  simp
def badC (n : Nat) : Bool := decide (n < 33) || (decide (125 < n) || n == 47)
theorem get_strY {l : List UInt8} {i : Nat} (h : i < l.length) : (strY l).get! i = l[i] := by
  have : i < l.toArray.size := by simpa using h
  show l.toArray[i]! = l[i]
  simp [h]
theorem decodeN_hi {n b0 b1 b2 b3 : Nat} (h : ¬ b0 < 128) : 128 ≤ (Lib.decodeN n b0 b1 b2 b3).1 := by
  unfold Lib.decodeN
  rw [if_neg h]
  repeat' split
  all_goals (simp only; omega)
theorem idx_bad (l : List UInt8) : ∀ (f pos : Nat), l.length - pos ≤ f → (0 ≤ Lib.idxFuncFrom badC true (strY l) f pos ↔ ∃ j, ∃ h : j < l.length, pos ≤ j ∧ badC l[j].toNat = true)
  | 0, pos, hf => by
    unfold Lib.idxFuncFrom
    constructor
    · intro h; omega
    · rintro ⟨j, hj, h1, _⟩; omega
  | f+1, pos, hf => by
    unfold Lib.idxFuncFrom
    have hsz := strY_size l
    by_cases hp : pos < l.length
    · rw [if_pos (by omega), Lib.decode_at, get_strY hp]
      by_cases hb : l[pos].toNat < 128
      · rw [show Lib.decodeN ((strY l).size - pos) l[pos].toNat ((strY l).get! (pos + 1)).toNat ((strY l).get! (pos + 2)).toNat ((strY l).get! (pos + 3)).toNat = (l[pos].toNat, 1) from by unfold Lib.decodeN; rw [if_pos hb]]
        simp only
        by_cases hq : badC l[pos].toNat = true
        · rw [if_pos hq]
          exact ⟨fun _ => ⟨pos, hp, Nat.le_refl _, hq⟩, fun _ => by omega⟩
        · rw [if_neg hq, idx_bad l f (pos + 1) (by omega)]
          constructor
          · rintro ⟨j, hj, h1, h2⟩; exact ⟨j, hj, by omega, h2⟩
          · rintro ⟨j, hj, h1, h2⟩
            refine ⟨j, hj, ?_, h2⟩
            by_cases e : j = pos
            · subst e; exact absurd h2 hq
            · omega
      · have hi := decodeN_hi (n := (strY l).size - pos) (b1 := ((strY l).get! (pos + 1)).toNat) (b2 := ((strY l).get! (pos + 2)).toNat) (b3 := ((strY l).get! (pos + 3)).toNat) hb
        rw [if_pos (by unfold badC; simp; omega)]
        exact ⟨fun _ => ⟨pos, hp, Nat.le_refl _, by unfold badC; simp; omega⟩, fun _ => by omega⟩
    · rw [if_neg (by omega)]
      constructor
      · intro h; omega
      · rintro ⟨j, hj, h1, _⟩; omega
theorem idx_any (l : List UInt8) : decide (0 ≤ Lib.idxFunc badC true (strY l)) = l.any fun c => badC c.toNat := by
  rw [Bool.eq_iff_iff, decide_eq_true_iff, Lib.idxFunc, idx_bad l _ 0 (by rw [strY_size]; omega), List.any_eq_true]
  constructor
  · rintro ⟨j, hj, _, h⟩; exact ⟨_, List.getElem_mem hj, h⟩
  · rintro ⟨c, hc, h⟩
    obtain ⟨j, hj, rfl⟩ := List.getElem_of_mem hc
    exact ⟨j, hj, Nat.zero_le _, h⟩
theorem may_c (x : Nat) (w : World) : Fc Tryz.prog 120 [.int .i32 (x : Int)] w fun v w' => v = .bool (!badC x) ∧ St [] w w' [] := by
  refine fc_i TB_ok Tryz.func120 rfl (by kernel_rfl) ?_
  have hS := Sf.refl w
  by_cases h1 : x < 33
  · have g1 : decide ((33 : Int) ≤ (x : Int)) = false := decide_eq_false (by omega)
    have e : badC x = true := by unfold badC; simp [h1]
    rw [e]
    repeat ((conv => whnf); first | (apply q_i; focus (intro w1 hS; (conv => whnf); first | exact ⟨rfl, rfl⟩)) | (refine nw_f hS ?_; intro b w1 hS) | (refine as_i hS ?_) | (refine as_i (hS.subs (List.nil_sublist _) (by repeat (first | exact List.Sublist.refl _ | apply List.Sublist.cons_cons | apply List.Sublist.cons))) ?_) | (refine as_i (hS.subs (List.Sublist.refl _) (by repeat (first | exact List.Sublist.refl _ | apply List.Sublist.cons_cons | apply List.Sublist.cons))) ?_) | (refine bar_f hS ?_) | (refine drawf TB_ok rfl (by kernel_rfl) (by kernel_rfl) hS (List.Sublist.refl _) (List.Sublist.refl _) ?_; intro w1 hS) | (refine br_t (by assumption) ?_) | (refine br_f (by assumption) ?_))
    exact ⟨rfl, hS.nil⟩
  have g1 : decide ((33 : Int) ≤ (x : Int)) = true := decide_eq_true (by omega)
  by_cases h2 : x < 126
  · have g2 : decide ((x : Int) < 126) = true := decide_eq_true (by omega)
    by_cases h3 : x = 47
    · subst h3
      repeat ((conv => whnf); first | (apply q_i; focus (intro w1 hS; (conv => whnf); first | exact ⟨rfl, rfl⟩)) | (refine nw_f hS ?_; intro b w1 hS) | (refine as_i hS ?_) | (refine as_i (hS.subs (List.nil_sublist _) (by repeat (first | exact List.Sublist.refl _ | apply List.Sublist.cons_cons | apply List.Sublist.cons))) ?_) | (refine as_i (hS.subs (List.Sublist.refl _) (by repeat (first | exact List.Sublist.refl _ | apply List.Sublist.cons_cons | apply List.Sublist.cons))) ?_) | (refine bar_f hS ?_) | (refine drawf TB_ok rfl (by kernel_rfl) (by kernel_rfl) hS (List.Sublist.refl _) (List.Sublist.refl _) ?_; intro w1 hS) | (refine br_t (by assumption) ?_) | (refine br_f (by assumption) ?_))
      exact ⟨rfl, hS.nil⟩
    · have g3 : ((x : Int) != 47) = true := by simp; omega
      have e : badC x = false := by unfold badC; simp; omega
      rw [e]
      repeat ((conv => whnf); first | (apply q_i; focus (intro w1 hS; (conv => whnf); first | exact ⟨rfl, rfl⟩)) | (refine nw_f hS ?_; intro b w1 hS) | (refine as_i hS ?_) | (refine as_i (hS.subs (List.nil_sublist _) (by repeat (first | exact List.Sublist.refl _ | apply List.Sublist.cons_cons | apply List.Sublist.cons))) ?_) | (refine as_i (hS.subs (List.Sublist.refl _) (by repeat (first | exact List.Sublist.refl _ | apply List.Sublist.cons_cons | apply List.Sublist.cons))) ?_) | (refine bar_f hS ?_) | (refine drawf TB_ok rfl (by kernel_rfl) (by kernel_rfl) hS (List.Sublist.refl _) (List.Sublist.refl _) ?_; intro w1 hS) | (refine br_t (by assumption) ?_) | (refine br_f (by assumption) ?_))
      exact ⟨congrArg Value.bool g3, hS.nil⟩
  · have g2 : decide ((x : Int) < 126) = false := decide_eq_false (by omega)
    have e : badC x = true := by unfold badC; simp; omega
    rw [e]
    repeat ((conv => whnf); first | (apply q_i; focus (intro w1 hS; (conv => whnf); first | exact ⟨rfl, rfl⟩)) | (refine nw_f hS ?_; intro b w1 hS) | (refine as_i hS ?_) | (refine as_i (hS.subs (List.nil_sublist _) (by repeat (first | exact List.Sublist.refl _ | apply List.Sublist.cons_cons | apply List.Sublist.cons))) ?_) | (refine as_i (hS.subs (List.Sublist.refl _) (by repeat (first | exact List.Sublist.refl _ | apply List.Sublist.cons_cons | apply List.Sublist.cons))) ?_) | (refine bar_f hS ?_) | (refine drawf TB_ok rfl (by kernel_rfl) (by kernel_rfl) hS (List.Sublist.refl _) (List.Sublist.refl _) ?_; intro w1 hS) | (refine br_t (by assumption) ?_) | (refine br_f (by assumption) ?_))
    exact ⟨rfl, hS.nil⟩
theorem check1_c (x : Nat) (w : World) : Fc Tryz.prog 119 [.int .i32 (x : Int)] w fun v w' => v = .bool (badC x) ∧ St [] w w' [] := by
  refine fc_i TB_ok Tryz.func119 rfl (by kernel_rfl) ?_
  have hS := Sf.refl w
  repeat ((conv => whnf); first | (apply q_i; focus (intro w1 hS; (conv => whnf); first | exact ⟨rfl, rfl⟩)) | (refine nw_f hS ?_; intro b w1 hS) | (refine as_i hS ?_) | (refine as_i (hS.subs (List.nil_sublist _) (by repeat (first | exact List.Sublist.refl _ | apply List.Sublist.cons_cons | apply List.Sublist.cons))) ?_) | (refine as_i (hS.subs (List.Sublist.refl _) (by repeat (first | exact List.Sublist.refl _ | apply List.Sublist.cons_cons | apply List.Sublist.cons))) ?_) | (refine bar_f hS ?_) | (refine drawf TB_ok rfl (by kernel_rfl) (by kernel_rfl) hS (List.Sublist.refl _) (List.Sublist.refl _) ?_; intro w1 hS) | (refine br_t (by assumption) ?_) | (refine br_f (by assumption) ?_))
  refine fc_m (may_c x _) ?_; rintro v w1 ⟨rfl, hS'⟩; replace hS := hS.call0 hS'
  repeat ((conv => whnf); first | (apply q_i; focus (intro w1 hS; (conv => whnf); first | exact ⟨rfl, rfl⟩)) | (refine nw_f hS ?_; intro b w1 hS) | (refine as_i hS ?_) | (refine as_i (hS.subs (List.nil_sublist _) (by repeat (first | exact List.Sublist.refl _ | apply List.Sublist.cons_cons | apply List.Sublist.cons))) ?_) | (refine as_i (hS.subs (List.Sublist.refl _) (by repeat (first | exact List.Sublist.refl _ | apply List.Sublist.cons_cons | apply List.Sublist.cons))) ?_) | (refine bar_f hS ?_) | (refine drawf TB_ok rfl (by kernel_rfl) (by kernel_rfl) hS (List.Sublist.refl _) (List.Sublist.refl _) ?_; intro w1 hS) | (refine br_t (by assumption) ?_) | (refine br_f (by assumption) ?_))
  exact ⟨by rw [Bool.not_not], hS.nil⟩
theorem enters1 : ∀ args w, (callFunc 119 args).run Tryz.prog w = .ok (.enter 119 args) w := fun args w => run_callFunc_body Tryz.func119 rfl (by kernel_rfl)
theorem has_c (l : List UInt8) (w : World) : Fc Tryz.prog 118 [.string (strY l), .func (.func 119) #[] #[]] w fun v w' => v = .bool (l.any fun c => badC c.toNat) ∧ St [] w w' [] := by
  refine fc_of_calls Tryz.func118 rfl (by kernel_rfl) ?_
  have h := Any.strings_ContainsFunc_grows laysw17 119 #[] enters1 badC (strY l) w (fun W x _ _ => by
    have := calls_of_fc Tryz.func119 rfl (by kernel_rfl) (check1_c x W)
    exact this.mono fun e w' ⟨v, he, hv, hS⟩ => ⟨by rw [he, hv], hS.below⟩)
  rw [idx_any] at h
  exact h.mono fun e w' ⟨he, hw⟩ => ⟨_, he, rfl, St.of_below' hw⟩
theorem streq_nil (s : List UInt8) : streq (strY s) ⟨#[]⟩ = s.isEmpty := by
  have := streq_strY s []
  rw [show strY [] = ⟨#[]⟩ from rfl] at this
  rw [this]
  cases s <;> simp
def bads (l : List UInt8) : Bool := l.any fun c => badC c.toNat
def checkE (l : List UInt8) : Int := if l.isEmpty || bads l then 4 else if 8 < l.length then 3 else 0
def nameB (l : List UInt8) : Bool := checkE l == 0
theorem pcheck_c (l : List UInt8) (w : World) : Fc Tryz.prog 110 [.string (strY l)] w fun v w' => v = .int .i64 (checkE l) ∧ St [] w w' [] := by
  refine fc_i TB_ok Tryz.func110 rfl (by kernel_rfl) ?_
  have hS := Sf.refl w
  have he := streq_nil l
  have hz := strY_size l
  unfold checkE
  cases hl : l.isEmpty with
  | true =>
    rw [hl] at he
    repeat ((conv => whnf); first | (apply q_i; focus (intro w1 hS; (conv => whnf); first | exact ⟨rfl, rfl⟩)) | (refine nw_f hS ?_; intro b w1 hS) | (refine as_i hS ?_) | (refine as_i (hS.subs (List.nil_sublist _) (by repeat (first | exact List.Sublist.refl _ | apply List.Sublist.cons_cons | apply List.Sublist.cons))) ?_) | (refine as_i (hS.subs (List.Sublist.refl _) (by repeat (first | exact List.Sublist.refl _ | apply List.Sublist.cons_cons | apply List.Sublist.cons))) ?_) | (refine bar_f hS ?_) | (refine drawf TB_ok rfl (by kernel_rfl) (by kernel_rfl) hS (List.Sublist.refl _) (List.Sublist.refl _) ?_; intro w1 hS) | (refine br_t (by assumption) ?_) | (refine br_f (by assumption) ?_))
    exact ⟨rfl, hS.nil⟩
  | false =>
    rw [hl] at he
    have hcall := fun w => has_c l w
    rw [show (l.any fun c => badC c.toNat) = bads l from rfl] at hcall
    cases hb : bads l with
    | true =>
      rw [hb] at hcall
      repeat ((conv => whnf); first | (apply q_i; focus (intro w1 hS; (conv => whnf); first | exact ⟨rfl, rfl⟩)) | (refine nw_f hS ?_; intro b w1 hS) | (refine as_i hS ?_) | (refine as_i (hS.subs (List.nil_sublist _) (by repeat (first | exact List.Sublist.refl _ | apply List.Sublist.cons_cons | apply List.Sublist.cons))) ?_) | (refine as_i (hS.subs (List.Sublist.refl _) (by repeat (first | exact List.Sublist.refl _ | apply List.Sublist.cons_cons | apply List.Sublist.cons))) ?_) | (refine bar_f hS ?_) | (refine drawf TB_ok rfl (by kernel_rfl) (by kernel_rfl) hS (List.Sublist.refl _) (List.Sublist.refl _) ?_; intro w1 hS) | (refine br_t (by assumption) ?_) | (refine br_f (by assumption) ?_))
      refine fc_m (hcall _) ?_; rintro v w1 ⟨rfl, hS'⟩; replace hS := hS.call0 hS'
      repeat ((conv => whnf); first | (apply q_i; focus (intro w1 hS; (conv => whnf); first | exact ⟨rfl, rfl⟩)) | (refine nw_f hS ?_; intro b w1 hS) | (refine as_i hS ?_) | (refine as_i (hS.subs (List.nil_sublist _) (by repeat (first | exact List.Sublist.refl _ | apply List.Sublist.cons_cons | apply List.Sublist.cons))) ?_) | (refine as_i (hS.subs (List.Sublist.refl _) (by repeat (first | exact List.Sublist.refl _ | apply List.Sublist.cons_cons | apply List.Sublist.cons))) ?_) | (refine bar_f hS ?_) | (refine drawf TB_ok rfl (by kernel_rfl) (by kernel_rfl) hS (List.Sublist.refl _) (List.Sublist.refl _) ?_; intro w1 hS) | (refine br_t (by assumption) ?_) | (refine br_f (by assumption) ?_))
      exact ⟨rfl, hS.nil⟩
    | false =>
      rw [hb] at hcall
      by_cases h8 : 8 < l.length
      · have g : decide ((8 : Int) < ((strY l).size : Int)) = true := decide_eq_true (by omega)
        rw [if_neg (by decide), if_pos h8]
        repeat ((conv => whnf); first | (apply q_i; focus (intro w1 hS; (conv => whnf); first | exact ⟨rfl, rfl⟩)) | (refine nw_f hS ?_; intro b w1 hS) | (refine as_i hS ?_) | (refine as_i (hS.subs (List.nil_sublist _) (by repeat (first | exact List.Sublist.refl _ | apply List.Sublist.cons_cons | apply List.Sublist.cons))) ?_) | (refine as_i (hS.subs (List.Sublist.refl _) (by repeat (first | exact List.Sublist.refl _ | apply List.Sublist.cons_cons | apply List.Sublist.cons))) ?_) | (refine bar_f hS ?_) | (refine drawf TB_ok rfl (by kernel_rfl) (by kernel_rfl) hS (List.Sublist.refl _) (List.Sublist.refl _) ?_; intro w1 hS) | (refine br_t (by assumption) ?_) | (refine br_f (by assumption) ?_))
        refine fc_m (hcall _) ?_; rintro v w1 ⟨rfl, hS'⟩; replace hS := hS.call0 hS'
        repeat ((conv => whnf); first | (apply q_i; focus (intro w1 hS; (conv => whnf); first | exact ⟨rfl, rfl⟩)) | (refine nw_f hS ?_; intro b w1 hS) | (refine as_i hS ?_) | (refine as_i (hS.subs (List.nil_sublist _) (by repeat (first | exact List.Sublist.refl _ | apply List.Sublist.cons_cons | apply List.Sublist.cons))) ?_) | (refine as_i (hS.subs (List.Sublist.refl _) (by repeat (first | exact List.Sublist.refl _ | apply List.Sublist.cons_cons | apply List.Sublist.cons))) ?_) | (refine bar_f hS ?_) | (refine drawf TB_ok rfl (by kernel_rfl) (by kernel_rfl) hS (List.Sublist.refl _) (List.Sublist.refl _) ?_; intro w1 hS) | (refine br_t (by assumption) ?_) | (refine br_f (by assumption) ?_))
        exact ⟨rfl, hS.nil⟩
      · have g : decide ((8 : Int) < ((strY l).size : Int)) = false := decide_eq_false (by omega)
        rw [if_neg (by decide), if_neg h8]
        repeat ((conv => whnf); first | (apply q_i; focus (intro w1 hS; (conv => whnf); first | exact ⟨rfl, rfl⟩)) | (refine nw_f hS ?_; intro b w1 hS) | (refine as_i hS ?_) | (refine as_i (hS.subs (List.nil_sublist _) (by repeat (first | exact List.Sublist.refl _ | apply List.Sublist.cons_cons | apply List.Sublist.cons))) ?_) | (refine as_i (hS.subs (List.Sublist.refl _) (by repeat (first | exact List.Sublist.refl _ | apply List.Sublist.cons_cons | apply List.Sublist.cons))) ?_) | (refine bar_f hS ?_) | (refine drawf TB_ok rfl (by kernel_rfl) (by kernel_rfl) hS (List.Sublist.refl _) (List.Sublist.refl _) ?_; intro w1 hS) | (refine br_t (by assumption) ?_) | (refine br_f (by assumption) ?_))
        refine fc_m (hcall _) ?_; rintro v w1 ⟨rfl, hS'⟩; replace hS := hS.call0 hS'
        repeat ((conv => whnf); first | (apply q_i; focus (intro w1 hS; (conv => whnf); first | exact ⟨rfl, rfl⟩)) | (refine nw_f hS ?_; intro b w1 hS) | (refine as_i hS ?_) | (refine as_i (hS.subs (List.nil_sublist _) (by repeat (first | exact List.Sublist.refl _ | apply List.Sublist.cons_cons | apply List.Sublist.cons))) ?_) | (refine as_i (hS.subs (List.Sublist.refl _) (by repeat (first | exact List.Sublist.refl _ | apply List.Sublist.cons_cons | apply List.Sublist.cons))) ?_) | (refine bar_f hS ?_) | (refine drawf TB_ok rfl (by kernel_rfl) (by kernel_rfl) hS (List.Sublist.refl _) (List.Sublist.refl _) ?_; intro w1 hS) | (refine br_t (by assumption) ?_) | (refine br_f (by assumption) ?_))
        exact ⟨rfl, hS.nil⟩
def rightB (r n : Int) : Bool := decide (r < 8) && (decide (1 ≤ n) && decide (n ≤ 65535))
def confT (name : List UInt8) (r n : Int) : List UInt8 := if nameB name && rightB r n then name ++ [126] ++ Lib.itoa r ++ [46] ++ Lib.itoa n else []
theorem itoa_len {n : Int} (h0 : 0 ≤ n) (h1 : n ≤ 65535) : (Lib.itoa n).length ≤ 65535 + 1 := by
  rw [Lib.itoa, if_neg (by omega)]
  have : ∀ k u : Nat, u ≤ k → (Lib.decDigits u).length ≤ u + 1 := by
    intro k
    induction k with
    | zero =>
      intro u hu
      rw [Lib.decDigits, dif_pos (by omega)]
      simp
    | succ k ih =>
      intro u hu
      rw [Lib.decDigits]
      split
      · simp
      · have := ih (u / 10) (by omega)
        simp only [List.length_append, List.length_singleton]
        omega
  have := this _ n.toNat (Nat.le_refl _)
  omega
end Go.RV.C04
