/- Contracts of functions of chapter 4: names, conflict names. Conditions: none. -/
import Derived.Test.YtdlmjbnggahpjaaDoorS1
import Derived.Test.YtdlmjbnggahpjaaDoorRvX
import Derived.Test.YtdlmjbnggahpjaaDoorRvU
import Derived.Test.YtdlmjbnggahpjaaDoorRvR
import Derived.Test.YtdlmjbnggahpjaaDoorRvY
import Derived.Lib.DecodeN
set_option maxRecDepth 20000
set_option linter.unusedVariables false
set_option linter.unusedSimpArgs false
namespace Go.RV
open Go Go.Proofs Go.RowKit

def dotV (r n : Int) : Value := .agg #[.int .u8 r, .int .u32 n]
/-- a number's last byte -/
def yI (x : Int) : UInt8 := UInt8.ofNat (x % 256).toNat
theorem yI_val (x : Int) : (((yI x).toNat : Nat) : Int) = x % 256 := by
  unfold yI
  rw [UInt8.toNat_ofNat']
  have h1 : 0 ≤ x % 256 := Int.emod_nonneg _ (by decide)
  have h2 : x % 256 < 256 := Int.emod_lt_of_pos _ (by decide)
  have h3 : (x % 256).toNat % 2 ^ 8 = (x % 256).toNat := Nat.mod_eq_of_lt (by omega)
  rw [h3]
  omega
theorem u8v (x : Int) : [Value.int .u8 (IntKind.u8.wrap x)] = flat encY [yI x] := by
  show _ = [Value.int .u8 (((yI x).toNat : Nat) : Int)]
  rw [yI_val, wrap_u8_mod]
theorem byteAt_strY {l : List UInt8} {i : Nat} (h : i < l.length) : byteAt (strY l) i = (l[i].toNat : Int) := by
  unfold byteAt strY
  simp [h]
theorem strY_extract (l : List UInt8) (a b : Nat) : (strY l).extract a b = strY ((l.take b).drop a) := by
  apply ByteArray.ext
  simp [strY, List.drop_take]
theorem streq_strY (a b : List UInt8) : streq (strY a) (strY b) = decide (a = b) := by
  unfold streq
  rw [ByteArray.toList_eq, ByteArray.toList_eq]
  show ((⟨a.toArray⟩ : ByteArray).data.toList == (⟨b.toArray⟩ : ByteArray).data.toList) = _
  rw [Bool.eq_iff_iff]
  simp
def badC (n : Nat) : Bool := decide (n < 33) || (decide (125 < n) || n == 47)
theorem get_strY {l : List UInt8} {i : Nat} (h : i < l.length) : (strY l).get! i = l[i] := by
  have : i < l.toArray.size := by simpa using h
  show l.toArray[i]! = l[i]
  simp [h]
theorem decodeN_hi {n b0 b1 b2 b3 : Nat} (h : ¬ b0 < 128) : 128 ≤ (Lib.decodeN n b0 b1 b2 b3).1 := by
  unfold Lib.decodeN
  rw [if_neg h]
  repeat' split
  all_goals (simp only; omega)
theorem idx_bad (l : List UInt8) : ∀ (f pos : Nat), l.length - pos ≤ f → (0 ≤ Lib.idxFuncFrom badC true (strY l) f pos ↔ ∃ j, ∃ h : j < l.length, pos ≤ j ∧ badC l[j].toNat = true)
  | 0, pos, hf => by
    unfold Lib.idxFuncFrom
    constructor
    · intro h; omega
    · rintro ⟨j, hj, h1, _⟩; omega
  | f+1, pos, hf => by
    unfold Lib.idxFuncFrom
    have hsz := strY_size l
    by_cases hp : pos < l.length
    · rw [if_pos (by omega), Lib.decode_at, get_strY hp]
      by_cases hb : l[pos].toNat < 128
      · rw [show Lib.decodeN ((strY l).size - pos) l[pos].toNat ((strY l).get! (pos + 1)).toNat ((strY l).get! (pos + 2)).toNat ((strY l).get! (pos + 3)).toNat = (l[pos].toNat, 1) from by unfold Lib.decodeN; rw [if_pos hb]]
        simp only
        by_cases hq : badC l[pos].toNat = true
        · rw [if_pos hq]
          exact ⟨fun _ => ⟨pos, hp, Nat.le_refl _, hq⟩, fun _ => by omega⟩
        · rw [if_neg hq, idx_bad l f (pos + 1) (by omega)]
          constructor
          · rintro ⟨j, hj, h1, h2⟩; exact ⟨j, hj, by omega, h2⟩
          · rintro ⟨j, hj, h1, h2⟩
            refine ⟨j, hj, ?_, h2⟩
            by_cases e : j = pos
            · subst e; exact absurd h2 hq
            · omega
      · have hi := decodeN_hi (n := (strY l).size - pos) (b1 := ((strY l).get! (pos + 1)).toNat) (b2 := ((strY l).get! (pos + 2)).toNat) (b3 := ((strY l).get! (pos + 3)).toNat) hb
        rw [if_pos (by unfold badC; simp; omega)]
        exact ⟨fun _ => ⟨pos, hp, Nat.le_refl _, by unfold badC; simp; omega⟩, fun _ => by omega⟩
    · rw [if_neg (by omega)]
      constructor
      · intro h; omega
      · rintro ⟨j, hj, h1, _⟩; omega
theorem idx_any (l : List UInt8) : decide (0 ≤ Lib.idxFunc badC true (strY l)) = l.any fun c => badC c.toNat := by
  rw [Bool.eq_iff_iff, decide_eq_true_iff, Lib.idxFunc, idx_bad l _ 0 (by rw [strY_size]; omega), List.any_eq_true]
  constructor
  · rintro ⟨j, hj, _, h⟩; exact ⟨_, List.getElem_mem hj, h⟩
  · rintro ⟨c, hc, h⟩
    obtain ⟨j, hj, rfl⟩ := List.getElem_of_mem hc
    exact ⟨j, hj, Nat.zero_le _, h⟩
theorem may_c (x : Nat) (w : World) : Fc Tryd.prog 67 [.int .i32 (x : Int)] w fun v w' => v = .bool (!badC x) ∧ St [] w w' [] := by
  refine fc_i TB_ok Tryd.func67 rfl (by kernel_rfl) ?_
  have hS := Sf.refl w
  by_cases h1 : x < 33
  · have g1 : decide ((33 : Int) ≤ (x : Int)) = false := decide_eq_false (by omega)
    have e : badC x = true := by unfold badC; simp [h1]
    rw [e]
    repeat ((conv => whnf); first | (apply q_i; focus (intro w1 hS; (conv => whnf); first | exact ⟨rfl, rfl⟩)) | (refine nw_f hS ?_; intro b w1 hS) | (refine as_i hS ?_) | (refine as_i (hS.subs (List.nil_sublist _) (by repeat (first | exact List.Sublist.refl _ | apply List.Sublist.cons_cons | apply List.Sublist.cons))) ?_) | (refine as_i (hS.subs (List.Sublist.refl _) (by repeat (first | exact List.Sublist.refl _ | apply List.Sublist.cons_cons | apply List.Sublist.cons))) ?_) | (refine bar_f hS ?_) | (refine drawf TB_ok rfl (by kernel_rfl) (by kernel_rfl) hS (List.Sublist.refl _) (List.Sublist.refl _) ?_; intro w1 hS) | (refine br_t (by assumption) ?_) | (refine br_f (by assumption) ?_))
    exact ⟨rfl, hS.nil⟩
  have g1 : decide ((33 : Int) ≤ (x : Int)) = true := decide_eq_true (by omega)
  by_cases h2 : x < 126
  · have g2 : decide ((x : Int) < 126) = true := decide_eq_true (by omega)
    by_cases h3 : x = 47
    · subst h3
      repeat ((conv => whnf); first | (apply q_i; focus (intro w1 hS; (conv => whnf); first | exact ⟨rfl, rfl⟩)) | (refine nw_f hS ?_; intro b w1 hS) | (refine as_i hS ?_) | (refine as_i (hS.subs (List.nil_sublist _) (by repeat (first | exact List.Sublist.refl _ | apply List.Sublist.cons_cons | apply List.Sublist.cons))) ?_) | (refine as_i (hS.subs (List.Sublist.refl _) (by repeat (first | exact List.Sublist.refl _ | apply List.Sublist.cons_cons | apply List.Sublist.cons))) ?_) | (refine bar_f hS ?_) | (refine drawf TB_ok rfl (by kernel_rfl) (by kernel_rfl) hS (List.Sublist.refl _) (List.Sublist.refl _) ?_; intro w1 hS) | (refine br_t (by assumption) ?_) | (refine br_f (by assumption) ?_))
      exact ⟨rfl, hS.nil⟩
    · have g3 : ((x : Int) != 47) = true := by simp; omega
      have e : badC x = false := by unfold badC; simp; omega
      rw [e]
      repeat ((conv => whnf); first | (apply q_i; focus (intro w1 hS; (conv => whnf); first | exact ⟨rfl, rfl⟩)) | (refine nw_f hS ?_; intro b w1 hS) | (refine as_i hS ?_) | (refine as_i (hS.subs (List.nil_sublist _) (by repeat (first | exact List.Sublist.refl _ | apply List.Sublist.cons_cons | apply List.Sublist.cons))) ?_) | (refine as_i (hS.subs (List.Sublist.refl _) (by repeat (first | exact List.Sublist.refl _ | apply List.Sublist.cons_cons | apply List.Sublist.cons))) ?_) | (refine bar_f hS ?_) | (refine drawf TB_ok rfl (by kernel_rfl) (by kernel_rfl) hS (List.Sublist.refl _) (List.Sublist.refl _) ?_; intro w1 hS) | (refine br_t (by assumption) ?_) | (refine br_f (by assumption) ?_))
      exact ⟨congrArg Value.bool g3, hS.nil⟩
  · have g2 : decide ((x : Int) < 126) = false := decide_eq_false (by omega)
    have e : badC x = true := by unfold badC; simp; omega
    rw [e]
    repeat ((conv => whnf); first | (apply q_i; focus (intro w1 hS; (conv => whnf); first | exact ⟨rfl, rfl⟩)) | (refine nw_f hS ?_; intro b w1 hS) | (refine as_i hS ?_) | (refine as_i (hS.subs (List.nil_sublist _) (by repeat (first | exact List.Sublist.refl _ | apply List.Sublist.cons_cons | apply List.Sublist.cons))) ?_) | (refine as_i (hS.subs (List.Sublist.refl _) (by repeat (first | exact List.Sublist.refl _ | apply List.Sublist.cons_cons | apply List.Sublist.cons))) ?_) | (refine bar_f hS ?_) | (refine drawf TB_ok rfl (by kernel_rfl) (by kernel_rfl) hS (List.Sublist.refl _) (List.Sublist.refl _) ?_; intro w1 hS) | (refine br_t (by assumption) ?_) | (refine br_f (by assumption) ?_))
    exact ⟨rfl, hS.nil⟩
theorem check1_c (x : Nat) (w : World) : Fc Tryd.prog 66 [.int .i32 (x : Int)] w fun v w' => v = .bool (badC x) ∧ St [] w w' [] := by
  refine fc_i TB_ok Tryd.func66 rfl (by kernel_rfl) ?_
  have hS := Sf.refl w
  repeat ((conv => whnf); first | (apply q_i; focus (intro w1 hS; (conv => whnf); first | exact ⟨rfl, rfl⟩)) | (refine nw_f hS ?_; intro b w1 hS) | (refine as_i hS ?_) | (refine as_i (hS.subs (List.nil_sublist _) (by repeat (first | exact List.Sublist.refl _ | apply List.Sublist.cons_cons | apply List.Sublist.cons))) ?_) | (refine as_i (hS.subs (List.Sublist.refl _) (by repeat (first | exact List.Sublist.refl _ | apply List.Sublist.cons_cons | apply List.Sublist.cons))) ?_) | (refine bar_f hS ?_) | (refine drawf TB_ok rfl (by kernel_rfl) (by kernel_rfl) hS (List.Sublist.refl _) (List.Sublist.refl _) ?_; intro w1 hS) | (refine br_t (by assumption) ?_) | (refine br_f (by assumption) ?_))
  refine fc_m (may_c x _) ?_; rintro v w1 ⟨rfl, hS'⟩; replace hS := hS.call0 hS'
  repeat ((conv => whnf); first | (apply q_i; focus (intro w1 hS; (conv => whnf); first | exact ⟨rfl, rfl⟩)) | (refine nw_f hS ?_; intro b w1 hS) | (refine as_i hS ?_) | (refine as_i (hS.subs (List.nil_sublist _) (by repeat (first | exact List.Sublist.refl _ | apply List.Sublist.cons_cons | apply List.Sublist.cons))) ?_) | (refine as_i (hS.subs (List.Sublist.refl _) (by repeat (first | exact List.Sublist.refl _ | apply List.Sublist.cons_cons | apply List.Sublist.cons))) ?_) | (refine bar_f hS ?_) | (refine drawf TB_ok rfl (by kernel_rfl) (by kernel_rfl) hS (List.Sublist.refl _) (List.Sublist.refl _) ?_; intro w1 hS) | (refine br_t (by assumption) ?_) | (refine br_f (by assumption) ?_))
  exact ⟨by rw [Bool.not_not], hS.nil⟩
theorem enters1 : ∀ args w, (callFunc 66 args).run Tryd.prog w = .ok (.enter 66 args) w := fun args w => run_callFunc_body Tryd.func66 rfl (by kernel_rfl)
theorem has_c (l : List UInt8) (w : World) : Fc Tryd.prog 65 [.string (strY l), .func (.func 66) #[] #[]] w fun v w' => v = .bool (l.any fun c => badC c.toNat) ∧ St [] w w' [] := by
  refine fc_of_calls Tryd.func65 rfl (by kernel_rfl) ?_
  have h := Any.strings_ContainsFunc_grows laysw17 66 #[] enters1 badC (strY l) w (fun W x _ _ => by
    have := calls_of_fc Tryd.func66 rfl (by kernel_rfl) (check1_c x W)
    exact this.mono fun e w' ⟨v, he, hv, hS⟩ => ⟨by rw [he, hv], hS.below⟩)
  rw [idx_any] at h
  exact h.mono fun e w' ⟨he, hw⟩ => ⟨_, he, rfl, St.of_below' hw⟩
theorem streq_nil (s : List UInt8) : streq (strY s) ⟨#[]⟩ = s.isEmpty := by
  have := streq_strY s []
  rw [show strY [] = ⟨#[]⟩ from rfl] at this
  rw [this]
  cases s <;> simp
def bads (l : List UInt8) : Bool := l.any fun c => badC c.toNat
def checkE (l : List UInt8) : Int := if l.isEmpty || bads l then 4 else if 8 < l.length then 3 else 0
def nameB (l : List UInt8) : Bool := checkE l == 0
theorem pcheck_c (l : List UInt8) (w : World) : Fc Tryd.prog 46 [.string (strY l)] w fun v w' => v = .int .i64 (checkE l) ∧ St [] w w' [] := by
  refine fc_i TB_ok Tryd.func46 rfl (by kernel_rfl) ?_
  have hS := Sf.refl w
  have he := streq_nil l
  have hz := strY_size l
  unfold checkE
  cases hl : l.isEmpty with
  | true =>
    rw [hl] at he
    repeat ((conv => whnf); first | (apply q_i; focus (intro w1 hS; (conv => whnf); first | exact ⟨rfl, rfl⟩)) | (refine nw_f hS ?_; intro b w1 hS) | (refine as_i hS ?_) | (refine as_i (hS.subs (List.nil_sublist _) (by repeat (first | exact List.Sublist.refl _ | apply List.Sublist.cons_cons | apply List.Sublist.cons))) ?_) | (refine as_i (hS.subs (List.Sublist.refl _) (by repeat (first | exact List.Sublist.refl _ | apply List.Sublist.cons_cons | apply List.Sublist.cons))) ?_) | (refine bar_f hS ?_) | (refine drawf TB_ok rfl (by kernel_rfl) (by kernel_rfl) hS (List.Sublist.refl _) (List.Sublist.refl _) ?_; intro w1 hS) | (refine br_t (by assumption) ?_) | (refine br_f (by assumption) ?_))
    exact ⟨rfl, hS.nil⟩
  | false =>
    rw [hl] at he
    have hcall := fun w => has_c l w
    rw [show (l.any fun c => badC c.toNat) = bads l from rfl] at hcall
    cases hb : bads l with
    | true =>
      rw [hb] at hcall
      repeat ((conv => whnf); first | (apply q_i; focus (intro w1 hS; (conv => whnf); first | exact ⟨rfl, rfl⟩)) | (refine nw_f hS ?_; intro b w1 hS) | (refine as_i hS ?_) | (refine as_i (hS.subs (List.nil_sublist _) (by repeat (first | exact List.Sublist.refl _ | apply List.Sublist.cons_cons | apply List.Sublist.cons))) ?_) | (refine as_i (hS.subs (List.Sublist.refl _) (by repeat (first | exact List.Sublist.refl _ | apply List.Sublist.cons_cons | apply List.Sublist.cons))) ?_) | (refine bar_f hS ?_) | (refine drawf TB_ok rfl (by kernel_rfl) (by kernel_rfl) hS (List.Sublist.refl _) (List.Sublist.refl _) ?_; intro w1 hS) | (refine br_t (by assumption) ?_) | (refine br_f (by assumption) ?_))
      refine fc_m (hcall _) ?_; rintro v w1 ⟨rfl, hS'⟩; replace hS := hS.call0 hS'
      repeat ((conv => whnf); first | (apply q_i; focus (intro w1 hS; (conv => whnf); first | exact ⟨rfl, rfl⟩)) | (refine nw_f hS ?_; intro b w1 hS) | (refine as_i hS ?_) | (refine as_i (hS.subs (List.nil_sublist _) (by repeat (first | exact List.Sublist.refl _ | apply List.Sublist.cons_cons | apply List.Sublist.cons))) ?_) | (refine as_i (hS.subs (List.Sublist.refl _) (by repeat (first | exact List.Sublist.refl _ | apply List.Sublist.cons_cons | apply List.Sublist.cons))) ?_) | (refine bar_f hS ?_) | (refine drawf TB_ok rfl (by kernel_rfl) (by kernel_rfl) hS (List.Sublist.refl _) (List.Sublist.refl _) ?_; intro w1 hS) | (refine br_t (by assumption) ?_) | (refine br_f (by assumption) ?_))
      exact ⟨rfl, hS.nil⟩
    | false =>
      rw [hb] at hcall
      by_cases h8 : 8 < l.length
      · have g : decide ((8 : Int) < ((strY l).size : Int)) = true := decide_eq_true (by omega)
        rw [if_neg (by decide), if_pos h8]
        repeat ((conv => whnf); first | (apply q_i; focus (intro w1 hS; (conv => whnf); first | exact ⟨rfl, rfl⟩)) | (refine nw_f hS ?_; intro b w1 hS) | (refine as_i hS ?_) | (refine as_i (hS.subs (List.nil_sublist _) (by repeat (first | exact List.Sublist.refl _ | apply List.Sublist.cons_cons | apply List.Sublist.cons))) ?_) | (refine as_i (hS.subs (List.Sublist.refl _) (by repeat (first | exact List.Sublist.refl _ | apply List.Sublist.cons_cons | apply List.Sublist.cons))) ?_) | (refine bar_f hS ?_) | (refine drawf TB_ok rfl (by kernel_rfl) (by kernel_rfl) hS (List.Sublist.refl _) (List.Sublist.refl _) ?_; intro w1 hS) | (refine br_t (by assumption) ?_) | (refine br_f (by assumption) ?_))
        refine fc_m (hcall _) ?_; rintro v w1 ⟨rfl, hS'⟩; replace hS := hS.call0 hS'
        repeat ((conv => whnf); first | (apply q_i; focus (intro w1 hS; (conv => whnf); first | exact ⟨rfl, rfl⟩)) | (refine nw_f hS ?_; intro b w1 hS) | (refine as_i hS ?_) | (refine as_i (hS.subs (List.nil_sublist _) (by repeat (first | exact List.Sublist.refl _ | apply List.Sublist.cons_cons | apply List.Sublist.cons))) ?_) | (refine as_i (hS.subs (List.Sublist.refl _) (by repeat (first | exact List.Sublist.refl _ | apply List.Sublist.cons_cons | apply List.Sublist.cons))) ?_) | (refine bar_f hS ?_) | (refine drawf TB_ok rfl (by kernel_rfl) (by kernel_rfl) hS (List.Sublist.refl _) (List.Sublist.refl _) ?_; intro w1 hS) | (refine br_t (by assumption) ?_) | (refine br_f (by assumption) ?_))
        exact ⟨rfl, hS.nil⟩
      · have g : decide ((8 : Int) < ((strY l).size : Int)) = false := decide_eq_false (by omega)
        rw [if_neg (by decide), if_neg h8]
        repeat ((conv => whnf); first | (apply q_i; focus (intro w1 hS; (conv => whnf); first | exact ⟨rfl, rfl⟩)) | (refine nw_f hS ?_; intro b w1 hS) | (refine as_i hS ?_) | (refine as_i (hS.subs (List.nil_sublist _) (by repeat (first | exact List.Sublist.refl _ | apply List.Sublist.cons_cons | apply List.Sublist.cons))) ?_) | (refine as_i (hS.subs (List.Sublist.refl _) (by repeat (first | exact List.Sublist.refl _ | apply List.Sublist.cons_cons | apply List.Sublist.cons))) ?_) | (refine bar_f hS ?_) | (refine drawf TB_ok rfl (by kernel_rfl) (by kernel_rfl) hS (List.Sublist.refl _) (List.Sublist.refl _) ?_; intro w1 hS) | (refine br_t (by assumption) ?_) | (refine br_f (by assumption) ?_))
        refine fc_m (hcall _) ?_; rintro v w1 ⟨rfl, hS'⟩; replace hS := hS.call0 hS'
        repeat ((conv => whnf); first | (apply q_i; focus (intro w1 hS; (conv => whnf); first | exact ⟨rfl, rfl⟩)) | (refine nw_f hS ?_; intro b w1 hS) | (refine as_i hS ?_) | (refine as_i (hS.subs (List.nil_sublist _) (by repeat (first | exact List.Sublist.refl _ | apply List.Sublist.cons_cons | apply List.Sublist.cons))) ?_) | (refine as_i (hS.subs (List.Sublist.refl _) (by repeat (first | exact List.Sublist.refl _ | apply List.Sublist.cons_cons | apply List.Sublist.cons))) ?_) | (refine bar_f hS ?_) | (refine drawf TB_ok rfl (by kernel_rfl) (by kernel_rfl) hS (List.Sublist.refl _) (List.Sublist.refl _) ?_; intro w1 hS) | (refine br_t (by assumption) ?_) | (refine br_f (by assumption) ?_))
        exact ⟨rfl, hS.nil⟩
theorem pname_c (l : List UInt8) (w : World) : Fc Tryd.prog 18 [.string (strY l)] w fun v w' => v = .bool (nameB l) ∧ St [] w w' [] := by
  refine fc_i TB_ok Tryd.func18 rfl (by kernel_rfl) ?_
  have hS := Sf.refl w
  repeat ((conv => whnf); first | (apply q_i; focus (intro w1 hS; (conv => whnf); first | exact ⟨rfl, rfl⟩)) | (refine nw_f hS ?_; intro b w1 hS) | (refine as_i hS ?_) | (refine as_i (hS.subs (List.nil_sublist _) (by repeat (first | exact List.Sublist.refl _ | apply List.Sublist.cons_cons | apply List.Sublist.cons))) ?_) | (refine as_i (hS.subs (List.Sublist.refl _) (by repeat (first | exact List.Sublist.refl _ | apply List.Sublist.cons_cons | apply List.Sublist.cons))) ?_) | (refine bar_f hS ?_) | (refine drawf TB_ok rfl (by kernel_rfl) (by kernel_rfl) hS (List.Sublist.refl _) (List.Sublist.refl _) ?_; intro w1 hS) | (refine br_t (by assumption) ?_) | (refine br_f (by assumption) ?_))
  refine fc_m (pcheck_c l _) ?_; rintro v w1 ⟨rfl, hS'⟩; replace hS := hS.call0 hS'
  repeat ((conv => whnf); first | (apply q_i; focus (intro w1 hS; (conv => whnf); first | exact ⟨rfl, rfl⟩)) | (refine nw_f hS ?_; intro b w1 hS) | (refine as_i hS ?_) | (refine as_i (hS.subs (List.nil_sublist _) (by repeat (first | exact List.Sublist.refl _ | apply List.Sublist.cons_cons | apply List.Sublist.cons))) ?_) | (refine as_i (hS.subs (List.Sublist.refl _) (by repeat (first | exact List.Sublist.refl _ | apply List.Sublist.cons_cons | apply List.Sublist.cons))) ?_) | (refine bar_f hS ?_) | (refine drawf TB_ok rfl (by kernel_rfl) (by kernel_rfl) hS (List.Sublist.refl _) (List.Sublist.refl _) ?_; intro w1 hS) | (refine br_t (by assumption) ?_) | (refine br_f (by assumption) ?_))
  exact ⟨rfl, hS.nil⟩
def rightB (r n : Int) : Bool := decide (r < 8) && (decide (1 ≤ n) && decide (n ≤ 65535))
theorem right_c (r n : Int) (w : World) : Fc Tryd.prog 45 [dotV r n] w fun v w' => v = .bool (rightB r n) ∧ St [] w w' [] := by
  refine fc_i TB_ok Tryd.func45 rfl (by kernel_rfl) ?_
  have hS := Sf.refl w
  unfold rightB
  cases h1 : decide (r < 8) with
  | false =>
    repeat ((conv => whnf); first | (apply q_i; focus (intro w1 hS; (conv => whnf); first | exact ⟨rfl, rfl⟩ | ((refine ld_f hS 0 rfl rfl ?_); (conv => whnf); exact ⟨rfl, rfl⟩) | ((refine ldA_f hS 0 rfl rfl ?_); (conv => whnf); exact ⟨rfl, rfl⟩))) | (refine nw_f hS ?_; intro b w1 hS) | (refine as_i hS ?_) | (refine as_i (hS.subs (List.nil_sublist _) (by repeat (first | exact List.Sublist.refl _ | apply List.Sublist.cons_cons | apply List.Sublist.cons))) ?_) | (refine as_i (hS.subs (List.Sublist.refl _) (by repeat (first | exact List.Sublist.refl _ | apply List.Sublist.cons_cons | apply List.Sublist.cons))) ?_) | (refine bar_f hS ?_) | (refine ld_f hS 0 rfl rfl ?_) | (refine ldA_f hS 0 rfl rfl ?_) | (refine stN_f hS 0 rfl (Nat.le_of_ble_eq_true rfl) rfl rfl ?_; (conv => whnf); intro w1 hS) | (refine stM_f hS 0 rfl (Nat.le_of_ble_eq_true rfl) rfl ?_; (conv => whnf); intro w1 hS) | (refine drawf TB_ok rfl (by kernel_rfl) (by kernel_rfl) hS (List.Sublist.refl _) (List.Sublist.refl _) ?_; intro w1 hS) | (refine br_t (by assumption) ?_) | (refine br_f (by assumption) ?_))
    exact ⟨rfl, hS.nil⟩
  | true =>
    cases h2 : decide (1 ≤ n) with
    | false =>
      repeat ((conv => whnf); first | (apply q_i; focus (intro w1 hS; (conv => whnf); first | exact ⟨rfl, rfl⟩ | ((refine ld_f hS 0 rfl rfl ?_); (conv => whnf); exact ⟨rfl, rfl⟩) | ((refine ldA_f hS 0 rfl rfl ?_); (conv => whnf); exact ⟨rfl, rfl⟩))) | (refine nw_f hS ?_; intro b w1 hS) | (refine as_i hS ?_) | (refine as_i (hS.subs (List.nil_sublist _) (by repeat (first | exact List.Sublist.refl _ | apply List.Sublist.cons_cons | apply List.Sublist.cons))) ?_) | (refine as_i (hS.subs (List.Sublist.refl _) (by repeat (first | exact List.Sublist.refl _ | apply List.Sublist.cons_cons | apply List.Sublist.cons))) ?_) | (refine bar_f hS ?_) | (refine ld_f hS 0 rfl rfl ?_) | (refine ldA_f hS 0 rfl rfl ?_) | (refine stN_f hS 0 rfl (Nat.le_of_ble_eq_true rfl) rfl rfl ?_; (conv => whnf); intro w1 hS) | (refine stM_f hS 0 rfl (Nat.le_of_ble_eq_true rfl) rfl ?_; (conv => whnf); intro w1 hS) | (refine drawf TB_ok rfl (by kernel_rfl) (by kernel_rfl) hS (List.Sublist.refl _) (List.Sublist.refl _) ?_; intro w1 hS) | (refine br_t (by assumption) ?_) | (refine br_f (by assumption) ?_))
      exact ⟨rfl, hS.nil⟩
    | true =>
      repeat ((conv => whnf); first | (apply q_i; focus (intro w1 hS; (conv => whnf); first | exact ⟨rfl, rfl⟩ | ((refine ld_f hS 0 rfl rfl ?_); (conv => whnf); exact ⟨rfl, rfl⟩) | ((refine ldA_f hS 0 rfl rfl ?_); (conv => whnf); exact ⟨rfl, rfl⟩))) | (refine nw_f hS ?_; intro b w1 hS) | (refine as_i hS ?_) | (refine as_i (hS.subs (List.nil_sublist _) (by repeat (first | exact List.Sublist.refl _ | apply List.Sublist.cons_cons | apply List.Sublist.cons))) ?_) | (refine as_i (hS.subs (List.Sublist.refl _) (by repeat (first | exact List.Sublist.refl _ | apply List.Sublist.cons_cons | apply List.Sublist.cons))) ?_) | (refine bar_f hS ?_) | (refine ld_f hS 0 rfl rfl ?_) | (refine ldA_f hS 0 rfl rfl ?_) | (refine stN_f hS 0 rfl (Nat.le_of_ble_eq_true rfl) rfl rfl ?_; (conv => whnf); intro w1 hS) | (refine stM_f hS 0 rfl (Nat.le_of_ble_eq_true rfl) rfl ?_; (conv => whnf); intro w1 hS) | (refine drawf TB_ok rfl (by kernel_rfl) (by kernel_rfl) hS (List.Sublist.refl _) (List.Sublist.refl _) ?_; intro w1 hS) | (refine br_t (by assumption) ?_) | (refine br_f (by assumption) ?_))
      exact ⟨rfl, hS.nil⟩
/-- the digits of a number are told, wherever nothing that lay in w has turned -/
def Digs (w : World) (n : Int) : Prop := ∀ w', St [] w w' [] → Fc Tryd.prog 47 [.int .i64 n] w' fun v w'' => v = .string (strY (Lib.itoa n)) ∧ St [] w' w'' []
theorem Digs.below {w w' : World} {n : Int} (h : Digs w n) (hS : St [] w w' []) : Digs w' n := fun w'' h' => h w'' (hS.call0 h')
theorem digs_small (w : World) (i : Nat) (hi : i < 100) : Digs w i := fun w' _ => by
  refine fc_of_calls Tryd.func47 rfl (by kernel_rfl) ?_
  have h := Any.strconv_Itoa_small (P := Tryd.prog) (ρ := ren171) { lays171 with } i hi w'
  refine h.mono fun e w'' ⟨he, hw⟩ => ⟨_, he, ?_, hw ▸ St.refl _⟩
  rw [Lib.itoa, if_neg (by omega), Int.toNat_natCast]
  rfl
def confT (name : List UInt8) (r n : Int) : List UInt8 := if nameB name && rightB r n then name ++ [126] ++ Lib.itoa r ++ [46] ++ Lib.itoa n else []
theorem itoa_len {n : Int} (h0 : 0 ≤ n) (h1 : n ≤ 65535) : (Lib.itoa n).length ≤ 65535 + 1 := by
  rw [Lib.itoa, if_neg (by omega)]
  have : ∀ k u : Nat, u ≤ k → (Lib.decDigits u).length ≤ u + 1 := by
    intro k
    induction k with
    | zero =>
      intro u hu
      rw [Lib.decDigits, dif_pos (by omega)]
      simp
    | succ k ih =>
      intro u hu
      rw [Lib.decDigits]
      split
      · simp
      · have := ih (u / 10) (by omega)
        simp only [List.length_append, List.length_singleton]
        omega
  have := this _ n.toNat (Nat.le_refl _)
  omega
theorem conflict_c (name : List UInt8) (hnm : name.length ≤ 1073741824) (r n : Int) (hr : 0 ≤ r ∧ r ≤ 255) (hn : 0 ≤ n ∧ n ≤ 4294967295) (w : World) (hdr : rightB r n = true → Digs w r ∧ Digs w n) :
    Fc Tryd.prog 20 [.string (strY name), dotV r n] w fun v w' => v = .tuple #[.string (strY (confT name r n)), .int .i64 (if nameB name && rightB r n then 0 else 4)] ∧ St [] w w' [] := by
  refine fc_i TB_ok Tryd.func20 rfl (by kernel_rfl) ?_
  have hS := Sf.refl w
  unfold confT
  cases h1 : nameB name with
  | false =>
    have hc := fun w => pname_c name w
    rw [h1] at hc
    repeat ((conv => whnf); first | (apply q_i; focus (intro w1 hS; (conv => whnf); first | exact ⟨rfl, rfl⟩ | ((refine ld_f hS 0 rfl rfl ?_); (conv => whnf); exact ⟨rfl, rfl⟩) | ((refine ldA_f hS 0 rfl rfl ?_); (conv => whnf); exact ⟨rfl, rfl⟩))) | (refine nw_f hS ?_; intro b w1 hS) | (refine as_i hS ?_) | (refine as_i (hS.subs (List.nil_sublist _) (by repeat (first | exact List.Sublist.refl _ | apply List.Sublist.cons_cons | apply List.Sublist.cons))) ?_) | (refine as_i (hS.subs (List.Sublist.refl _) (by repeat (first | exact List.Sublist.refl _ | apply List.Sublist.cons_cons | apply List.Sublist.cons))) ?_) | (refine bar_f hS ?_) | (refine ld_f hS 0 rfl rfl ?_) | (refine ldA_f hS 0 rfl rfl ?_) | (refine stN_f hS 0 rfl (Nat.le_of_ble_eq_true rfl) rfl rfl ?_; (conv => whnf); intro w1 hS) | (refine stM_f hS 0 rfl (Nat.le_of_ble_eq_true rfl) rfl ?_; (conv => whnf); intro w1 hS) | (refine drawf TB_ok rfl (by kernel_rfl) (by kernel_rfl) hS (List.Sublist.refl _) (List.Sublist.refl _) ?_; intro w1 hS) | (refine br_t (by assumption) ?_) | (refine br_f (by assumption) ?_))
    refine fc_m (hc _) ?_; rintro v w1 ⟨rfl, hS'⟩; replace hS := hS.call0 hS'
    repeat ((conv => whnf); first | (apply q_i; focus (intro w1 hS; (conv => whnf); first | exact ⟨rfl, rfl⟩ | ((refine ld_f hS 0 rfl rfl ?_); (conv => whnf); exact ⟨rfl, rfl⟩) | ((refine ldA_f hS 0 rfl rfl ?_); (conv => whnf); exact ⟨rfl, rfl⟩))) | (refine nw_f hS ?_; intro b w1 hS) | (refine as_i hS ?_) | (refine as_i (hS.subs (List.nil_sublist _) (by repeat (first | exact List.Sublist.refl _ | apply List.Sublist.cons_cons | apply List.Sublist.cons))) ?_) | (refine as_i (hS.subs (List.Sublist.refl _) (by repeat (first | exact List.Sublist.refl _ | apply List.Sublist.cons_cons | apply List.Sublist.cons))) ?_) | (refine bar_f hS ?_) | (refine ld_f hS 0 rfl rfl ?_) | (refine ldA_f hS 0 rfl rfl ?_) | (refine stN_f hS 0 rfl (Nat.le_of_ble_eq_true rfl) rfl rfl ?_; (conv => whnf); intro w1 hS) | (refine stM_f hS 0 rfl (Nat.le_of_ble_eq_true rfl) rfl ?_; (conv => whnf); intro w1 hS) | (refine drawf TB_ok rfl (by kernel_rfl) (by kernel_rfl) hS (List.Sublist.refl _) (List.Sublist.refl _) ?_; intro w1 hS) | (refine br_t (by assumption) ?_) | (refine br_f (by assumption) ?_))
    exact ⟨rfl, hS.nil⟩
  | true =>
    have hc := fun w => pname_c name w
    rw [h1] at hc
    have hc2 := fun w => right_c r n w
    cases h2 : rightB r n with
    | false =>
      rw [h2] at hc2
      repeat ((conv => whnf); first | (apply q_i; focus (intro w1 hS; (conv => whnf); first | exact ⟨rfl, rfl⟩ | ((refine ld_f hS 0 rfl rfl ?_); (conv => whnf); exact ⟨rfl, rfl⟩) | ((refine ldA_f hS 0 rfl rfl ?_); (conv => whnf); exact ⟨rfl, rfl⟩))) | (refine nw_f hS ?_; intro b w1 hS) | (refine as_i hS ?_) | (refine as_i (hS.subs (List.nil_sublist _) (by repeat (first | exact List.Sublist.refl _ | apply List.Sublist.cons_cons | apply List.Sublist.cons))) ?_) | (refine as_i (hS.subs (List.Sublist.refl _) (by repeat (first | exact List.Sublist.refl _ | apply List.Sublist.cons_cons | apply List.Sublist.cons))) ?_) | (refine bar_f hS ?_) | (refine ld_f hS 0 rfl rfl ?_) | (refine ldA_f hS 0 rfl rfl ?_) | (refine stN_f hS 0 rfl (Nat.le_of_ble_eq_true rfl) rfl rfl ?_; (conv => whnf); intro w1 hS) | (refine stM_f hS 0 rfl (Nat.le_of_ble_eq_true rfl) rfl ?_; (conv => whnf); intro w1 hS) | (refine drawf TB_ok rfl (by kernel_rfl) (by kernel_rfl) hS (List.Sublist.refl _) (List.Sublist.refl _) ?_; intro w1 hS) | (refine br_t (by assumption) ?_) | (refine br_f (by assumption) ?_))
      refine fc_m (hc _) ?_; rintro v w1 ⟨rfl, hS'⟩; replace hS := hS.call0 hS'
      repeat ((conv => whnf); first | (apply q_i; focus (intro w1 hS; (conv => whnf); first | exact ⟨rfl, rfl⟩ | ((refine ld_f hS 0 rfl rfl ?_); (conv => whnf); exact ⟨rfl, rfl⟩) | ((refine ldA_f hS 0 rfl rfl ?_); (conv => whnf); exact ⟨rfl, rfl⟩))) | (refine nw_f hS ?_; intro b w1 hS) | (refine as_i hS ?_) | (refine as_i (hS.subs (List.nil_sublist _) (by repeat (first | exact List.Sublist.refl _ | apply List.Sublist.cons_cons | apply List.Sublist.cons))) ?_) | (refine as_i (hS.subs (List.Sublist.refl _) (by repeat (first | exact List.Sublist.refl _ | apply List.Sublist.cons_cons | apply List.Sublist.cons))) ?_) | (refine bar_f hS ?_) | (refine ld_f hS 0 rfl rfl ?_) | (refine ldA_f hS 0 rfl rfl ?_) | (refine stN_f hS 0 rfl (Nat.le_of_ble_eq_true rfl) rfl rfl ?_; (conv => whnf); intro w1 hS) | (refine stM_f hS 0 rfl (Nat.le_of_ble_eq_true rfl) rfl ?_; (conv => whnf); intro w1 hS) | (refine drawf TB_ok rfl (by kernel_rfl) (by kernel_rfl) hS (List.Sublist.refl _) (List.Sublist.refl _) ?_; intro w1 hS) | (refine br_t (by assumption) ?_) | (refine br_f (by assumption) ?_))
      refine fc_m (hc2 _) ?_; rintro v w1 ⟨rfl, hS'⟩; replace hS := hS.call0 hS'
      repeat ((conv => whnf); first | (apply q_i; focus (intro w1 hS; (conv => whnf); first | exact ⟨rfl, rfl⟩ | ((refine ld_f hS 0 rfl rfl ?_); (conv => whnf); exact ⟨rfl, rfl⟩) | ((refine ldA_f hS 0 rfl rfl ?_); (conv => whnf); exact ⟨rfl, rfl⟩))) | (refine nw_f hS ?_; intro b w1 hS) | (refine as_i hS ?_) | (refine as_i (hS.subs (List.nil_sublist _) (by repeat (first | exact List.Sublist.refl _ | apply List.Sublist.cons_cons | apply List.Sublist.cons))) ?_) | (refine as_i (hS.subs (List.Sublist.refl _) (by repeat (first | exact List.Sublist.refl _ | apply List.Sublist.cons_cons | apply List.Sublist.cons))) ?_) | (refine bar_f hS ?_) | (refine ld_f hS 0 rfl rfl ?_) | (refine ldA_f hS 0 rfl rfl ?_) | (refine stN_f hS 0 rfl (Nat.le_of_ble_eq_true rfl) rfl rfl ?_; (conv => whnf); intro w1 hS) | (refine stM_f hS 0 rfl (Nat.le_of_ble_eq_true rfl) rfl ?_; (conv => whnf); intro w1 hS) | (refine drawf TB_ok rfl (by kernel_rfl) (by kernel_rfl) hS (List.Sublist.refl _) (List.Sublist.refl _) ?_; intro w1 hS) | (refine br_t (by assumption) ?_) | (refine br_f (by assumption) ?_))
      exact ⟨rfl, hS.nil⟩
    | true =>
      rw [h2] at hc2
      obtain ⟨hd1, hd2⟩ := hdr h2
      have hb : r < 8 ∧ 1 ≤ n ∧ n ≤ 65535 := by simp [rightB] at h2; omega
      have l1 := itoa_len hr.1 (show r ≤ 65535 by omega)
      have l2 := itoa_len hn.1 hb.2.2
      have e1 : IntKind.i64.wrap r = r := wrap_i64 (by omega) (by omega)
      have e2 : IntKind.i64.wrap n = n := wrap_i64 (by omega) (by omega)
      have hr1 : strY name ++ ⟨#[126]⟩ = strY (name ++ [126]) := strY_append name [126]
      have hr2 : strY (name ++ [126]) ++ strY (Lib.itoa r) = strY (name ++ [126] ++ Lib.itoa r) := strY_append _ _
      have hr3 : strY (name ++ [126] ++ Lib.itoa r) ++ ⟨#[46]⟩ = strY (name ++ [126] ++ Lib.itoa r ++ [46]) := strY_append _ [46]
      have hr4 : strY (name ++ [126] ++ Lib.itoa r ++ [46]) ++ strY (Lib.itoa n) = strY (name ++ [126] ++ Lib.itoa r ++ [46] ++ Lib.itoa n) := strY_append _ _
      have g1 : (strY name).size + (⟨#[126]⟩ : ByteArray).size ≤ 9223372036854775807 := by
        have : (⟨#[126]⟩ : ByteArray).size = 1 := rfl
        rw [strY_size]; omega
      have g2 : (strY name ++ ⟨#[126]⟩).size + (strY (Lib.itoa r)).size ≤ 9223372036854775807 := by
        rw [hr1, strY_size, strY_size]; simp; omega
      have g3 : (strY name ++ ⟨#[126]⟩ ++ strY (Lib.itoa r)).size + (⟨#[46]⟩ : ByteArray).size ≤ 9223372036854775807 := by
        have : (⟨#[46]⟩ : ByteArray).size = 1 := rfl
        rw [hr1, hr2, strY_size]; simp; omega
      have g4 : (strY name ++ ⟨#[126]⟩ ++ strY (Lib.itoa r) ++ ⟨#[46]⟩).size + (strY (Lib.itoa n)).size ≤ 9223372036854775807 := by
        rw [hr1, hr2, hr3, strY_size, strY_size]; simp; omega
      have hfin : strY name ++ ⟨#[126]⟩ ++ strY (Lib.itoa r) ++ ⟨#[46]⟩ ++ strY (Lib.itoa n) = strY (name ++ [126] ++ Lib.itoa r ++ [46] ++ Lib.itoa n) := by rw [hr1, hr2, hr3, hr4]
      have hi1 : ∀ w', St [] w w' [] → Fc Tryd.prog 47 [.int .i64 (IntKind.i64.wrap r)] w' fun v w'' => v = .string (strY (Lib.itoa r)) ∧ St [] w' w'' [] := fun w' h => by rw [e1]; exact hd1 w' h
      have hi2 : ∀ w', St [] w w' [] → Fc Tryd.prog 47 [.int .i64 (IntKind.i64.wrap n)] w' fun v w'' => v = .string (strY (Lib.itoa n)) ∧ St [] w' w'' [] := fun w' h => by rw [e2]; exact hd2 w' h
      repeat ((conv => whnf); first | (apply q_i; focus (intro w1 hS; (conv => whnf); first | exact ⟨rfl, rfl⟩ | ((refine ld_f hS 0 rfl rfl ?_); (conv => whnf); exact ⟨rfl, rfl⟩) | ((refine ldA_f hS 0 rfl rfl ?_); (conv => whnf); exact ⟨rfl, rfl⟩))) | (refine nw_f hS ?_; intro b w1 hS) | (refine as_i hS ?_) | (refine as_i (hS.subs (List.nil_sublist _) (by repeat (first | exact List.Sublist.refl _ | apply List.Sublist.cons_cons | apply List.Sublist.cons))) ?_) | (refine as_i (hS.subs (List.Sublist.refl _) (by repeat (first | exact List.Sublist.refl _ | apply List.Sublist.cons_cons | apply List.Sublist.cons))) ?_) | (refine bar_f hS ?_) | (refine ld_f hS 0 rfl rfl ?_) | (refine ldA_f hS 0 rfl rfl ?_) | (refine stN_f hS 0 rfl (Nat.le_of_ble_eq_true rfl) rfl rfl ?_; (conv => whnf); intro w1 hS) | (refine stM_f hS 0 rfl (Nat.le_of_ble_eq_true rfl) rfl ?_; (conv => whnf); intro w1 hS) | (refine drawf TB_ok rfl (by kernel_rfl) (by kernel_rfl) hS (List.Sublist.refl _) (List.Sublist.refl _) ?_; intro w1 hS) | (refine br_t (by assumption) ?_) | (refine br_f (by assumption) ?_))
      refine fc_m (hc _) ?_; rintro v w1 ⟨rfl, hS'⟩; replace hS := hS.call0 hS'
      repeat ((conv => whnf); first | (apply q_i; focus (intro w1 hS; (conv => whnf); first | exact ⟨rfl, rfl⟩ | ((refine ld_f hS 0 rfl rfl ?_); (conv => whnf); exact ⟨rfl, rfl⟩) | ((refine ldA_f hS 0 rfl rfl ?_); (conv => whnf); exact ⟨rfl, rfl⟩))) | (refine nw_f hS ?_; intro b w1 hS) | (refine as_i hS ?_) | (refine as_i (hS.subs (List.nil_sublist _) (by repeat (first | exact List.Sublist.refl _ | apply List.Sublist.cons_cons | apply List.Sublist.cons))) ?_) | (refine as_i (hS.subs (List.Sublist.refl _) (by repeat (first | exact List.Sublist.refl _ | apply List.Sublist.cons_cons | apply List.Sublist.cons))) ?_) | (refine bar_f hS ?_) | (refine ld_f hS 0 rfl rfl ?_) | (refine ldA_f hS 0 rfl rfl ?_) | (refine stN_f hS 0 rfl (Nat.le_of_ble_eq_true rfl) rfl rfl ?_; (conv => whnf); intro w1 hS) | (refine stM_f hS 0 rfl (Nat.le_of_ble_eq_true rfl) rfl ?_; (conv => whnf); intro w1 hS) | (refine drawf TB_ok rfl (by kernel_rfl) (by kernel_rfl) hS (List.Sublist.refl _) (List.Sublist.refl _) ?_; intro w1 hS) | (refine br_t (by assumption) ?_) | (refine br_f (by assumption) ?_))
      refine fc_m (hc2 _) ?_; rintro v w1 ⟨rfl, hS'⟩; replace hS := hS.call0 hS'
      repeat ((conv => whnf); first | (apply q_i; focus (intro w1 hS; (conv => whnf); first | exact ⟨rfl, rfl⟩ | ((refine ld_f hS 0 rfl rfl ?_); (conv => whnf); exact ⟨rfl, rfl⟩) | ((refine ldA_f hS 0 rfl rfl ?_); (conv => whnf); exact ⟨rfl, rfl⟩))) | (refine nw_f hS ?_; intro b w1 hS) | (refine as_i hS ?_) | (refine as_i (hS.subs (List.nil_sublist _) (by repeat (first | exact List.Sublist.refl _ | apply List.Sublist.cons_cons | apply List.Sublist.cons))) ?_) | (refine as_i (hS.subs (List.Sublist.refl _) (by repeat (first | exact List.Sublist.refl _ | apply List.Sublist.cons_cons | apply List.Sublist.cons))) ?_) | (refine bar_f hS ?_) | (refine ld_f hS 0 rfl rfl ?_) | (refine ldA_f hS 0 rfl rfl ?_) | (refine stN_f hS 0 rfl (Nat.le_of_ble_eq_true rfl) rfl rfl ?_; (conv => whnf); intro w1 hS) | (refine stM_f hS 0 rfl (Nat.le_of_ble_eq_true rfl) rfl ?_; (conv => whnf); intro w1 hS) | (refine br_t (by assumption) ?_) | (refine br_f (by assumption) ?_))
      refine drawf (Ls := [_]) TB_ok rfl (by kernel_rfl) (by kernel_rfl) hS (List.nil_sublist _) (List.Sublist.refl _) ?_; intro w1 hS
      repeat' ((conv => whnf); first | (refine And.intro ?_ ?_) | (apply q_i; focus (intro w1 hS; (conv => whnf); first | exact ⟨rfl, rfl⟩ | ((refine ld_f hS 0 rfl rfl ?_); (conv => whnf); exact ⟨rfl, rfl⟩) | ((refine ldA_f hS 0 rfl rfl ?_); (conv => whnf); exact ⟨rfl, rfl⟩) | ((refine .mk g1 ?_); (conv => whnf); exact ⟨rfl, rfl⟩) | ((refine .mk g2 ?_); (conv => whnf); exact ⟨rfl, rfl⟩) | ((refine .mk g3 ?_); (conv => whnf); exact ⟨rfl, rfl⟩) | ((refine .mk g4 ?_); (conv => whnf); exact ⟨rfl, rfl⟩) | ((refine fc_m (hi1 _ hS.nil) ?_; rintro v w3 ⟨rfl, hS'⟩; replace hS := hS.call0 hS'); (conv => whnf); exact ⟨rfl, rfl⟩) | ((refine fc_m (hi2 _ hS.nil) ?_; rintro v w3 ⟨rfl, hS'⟩; replace hS := hS.call0 hS'); (conv => whnf); exact ⟨rfl, rfl⟩))) | (refine nw_f hS ?_; intro b w1 hS) | (refine as_i hS ?_) | (refine as_i (hS.subs (List.nil_sublist _) (by repeat (first | exact List.Sublist.refl _ | apply List.Sublist.cons_cons | apply List.Sublist.cons))) ?_) | (refine as_i (hS.subs (List.Sublist.refl _) (by repeat (first | exact List.Sublist.refl _ | apply List.Sublist.cons_cons | apply List.Sublist.cons))) ?_) | (refine bar_f hS ?_) | (refine ld_f hS 0 rfl rfl ?_) | (refine ldA_f hS 0 rfl rfl ?_) | (refine stN_f hS 0 rfl (Nat.le_of_ble_eq_true rfl) rfl rfl ?_; (conv => whnf); intro w1 hS) | (refine stM_f hS 0 rfl (Nat.le_of_ble_eq_true rfl) rfl ?_; (conv => whnf); intro w1 hS) | (refine .mk g1 ?_) | (refine .mk g2 ?_) | (refine .mk g3 ?_) | (refine .mk g4 ?_) | (refine fc_m (hi1 _ hS.nil) ?_; rintro v w3 ⟨rfl, hS'⟩; replace hS := hS.call0 hS') | (refine fc_m (hi2 _ hS.nil) ?_; rintro v w3 ⟨rfl, hS'⟩; replace hS := hS.call0 hS') | (refine drawf TB_ok rfl (by kernel_rfl) (by kernel_rfl) hS (List.Sublist.refl _) (List.Sublist.refl _) ?_; intro w1 hS) | (refine br_t (by assumption) ?_) | (refine br_f (by assumption) ?_))
      all_goals first
        | exact hS.nil
        | exact congrArg (fun x => Value.tuple #[.string x, .int .i64 0]) hfin
end Go.RV
