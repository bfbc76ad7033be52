/- Contracts of functions of chapter 8: small letters, what is the same, few. Conditions: none. -/
import Derived.Test.YtjgdcifkaopnpaaDoorP2
import Derived.Test.YtjgdcifkaopnpaaDoorRvX
import Derived.Test.YtjgdcifkaopnpaaDoorRvU
set_option maxRecDepth 20000
set_option linter.unusedVariables false
set_option linter.unusedSimpArgs false
namespace Go.RV.C08
open Go Go.Proofs

/-- a sibling: who, which, what -/
structure Sx where
  r : Int
  n : Int
  v : List UInt8
def encX (x : Sx) : List Value := [.int .u8 x.r, .int .u32 x.n, .string (strY x.v)]
theorem encX_len (x : Sx) : (encX x).length = 3 := rfl
def regV (f : Nat → Int) (A : Option Addr) (l c : Nat) : Value := .agg (vecF f ++ [Value.slice A l c]).toArray
def dotV (r n : Int) : Value := .agg #[.int .u8 r, .int .u32 n]
theorem neSame (a : ByteArray) : (!streq a a) = false := by unfold streq; simp

def low (c : UInt8) : UInt8 := if 65 ≤ c.toNat ∧ c.toNat ≤ 90 then c + 32 else c
theorem small_c (s : List UInt8) (hs : s.length ≤ 1073741824) (w : World) : Fc Tryd.prog 66 [.string (strY s)] w fun v w' => v = .string (strY (s.map low)) ∧ St [] w w' [] := by
  refine fc_i TB_ok Tryd.func66 rfl (by kernel_rfl) ?_
  have hS : Sf [] w w ([] ++ []) [] := Sf.refl w
  have hsz := strY_size s
  repeat ((conv => whnf); first | (apply q_i; focus (intro w1 hS; (conv => whnf); first | exact ⟨rfl, rfl⟩)) | (refine nw_f hS ?_; intro b w1 hS) | (refine as_i hS ?_) | (refine as_i (hS.subs (List.nil_sublist _) (by repeat (first | exact List.Sublist.refl _ | apply List.Sublist.cons_cons | apply List.Sublist.cons))) ?_) | (refine as_i (hS.subs (List.Sublist.refl _) (by repeat (first | exact List.Sublist.refl _ | apply List.Sublist.cons_cons | apply List.Sublist.cons))) ?_) | (refine bar_f hS ?_) | (refine drawf TB_ok rfl (by kernel_rfl) (by kernel_rfl) hS (List.Sublist.refl _) (List.Sublist.refl _) ?_; intro w1 hS) | (refine br_t (by assumption) ?_) | (refine br_f (by assumption) ?_))
  refine loop_i TB_ok (fun t : Nat × Value => [(4, .int .i64 t.1), (3, t.2)]) (fun t w' => t.1 ≤ s.length ∧ ∃ Lv, Sl 5 1 t.2 t.1 (flat encY ((s.take t.1).map low)) Lv ∧ Sf [] w w' (Lv ++ []) []) (fun t => s.length - t.1) (0, .slice none 0 0) rfl ⟨Nat.zero_le _, [], .nil, hS⟩ ?_
  rintro ⟨i, sl⟩ us w2 ⟨hi, Lv, hv, hS⟩
  simp only at hi hv ⊢
  by_cases hlt : i < s.length
  · have hb : decide ((i : Int) < ((strY s).size : Int)) = true := decide_eq_true (by omega)
    have hsx := byteAt_strY hlt
    have hc := s[i].toNat_lt
    have snoc : ∀ x : UInt8, x = low s[i] → flat encY ((s.take i).map low) ++ [Value.int .u8 (x.toNat : Int)] = flat encY ((s.take (i + 1)).map low) := fun x hx => by
      rw [List.take_succ_eq_append_getElem hlt, List.map_append, flat_append, hx]
      rfl
    have fin : ∀ (x : UInt8) (w6 : World) (v : Value) (Lv' : LM) (hx : x = low s[i]), Sl 5 1 v (i + 1) (flat encY ((s.take i).map low) ++ [Value.int .u8 (x.toNat : Int)]) Lv' → Sl 5 1 v (i + 1) (flat encY ((s.take (i + 1)).map low)) Lv' := fun x w6 v Lv' hx h => by rw [← snoc x hx]; exact h
    repeat ((conv => whnf); first | (apply q_i; focus (intro w1 hS; (conv => whnf); first | exact ⟨rfl, rfl⟩ | ((refine .mk ⟨by omega, by omega⟩ ?_); (conv => whnf); exact ⟨rfl, rfl⟩))) | (refine nw_f hS ?_; intro b w1 hS) | (refine as_i hS ?_) | (refine as_i (hS.subs (List.nil_sublist _) (by repeat (first | exact List.Sublist.refl _ | apply List.Sublist.cons_cons | apply List.Sublist.cons))) ?_) | (refine as_i (hS.subs (List.Sublist.refl _) (by repeat (first | exact List.Sublist.refl _ | apply List.Sublist.cons_cons | apply List.Sublist.cons))) ?_) | (refine bar_f hS ?_) | (refine .mk ⟨by omega, by omega⟩ ?_) | (refine drawf TB_ok rfl (by kernel_rfl) (by kernel_rfl) hS (List.Sublist.refl _) (List.Sublist.refl _) ?_; intro w1 hS) | (refine br_t (by assumption) ?_) | (refine br_f (by assumption) ?_))
    rw [show byteAt (strY s) ((i : Int)).toNat = (s[i].toNat : Int) from hsx]
    by_cases hu : 65 ≤ s[i].toNat ∧ s[i].toNat ≤ 90
    · have h1 : decide ((65 : Int) ≤ (s[i].toNat : Int)) = true := decide_eq_true (by omega)
      have h2 : decide ((s[i].toNat : Int) ≤ 90) = true := decide_eq_true (by omega)
      have hl : low s[i] = s[i] + 32 := by unfold low; rw [if_pos hu]
      have hv2 : IntKind.u8.wrap ((s[i].toNat : Int) + 32) = ((s[i] + 32).toNat : Int) := by
        rw [wrap_u8 (by omega) (by omega), UInt8.toNat_add]
        have : (32 : UInt8).toNat = 32 := rfl
        omega
      repeat ((conv => whnf); first | (apply q_i; focus (intro w1 hS; (conv => whnf); first | exact ⟨rfl, rfl⟩)) | (refine nw_f hS ?_; intro b w1 hS) | (refine as_i hS ?_) | (refine as_i (hS.subs (List.nil_sublist _) (by repeat (first | exact List.Sublist.refl _ | apply List.Sublist.cons_cons | apply List.Sublist.cons))) ?_) | (refine as_i (hS.subs (List.Sublist.refl _) (by repeat (first | exact List.Sublist.refl _ | apply List.Sublist.cons_cons | apply List.Sublist.cons))) ?_) | (refine bar_f hS ?_) | (refine drawf TB_ok rfl (by kernel_rfl) (by kernel_rfl) hS (List.Sublist.refl _) (List.Sublist.refl _) ?_; intro w1 hS) | (refine br_t (by assumption) ?_) | (refine br_f (by assumption) ?_))
      rw [hv2]
      refine app_f TB_ok elY hS hv (show Rd _ _ [Value.int .u8 ((s[i] + 32).toNat : Int)] from hS.rd 0 rfl) rfl (fun y hy => ?_) (by omega) (by omega) ?_
      · obtain rfl := List.mem_singleton.1 hy
        rfl
      intro v' Lv' w6 hv' hS
      repeat ((conv => whnf); first | (apply q_i; focus (intro w1 hS; (conv => whnf); first | exact ⟨rfl, rfl⟩)) | (refine nw_f hS ?_; intro b w1 hS) | (refine as_i hS ?_) | (refine as_i (hS.subs (List.nil_sublist _) (by repeat (first | exact List.Sublist.refl _ | apply List.Sublist.cons_cons | apply List.Sublist.cons))) ?_) | (refine as_i (hS.subs (List.Sublist.refl _) (by repeat (first | exact List.Sublist.refl _ | apply List.Sublist.cons_cons | apply List.Sublist.cons))) ?_) | (refine bar_f hS ?_) | (refine drawf TB_ok rfl (by kernel_rfl) (by kernel_rfl) hS (List.Sublist.refl _) (List.Sublist.refl _) ?_; intro w1 hS) | (refine br_t (by assumption) ?_) | (refine br_f (by assumption) ?_))
      refine ⟨rfl, (i + 1, v'), ?_, ⟨by show i + 1 ≤ _; omega, Lv', fin _ w6 v' Lv' hl.symm hv', hS.subs (List.Sublist.refl _) (List.nil_sublist _)⟩, by show s.length - (i + 1) < s.length - i; omega⟩
      rw [wi hlt (by omega)]
      rfl
    · have hl : low s[i] = s[i] := by unfold low; rw [if_neg hu]
      have go2 : ∀ b1 b2, decide ((65 : Int) ≤ (s[i].toNat : Int)) = b1 → decide ((s[i].toNat : Int) ≤ 90) = b2 → (b1 && b2) = false := by
        intro b1 b2 e1 e2
        rw [← e1, ← e2]
        simp
        omega
      obtain ⟨b1, e1⟩ : ∃ b1, decide ((65 : Int) ≤ (s[i].toNat : Int)) = b1 := ⟨_, rfl⟩
      obtain ⟨b2, e2⟩ : ∃ b2, decide ((s[i].toNat : Int) ≤ 90) = b2 := ⟨_, rfl⟩
      have hbb := go2 b1 b2 e1 e2
      clear go2
      cases b1 <;> cases b2 <;> first | (exact absurd hbb (by decide)) | skip
      all_goals
        repeat ((conv => whnf); first | (apply q_i; focus (intro w1 hS; (conv => whnf); first | exact ⟨rfl, rfl⟩)) | (refine nw_f hS ?_; intro b w1 hS) | (refine as_i hS ?_) | (refine as_i (hS.subs (List.nil_sublist _) (by repeat (first | exact List.Sublist.refl _ | apply List.Sublist.cons_cons | apply List.Sublist.cons))) ?_) | (refine as_i (hS.subs (List.Sublist.refl _) (by repeat (first | exact List.Sublist.refl _ | apply List.Sublist.cons_cons | apply List.Sublist.cons))) ?_) | (refine bar_f hS ?_) | (refine drawf TB_ok rfl (by kernel_rfl) (by kernel_rfl) hS (List.Sublist.refl _) (List.Sublist.refl _) ?_; intro w1 hS) | (refine br_t (by assumption) ?_) | (refine br_f (by assumption) ?_))
        refine app_f TB_ok elY hS hv (show Rd _ _ [Value.int .u8 (s[i].toNat : Int)] from hS.rd 0 rfl) rfl (fun y hy => ?_) (by omega) (by omega) ?_
        · obtain rfl := List.mem_singleton.1 hy
          rfl
        intro v' Lv' w6 hv' hS
        repeat ((conv => whnf); first | (apply q_i; focus (intro w1 hS; (conv => whnf); first | exact ⟨rfl, rfl⟩)) | (refine nw_f hS ?_; intro b w1 hS) | (refine as_i hS ?_) | (refine as_i (hS.subs (List.nil_sublist _) (by repeat (first | exact List.Sublist.refl _ | apply List.Sublist.cons_cons | apply List.Sublist.cons))) ?_) | (refine as_i (hS.subs (List.Sublist.refl _) (by repeat (first | exact List.Sublist.refl _ | apply List.Sublist.cons_cons | apply List.Sublist.cons))) ?_) | (refine bar_f hS ?_) | (refine drawf TB_ok rfl (by kernel_rfl) (by kernel_rfl) hS (List.Sublist.refl _) (List.Sublist.refl _) ?_; intro w1 hS) | (refine br_t (by assumption) ?_) | (refine br_f (by assumption) ?_))
        refine ⟨rfl, (i + 1, v'), ?_, ⟨by show i + 1 ≤ _; omega, Lv', fin _ w6 v' Lv' hl.symm hv', hS.subs (List.Sublist.refl _) (List.nil_sublist _)⟩, by show s.length - (i + 1) < s.length - i; omega⟩
        rw [wi hlt (by omega)]
        rfl
  · have hb : decide ((i : Int) < ((strY s).size : Int)) = false := decide_eq_false (by omega)
    obtain rfl : i = s.length := by omega
    rw [List.take_length] at hv
    obtain ⟨A, c, rfl, hv⟩ := hv.open
    have hRd := hv.rdF hS
    repeat ((conv => whnf); first | (apply q_i; focus (intro w1 hS; (conv => whnf); first | exact ⟨rfl, rfl⟩)) | (refine nw_f hS ?_; intro b w1 hS) | (refine as_i hS ?_) | (refine as_i (hS.subs (List.nil_sublist _) (by repeat (first | exact List.Sublist.refl _ | apply List.Sublist.cons_cons | apply List.Sublist.cons))) ?_) | (refine as_i (hS.subs (List.Sublist.refl _) (by repeat (first | exact List.Sublist.refl _ | apply List.Sublist.cons_cons | apply List.Sublist.cons))) ?_) | (refine bar_f hS ?_) | (refine drawf TB_ok rfl (by kernel_rfl) (by kernel_rfl) hS (List.Sublist.refl _) (List.Sublist.refl _) ?_; intro w1 hS) | (refine br_t (by assumption) ?_) | (refine br_f (by assumption) ?_))
    refine bStr_i Tryd.underlying71 Tryd.underlying5 Tryd.underlying9 hRd (by simp) ?_
    repeat ((conv => whnf); first | (apply q_i; focus (intro w1 hS; (conv => whnf); first | exact ⟨rfl, rfl⟩)) | (refine nw_f hS ?_; intro b w1 hS) | (refine as_i hS ?_) | (refine as_i (hS.subs (List.nil_sublist _) (by repeat (first | exact List.Sublist.refl _ | apply List.Sublist.cons_cons | apply List.Sublist.cons))) ?_) | (refine as_i (hS.subs (List.Sublist.refl _) (by repeat (first | exact List.Sublist.refl _ | apply List.Sublist.cons_cons | apply List.Sublist.cons))) ?_) | (refine bar_f hS ?_) | (refine drawf TB_ok rfl (by kernel_rfl) (by kernel_rfl) hS (List.Sublist.refl _) (List.Sublist.refl _) ?_; intro w1 hS) | (refine br_t (by assumption) ?_) | (refine br_f (by assumption) ?_))
    exact ⟨rfl, hS.nil⟩
def sameT (a b : List UInt8) (small : Bool) : Bool := decide (a = b) || small && decide (a.map low = b.map low)
theorem same_c (a b : List UInt8) (small : Bool) (ha : a.length ≤ 1073741824) (hb : b.length ≤ 1073741824) (w : World) : Fc Tryd.prog 47 [.string (strY a), .string (strY b), .bool small] w fun v w' => v = .bool (sameT a b small) ∧ St [] w w' [] := by
  refine fc_i TB_ok Tryd.func47 rfl (by kernel_rfl) ?_
  have hS := Sf.refl w
  have h1 := streq_strY a b
  have h2 := streq_strY (a.map low) (b.map low)
  unfold sameT
  by_cases hab : a = b
  · rw [decide_eq_true hab] at h1 ⊢
    repeat ((conv => whnf); first | (apply q_i; focus (intro w1 hS; (conv => whnf); first | exact ⟨rfl, rfl⟩)) | (refine nw_f hS ?_; intro b w1 hS) | (refine as_i hS ?_) | (refine as_i (hS.subs (List.nil_sublist _) (by repeat (first | exact List.Sublist.refl _ | apply List.Sublist.cons_cons | apply List.Sublist.cons))) ?_) | (refine as_i (hS.subs (List.Sublist.refl _) (by repeat (first | exact List.Sublist.refl _ | apply List.Sublist.cons_cons | apply List.Sublist.cons))) ?_) | (refine bar_f hS ?_) | (refine drawf TB_ok rfl (by kernel_rfl) (by kernel_rfl) hS (List.Sublist.refl _) (List.Sublist.refl _) ?_; intro w1 hS) | (refine br_t (by assumption) ?_) | (refine br_f (by assumption) ?_))
    exact ⟨rfl, hS.nil⟩
  · rw [decide_eq_false hab] at h1 ⊢
    cases small with
    | false =>
      repeat ((conv => whnf); first | (apply q_i; focus (intro w1 hS; (conv => whnf); first | exact ⟨rfl, rfl⟩)) | (refine nw_f hS ?_; intro b w1 hS) | (refine as_i hS ?_) | (refine as_i (hS.subs (List.nil_sublist _) (by repeat (first | exact List.Sublist.refl _ | apply List.Sublist.cons_cons | apply List.Sublist.cons))) ?_) | (refine as_i (hS.subs (List.Sublist.refl _) (by repeat (first | exact List.Sublist.refl _ | apply List.Sublist.cons_cons | apply List.Sublist.cons))) ?_) | (refine bar_f hS ?_) | (refine drawf TB_ok rfl (by kernel_rfl) (by kernel_rfl) hS (List.Sublist.refl _) (List.Sublist.refl _) ?_; intro w1 hS) | (refine br_t (by assumption) ?_) | (refine br_f (by assumption) ?_))
      exact ⟨rfl, hS.nil⟩
    | true =>
      repeat ((conv => whnf); first | (apply q_i; focus (intro w1 hS; (conv => whnf); first | exact ⟨rfl, rfl⟩)) | (refine nw_f hS ?_; intro b w1 hS) | (refine as_i hS ?_) | (refine as_i (hS.subs (List.nil_sublist _) (by repeat (first | exact List.Sublist.refl _ | apply List.Sublist.cons_cons | apply List.Sublist.cons))) ?_) | (refine as_i (hS.subs (List.Sublist.refl _) (by repeat (first | exact List.Sublist.refl _ | apply List.Sublist.cons_cons | apply List.Sublist.cons))) ?_) | (refine bar_f hS ?_) | (refine drawf TB_ok rfl (by kernel_rfl) (by kernel_rfl) hS (List.Sublist.refl _) (List.Sublist.refl _) ?_; intro w1 hS) | (refine br_t (by assumption) ?_) | (refine br_f (by assumption) ?_))
      refine fc_m (small_c a ha _) ?_; rintro v w1 ⟨rfl, hS'⟩; replace hS := hS.call0 hS'
      repeat ((conv => whnf); first | (apply q_i; focus (intro w1 hS; (conv => whnf); first | exact ⟨rfl, rfl⟩)) | (refine nw_f hS ?_; intro b w1 hS) | (refine as_i hS ?_) | (refine as_i (hS.subs (List.nil_sublist _) (by repeat (first | exact List.Sublist.refl _ | apply List.Sublist.cons_cons | apply List.Sublist.cons))) ?_) | (refine as_i (hS.subs (List.Sublist.refl _) (by repeat (first | exact List.Sublist.refl _ | apply List.Sublist.cons_cons | apply List.Sublist.cons))) ?_) | (refine bar_f hS ?_) | (refine drawf TB_ok rfl (by kernel_rfl) (by kernel_rfl) hS (List.Sublist.refl _) (List.Sublist.refl _) ?_; intro w1 hS) | (refine br_t (by assumption) ?_) | (refine br_f (by assumption) ?_))
      refine fc_m (small_c b hb _) ?_; rintro v w2 ⟨rfl, hS'⟩; replace hS := hS.call0 hS'
      repeat ((conv => whnf); first | (apply q_i; focus (intro w1 hS; (conv => whnf); first | exact ⟨rfl, rfl⟩)) | (refine nw_f hS ?_; intro b w1 hS) | (refine as_i hS ?_) | (refine as_i (hS.subs (List.nil_sublist _) (by repeat (first | exact List.Sublist.refl _ | apply List.Sublist.cons_cons | apply List.Sublist.cons))) ?_) | (refine as_i (hS.subs (List.Sublist.refl _) (by repeat (first | exact List.Sublist.refl _ | apply List.Sublist.cons_cons | apply List.Sublist.cons))) ?_) | (refine bar_f hS ?_) | (refine drawf TB_ok rfl (by kernel_rfl) (by kernel_rfl) hS (List.Sublist.refl _) (List.Sublist.refl _) ?_; intro w1 hS) | (refine br_t (by assumption) ?_) | (refine br_f (by assumption) ?_))
      exact ⟨congrArg Value.bool h2, hS.nil⟩
theorem just_c (a b : List UInt8) (w : World) : Fc Tryd.prog 22 [.string (strY a), .string (strY b)] w fun v w' => v = .bool (sameT a b false) ∧ St [] w w' [] := by
  refine fc_i TB_ok Tryd.func22 rfl (by kernel_rfl) ?_
  have hS := Sf.refl w
  repeat ((conv => whnf); first | (apply q_i; focus (intro w1 hS; (conv => whnf); first | exact ⟨rfl, rfl⟩)) | (refine nw_f hS ?_; intro b w1 hS) | (refine as_i hS ?_) | (refine as_i (hS.subs (List.nil_sublist _) (by repeat (first | exact List.Sublist.refl _ | apply List.Sublist.cons_cons | apply List.Sublist.cons))) ?_) | (refine as_i (hS.subs (List.Sublist.refl _) (by repeat (first | exact List.Sublist.refl _ | apply List.Sublist.cons_cons | apply List.Sublist.cons))) ?_) | (refine bar_f hS ?_) | (refine drawf TB_ok rfl (by kernel_rfl) (by kernel_rfl) hS (List.Sublist.refl _) (List.Sublist.refl _) ?_; intro w1 hS) | (refine br_t (by assumption) ?_) | (refine br_f (by assumption) ?_))
  exact ⟨congrArg Value.bool (by rw [streq_strY, sameT]; simp), hS.nil⟩
theorem loose_c (a b : List UInt8) (ha : a.length ≤ 1073741824) (hb : b.length ≤ 1073741824) (w : World) : Fc Tryd.prog 21 [.string (strY a), .string (strY b)] w fun v w' => v = .bool (sameT a b true) ∧ St [] w w' [] := by
  refine fc_i TB_ok Tryd.func21 rfl (by kernel_rfl) ?_
  have hS := Sf.refl w
  repeat ((conv => whnf); first | (apply q_i; focus (intro w1 hS; (conv => whnf); first | exact ⟨rfl, rfl⟩)) | (refine nw_f hS ?_; intro b w1 hS) | (refine as_i hS ?_) | (refine as_i (hS.subs (List.nil_sublist _) (by repeat (first | exact List.Sublist.refl _ | apply List.Sublist.cons_cons | apply List.Sublist.cons))) ?_) | (refine as_i (hS.subs (List.Sublist.refl _) (by repeat (first | exact List.Sublist.refl _ | apply List.Sublist.cons_cons | apply List.Sublist.cons))) ?_) | (refine bar_f hS ?_) | (refine drawf TB_ok rfl (by kernel_rfl) (by kernel_rfl) hS (List.Sublist.refl _) (List.Sublist.refl _) ?_; intro w1 hS) | (refine br_t (by assumption) ?_) | (refine br_f (by assumption) ?_))
  refine fc_m (same_c a b true ha hb _) ?_; rintro v w1 ⟨rfl, hS'⟩; replace hS := hS.call0 hS'
  repeat ((conv => whnf); first | (apply q_i; focus (intro w1 hS; (conv => whnf); first | exact ⟨rfl, rfl⟩)) | (refine nw_f hS ?_; intro b w1 hS) | (refine as_i hS ?_) | (refine as_i (hS.subs (List.nil_sublist _) (by repeat (first | exact List.Sublist.refl _ | apply List.Sublist.cons_cons | apply List.Sublist.cons))) ?_) | (refine as_i (hS.subs (List.Sublist.refl _) (by repeat (first | exact List.Sublist.refl _ | apply List.Sublist.cons_cons | apply List.Sublist.cons))) ?_) | (refine bar_f hS ?_) | (refine drawf TB_ok rfl (by kernel_rfl) (by kernel_rfl) hS (List.Sublist.refl _) (List.Sublist.refl _) ?_; intro w1 hS) | (refine br_t (by assumption) ?_) | (refine br_f (by assumption) ?_))
  exact ⟨rfl, hS.nil⟩
end Go.RV.C08
