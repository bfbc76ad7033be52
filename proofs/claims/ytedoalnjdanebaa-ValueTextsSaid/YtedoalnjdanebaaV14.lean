/- Contracts of functions of chapter 1: the document's reader; one. Conditions: none. -/
import Derived.Test.YtedoalnjdanebaaV13
set_option maxRecDepth 20000
set_option linter.unusedVariables false
set_option linter.unusedSimpArgs false
namespace Go.RV
open Go Go.Proofs

theorem qrest_c (b : Nat) (S : List UInt8) (s : RS) (L : LM) (hQ : QR b S s L) (w : World) (hS : St (keys L) w w L) :
    Fc Try.prog 29 [.pointer (some ⟨b, 0, none⟩)] w fun v w' => v = .string (strY s.rest) ∧ St [] w w' [] := by
  refine fc_i TB_ok Try.func29 rfl (by kernel_rfl) ?_
  obtain ⟨a, rfl, ha, hr0, hr1⟩ := hQ.out
  have hH : Holds w [(b, .cells #[.string (strY S), .int .i64 a, .int .i64 s.e] 50 (0, 0))] := fun x hx => hS.own x.1 x.2 hx
  replace hS := Sf.refl w
  have hsz := strY_size S
  repeat ((conv => whnf); first | (refine nw_f hS ?_; intro b w1 hS) | (refine ld_h hS.nil hH 0 rfl rfl ?_))
  refine br_i (fun h0 => ?_) (fun h0 => ?_)
  · have he : s.e ≠ 0 := by simpa using h0
    repeat ((conv => whnf); first | (refine nw_f hS ?_; intro b w1 hS) | (refine as_i hS ?_) | (refine as_i (hS.subs (List.nil_sublist _) (by repeat (first | exact List.Sublist.refl _ | apply List.Sublist.cons_cons | apply List.Sublist.cons))) ?_) | (refine bar_f hS ?_) | (refine drawf TB_ok rfl (by kernel_rfl) (by kernel_rfl) hS (List.Sublist.refl _) (List.Sublist.refl _) ?_; intro w1 hS) | (refine br_t (by assumption) ?_) | (refine br_f (by assumption) ?_) | (apply q_i; focus (intro w1 hS; (conv => whnf); first | exact ⟨rfl, rfl⟩)))
    exact ⟨by rw [hr1 he]; rfl, hS.nil⟩
  · have he : s.e = 0 := by simpa using h0
    repeat ((conv => whnf); first | (refine nw_f hS ?_; intro b w1 hS) | (refine as_i hS ?_) | (refine as_i (hS.subs (List.nil_sublist _) (by repeat (first | exact List.Sublist.refl _ | apply List.Sublist.cons_cons | apply List.Sublist.cons))) ?_) | (refine bar_f hS ?_) | (refine ld_h hS.nil hH 0 rfl rfl ?_) | (refine .mk ⟨by omega, by omega⟩ ?_) | (refine drawf TB_ok rfl (by kernel_rfl) (by kernel_rfl) hS (List.Sublist.refl _) (List.Sublist.refl _) ?_; intro w1 hS) | (refine br_t (by assumption) ?_) | (refine br_f (by assumption) ?_) | (apply q_i; focus (intro w1 hS; (conv => whnf); first | exact ⟨rfl, rfl⟩ | ((refine ld_h hS.nil hH 0 rfl rfl ?_); (conv => whnf); exact ⟨rfl, rfl⟩) | ((refine .mk ⟨by omega, by omega⟩ ?_); (conv => whnf); exact ⟨rfl, rfl⟩))))
    refine ⟨congrArg Value.string ?_, hS.nil⟩
    have e : (strY S).extract a (strY S).size = strY (S.drop a) := by rw [strY_extract, hsz, List.take_length]
    rw [hr0 he, ← e]
    rfl
/-- something that is asked -/
structure Ask where
  kind : Int
  n : Int
def askV (x : Ask) : Value := .agg #[.int .u8 x.kind, .int .i64 x.n]
def encK (x : Ask) : List Value := [.int .u8 x.kind, .int .i64 x.n]
theorem encK_len (x : Ask) : (encK x).length = 2 := rfl

theorem numF_lt (s : RS) (W : Nat) : 0 ≤ numF 0 (fixedR s W).1 ∧ numF 0 (fixedR s W).1 < 256 ^ W := by
  have h := numF_bound (fixedR s W).1 0 (by decide)
  have hl := fixedR_len s W
  refine ⟨h.1, Int.lt_of_lt_of_le h.2 ?_⟩
  rw [Int.zero_add, Int.one_mul]
  exact_mod_cast Nat.pow_le_pow_right (by decide) hl
end Go.RV
