/- Contracts of functions of chapter 8: names, conflict names. Conditions: none. -/
import Derived.Test.YtjgdcifkaopnpaaDoorG1
import Derived.Test.YtjgdcifkaopnpaaDoorS1
import Derived.Lib.DecodeN
set_option maxRecDepth 20000
set_option linter.unusedVariables false
set_option linter.unusedSimpArgs false
namespace Go.RV.C08
open Go Go.Proofs Go.RowKit

def badC (n : Nat) : Bool := decide (n < 33) || (decide (125 < n) || n == 47)
theorem get_strY {l : List UInt8} {i : Nat} (h : i < l.length) : (strY l).get! i = l[i] := by
  have : i < l.toArray.size := by simpa using h
  show l.toArray[i]! = l[i]
  simp [h]
theorem decodeN_hi {n b0 b1 b2 b3 : Nat} (h : ¬ b0 < 128) : 128 ≤ (Lib.decodeN n b0 b1 b2 b3).1 := by
  unfold Lib.decodeN
  rw [if_neg h]
  repeat' split
  all_goals (simp only; omega)
theorem idx_bad (l : List UInt8) : ∀ (f pos : Nat), l.length - pos ≤ f → (0 ≤ Lib.idxFuncFrom badC true (strY l) f pos ↔ ∃ j, ∃ h : j < l.length, pos ≤ j ∧ badC l[j].toNat = true)
  | 0, pos, hf => by
    unfold Lib.idxFuncFrom
    constructor
    · intro h; omega
    · rintro ⟨j, hj, h1, _⟩; omega
  | f+1, pos, hf => by
    unfold Lib.idxFuncFrom
    have hsz := strY_size l
    by_cases hp : pos < l.length
    · rw [if_pos (by omega), Lib.decode_at, get_strY hp]
      by_cases hb : l[pos].toNat < 128
      · rw [show Lib.decodeN ((strY l).size - pos) l[pos].toNat ((strY l).get! (pos + 1)).toNat ((strY l).get! (pos + 2)).toNat ((strY l).get! (pos + 3)).toNat = (l[pos].toNat, 1) from by unfold Lib.decodeN; rw [if_pos hb]]
        simp only
        by_cases hq : badC l[pos].toNat = true
        · rw [if_pos hq]
          exact ⟨fun _ => ⟨pos, hp, Nat.le_refl _, hq⟩, fun _ => by omega⟩
        · rw [if_neg hq, idx_bad l f (pos + 1) (by omega)]
          constructor
          · rintro ⟨j, hj, h1, h2⟩; exact ⟨j, hj, by omega, h2⟩
          · rintro ⟨j, hj, h1, h2⟩
            refine ⟨j, hj, ?_, h2⟩
            by_cases e : j = pos
            · subst e; exact absurd h2 hq
            · omega
      · have hi := decodeN_hi (n := (strY l).size - pos) (b1 := ((strY l).get! (pos + 1)).toNat) (b2 := ((strY l).get! (pos + 2)).toNat) (b3 := ((strY l).get! (pos + 3)).toNat) hb
        rw [if_pos (by unfold badC; simp; omega)]
        exact ⟨fun _ => ⟨pos, hp, Nat.le_refl _, by unfold badC; simp; omega⟩, fun _ => by omega⟩
    · rw [if_neg (by omega)]
      constructor
      · intro h; omega
      · rintro ⟨j, hj, h1, _⟩; omega
theorem idx_any (l : List UInt8) : decide (0 ≤ Lib.idxFunc badC true (strY l)) = l.any fun c => badC c.toNat := by
  rw [Bool.eq_iff_iff, decide_eq_true_iff, Lib.idxFunc, idx_bad l _ 0 (by rw [strY_size]; omega), List.any_eq_true]
  constructor
  · rintro ⟨j, hj, _, h⟩; exact ⟨_, List.getElem_mem hj, h⟩
  · rintro ⟨c, hc, h⟩
    obtain ⟨j, hj, rfl⟩ := List.getElem_of_mem hc
    exact ⟨j, hj, Nat.zero_le _, h⟩
theorem may_c (x : Nat) (w : World) : Fc Tryd.prog 42 [.int .i32 (x : Int)] w fun v w' => v = .bool (!badC x) ∧ St [] w w' [] := by
  refine fc_i TB_ok Tryd.func42 rfl (by kernel_rfl) ?_
  have hS := Sf.refl w
  by_cases h1 : x < 33
  · have g1 : decide ((33 : Int) ≤ (x : Int)) = false := decide_eq_false (by omega)
    have e : badC x = true := by unfold badC; simp [h1]
    rw [e]
    repeat ((conv => whnf); first | (apply q_i; focus (intro w1 hS; (conv => whnf); first | exact ⟨rfl, rfl⟩)) | (refine nw_f hS ?_; intro b w1 hS) | (refine as_i hS ?_) | (refine as_i (hS.subs (List.nil_sublist _) (by repeat (first | exact List.Sublist.refl _ | apply List.Sublist.cons_cons | apply List.Sublist.cons))) ?_) | (refine as_i (hS.subs (List.Sublist.refl _) (by repeat (first | exact List.Sublist.refl _ | apply List.Sublist.cons_cons | apply List.Sublist.cons))) ?_) | (refine bar_f hS ?_) | (refine drawf TB_ok rfl (by kernel_rfl) (by kernel_rfl) hS (List.Sublist.refl _) (List.Sublist.refl _) ?_; intro w1 hS) | (refine br_t (by assumption) ?_) | (refine br_f (by assumption) ?_))
    exact ⟨rfl, hS.nil⟩
  have g1 : decide ((33 : Int) ≤ (x : Int)) = true := decide_eq_true (by omega)
  by_cases h2 : x < 126
  · have g2 : decide ((x : Int) < 126) = true := decide_eq_true (by omega)
    by_cases h3 : x = 47
    · subst h3
      repeat ((conv => whnf); first | (apply q_i; focus (intro w1 hS; (conv => whnf); first | exact ⟨rfl, rfl⟩)) | (refine nw_f hS ?_; intro b w1 hS) | (refine as_i hS ?_) | (refine as_i (hS.subs (List.nil_sublist _) (by repeat (first | exact List.Sublist.refl _ | apply List.Sublist.cons_cons | apply List.Sublist.cons))) ?_) | (refine as_i (hS.subs (List.Sublist.refl _) (by repeat (first | exact List.Sublist.refl _ | apply List.Sublist.cons_cons | apply List.Sublist.cons))) ?_) | (refine bar_f hS ?_) | (refine drawf TB_ok rfl (by kernel_rfl) (by kernel_rfl) hS (List.Sublist.refl _) (List.Sublist.refl _) ?_; intro w1 hS) | (refine br_t (by assumption) ?_) | (refine br_f (by assumption) ?_))
      exact ⟨rfl, hS.nil⟩
    · have g3 : ((x : Int) != 47) = true := by simp; omega
      have e : badC x = false := by unfold badC; simp; omega
      rw [e]
      repeat ((conv => whnf); first | (apply q_i; focus (intro w1 hS; (conv => whnf); first | exact ⟨rfl, rfl⟩)) | (refine nw_f hS ?_; intro b w1 hS) | (refine as_i hS ?_) | (refine as_i (hS.subs (List.nil_sublist _) (by repeat (first | exact List.Sublist.refl _ | apply List.Sublist.cons_cons | apply List.Sublist.cons))) ?_) | (refine as_i (hS.subs (List.Sublist.refl _) (by repeat (first | exact List.Sublist.refl _ | apply List.Sublist.cons_cons | apply List.Sublist.cons))) ?_) | (refine bar_f hS ?_) | (refine drawf TB_ok rfl (by kernel_rfl) (by kernel_rfl) hS (List.Sublist.refl _) (List.Sublist.refl _) ?_; intro w1 hS) | (refine br_t (by assumption) ?_) | (refine br_f (by assumption) ?_))
      exact ⟨congrArg Value.bool g3, hS.nil⟩
  · have g2 : decide ((x : Int) < 126) = false := decide_eq_false (by omega)
    have e : badC x = true := by unfold badC; simp; omega
    rw [e]
    repeat ((conv => whnf); first | (apply q_i; focus (intro w1 hS; (conv => whnf); first | exact ⟨rfl, rfl⟩)) | (refine nw_f hS ?_; intro b w1 hS) | (refine as_i hS ?_) | (refine as_i (hS.subs (List.nil_sublist _) (by repeat (first | exact List.Sublist.refl _ | apply List.Sublist.cons_cons | apply List.Sublist.cons))) ?_) | (refine as_i (hS.subs (List.Sublist.refl _) (by repeat (first | exact List.Sublist.refl _ | apply List.Sublist.cons_cons | apply List.Sublist.cons))) ?_) | (refine bar_f hS ?_) | (refine drawf TB_ok rfl (by kernel_rfl) (by kernel_rfl) hS (List.Sublist.refl _) (List.Sublist.refl _) ?_; intro w1 hS) | (refine br_t (by assumption) ?_) | (refine br_f (by assumption) ?_))
    exact ⟨rfl, hS.nil⟩
theorem check1_c (x : Nat) (w : World) : Fc Tryd.prog 41 [.int .i32 (x : Int)] w fun v w' => v = .bool (badC x) ∧ St [] w w' [] := by
  refine fc_i TB_ok Tryd.func41 rfl (by kernel_rfl) ?_
  have hS := Sf.refl w
  repeat ((conv => whnf); first | (apply q_i; focus (intro w1 hS; (conv => whnf); first | exact ⟨rfl, rfl⟩)) | (refine nw_f hS ?_; intro b w1 hS) | (refine as_i hS ?_) | (refine as_i (hS.subs (List.nil_sublist _) (by repeat (first | exact List.Sublist.refl _ | apply List.Sublist.cons_cons | apply List.Sublist.cons))) ?_) | (refine as_i (hS.subs (List.Sublist.refl _) (by repeat (first | exact List.Sublist.refl _ | apply List.Sublist.cons_cons | apply List.Sublist.cons))) ?_) | (refine bar_f hS ?_) | (refine drawf TB_ok rfl (by kernel_rfl) (by kernel_rfl) hS (List.Sublist.refl _) (List.Sublist.refl _) ?_; intro w1 hS) | (refine br_t (by assumption) ?_) | (refine br_f (by assumption) ?_))
  refine fc_m (may_c x _) ?_; rintro v w1 ⟨rfl, hS'⟩; replace hS := hS.call0 hS'
  repeat ((conv => whnf); first | (apply q_i; focus (intro w1 hS; (conv => whnf); first | exact ⟨rfl, rfl⟩)) | (refine nw_f hS ?_; intro b w1 hS) | (refine as_i hS ?_) | (refine as_i (hS.subs (List.nil_sublist _) (by repeat (first | exact List.Sublist.refl _ | apply List.Sublist.cons_cons | apply List.Sublist.cons))) ?_) | (refine as_i (hS.subs (List.Sublist.refl _) (by repeat (first | exact List.Sublist.refl _ | apply List.Sublist.cons_cons | apply List.Sublist.cons))) ?_) | (refine bar_f hS ?_) | (refine drawf TB_ok rfl (by kernel_rfl) (by kernel_rfl) hS (List.Sublist.refl _) (List.Sublist.refl _) ?_; intro w1 hS) | (refine br_t (by assumption) ?_) | (refine br_f (by assumption) ?_))
  exact ⟨by rw [Bool.not_not], hS.nil⟩
theorem enters1 : ∀ args w, (callFunc 41 args).run Tryd.prog w = .ok (.enter 41 args) w := fun args w => run_callFunc_body Tryd.func41 rfl (by kernel_rfl)
theorem has_c (l : List UInt8) (w : World) : Fc Tryd.prog 40 [.string (strY l), .func (.func 41) #[] #[]] w fun v w' => v = .bool (l.any fun c => badC c.toNat) ∧ St [] w w' [] := by
  refine fc_of_calls Tryd.func40 rfl (by kernel_rfl) ?_
  have h := Any.strings_ContainsFunc_grows laysw17 41 #[] enters1 badC (strY l) w (fun W x _ _ => by
    have := calls_of_fc Tryd.func41 rfl (by kernel_rfl) (check1_c x W)
    exact this.mono fun e w' ⟨v, he, hv, hS⟩ => ⟨by rw [he, hv], hS.below⟩)
  rw [idx_any] at h
  exact h.mono fun e w' ⟨he, hw⟩ => ⟨_, he, rfl, St.of_below' hw⟩
end Go.RV.C08
