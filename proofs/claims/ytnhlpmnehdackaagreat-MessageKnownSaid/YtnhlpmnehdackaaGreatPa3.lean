/- Contracts of functions of chapter 4: a text cut at a byte. Conditions: none. -/
import Derived.Test.YtnhlpmnehdackaaGreatPa1
import Derived.Lib.Bytealg
import Derived.Laws.Externs
set_option maxRecDepth 20000
set_option linter.unusedVariables false
set_option linter.unusedSimpArgs false
namespace Go.RV.C04
open Go Go.Proofs Go.RowKit

theorem idxBS_c (s : ByteArray) (c : Int) (w : World) : Fc Tryz.prog 132 [.string s, .int .u8 c] w fun v w' => v = .int .i64 (Lib.indexByte s.data.toList c.toNat.toUInt8) ∧ St [] w w' [] := by
  refine ⟨SemW.of_run (a := .value (.int .i64 (Lib.indexByte s.data.toList c.toNat.toUInt8))) (w' := w) ?_ ⟨rfl, St.refl w⟩⟩
  rw [show [Value.string s, Value.int .u8 c].toArray = #[Value.string s, Value.int .u8 c] from rfl, run_callFunc_extern Tryz.func132 (by kernel_rfl) (by kernel_rfl) (by kernel_rfl) (e := Extern.BytealgIndexByte.indexByte) (by kernel_rfl), Lib.run_indexByteString]
  rfl
theorem idxB_c (s : ByteArray) (c : Int) (w : World) : Fc Tryz.prog 128 [.string s, .int .u8 c] w fun v w' => v = .int .i64 (Lib.indexByte s.data.toList c.toNat.toUInt8) ∧ St [] w w' [] := by
  refine fc_i TB_ok Tryz.func128 rfl (by kernel_rfl) ?_
  have hS := Sf.refl w
  repeat ((conv => whnf); first | (apply q_i; focus (intro w1 hS; (conv => whnf); first | exact ⟨rfl, rfl⟩ | ((refine fc_m (idxBS_c _ _ _) ?_; rintro v w3 ⟨rfl, hS'⟩; replace hS := hS.call0 hS'); (conv => whnf); exact ⟨rfl, rfl⟩))) | (refine nw_f hS ?_; intro b w1 hS) | (refine as_i hS ?_) | (refine as_i (hS.subs (List.nil_sublist _) (by repeat (first | exact List.Sublist.refl _ | apply List.Sublist.cons_cons | apply List.Sublist.cons))) ?_) | (refine as_i (hS.subs (List.Sublist.refl _) (by repeat (first | exact List.Sublist.refl _ | apply List.Sublist.cons_cons | apply List.Sublist.cons))) ?_) | (refine bar_f hS ?_) | (refine fc_m (idxBS_c _ _ _) ?_; rintro v w3 ⟨rfl, hS'⟩; replace hS := hS.call0 hS') | (refine drawf TB_ok rfl (by kernel_rfl) (by kernel_rfl) hS (List.Sublist.refl _) (List.Sublist.refl _) ?_; intro w1 hS) | (refine br_t (by assumption) ?_) | (refine br_f (by assumption) ?_))
  exact ⟨rfl, hS.nil⟩
theorem idx1_c (l : List UInt8) (c : UInt8) (w : World) : Fc Tryz.prog 126 [.string (strY l), .string (strY [c])] w fun v w' => v = .int .i64 (Lib.indexByte l c) ∧ St [] w w' [] := by
  refine fc_i TB_ok Tryz.func126 rfl (by kernel_rfl) ?_
  have hS := Sf.refl w
  have hc : ((c.toNat : Int)).toNat.toUInt8 = c := by rw [Int.toNat_natCast]; simp
  have hb := fun w => idxB_c (strY l) (c.toNat : Int) w
  rw [hc] at hb
  have hq := streq_strY [c] l
  by_cases he : [c] = l
  · rw [decide_eq_true he] at hq
    repeat ((conv => whnf); first | (apply q_i; focus (intro w1 hS; (conv => whnf); first | exact ⟨rfl, rfl⟩)) | (refine nw_f hS ?_; intro b w1 hS) | (refine as_i hS ?_) | (refine as_i (hS.subs (List.nil_sublist _) (by repeat (first | exact List.Sublist.refl _ | apply List.Sublist.cons_cons | apply List.Sublist.cons))) ?_) | (refine as_i (hS.subs (List.Sublist.refl _) (by repeat (first | exact List.Sublist.refl _ | apply List.Sublist.cons_cons | apply List.Sublist.cons))) ?_) | (refine bar_f hS ?_) | (refine drawf TB_ok rfl (by kernel_rfl) (by kernel_rfl) hS (List.Sublist.refl _) (List.Sublist.refl _) ?_; intro w1 hS) | (refine br_t (by assumption) ?_) | (refine br_f (by assumption) ?_))
    refine ⟨?_, hS.nil⟩
    rw [← he]
    simp [Lib.indexByte]
  · rw [decide_eq_false he] at hq
    repeat ((conv => whnf); first | (apply q_i; focus (intro w1 hS; (conv => whnf); first | exact ⟨rfl, rfl⟩ | ((refine .mk ⟨by omega, by rw [strY_size]; simp⟩ ?_); (conv => whnf); exact ⟨rfl, rfl⟩) | ((refine fc_m (hb _) ?_; rintro v w3 ⟨rfl, hS'⟩; replace hS := hS.call0 hS'); (conv => whnf); exact ⟨rfl, rfl⟩))) | (refine nw_f hS ?_; intro b w1 hS) | (refine as_i hS ?_) | (refine as_i (hS.subs (List.nil_sublist _) (by repeat (first | exact List.Sublist.refl _ | apply List.Sublist.cons_cons | apply List.Sublist.cons))) ?_) | (refine as_i (hS.subs (List.Sublist.refl _) (by repeat (first | exact List.Sublist.refl _ | apply List.Sublist.cons_cons | apply List.Sublist.cons))) ?_) | (refine bar_f hS ?_) | (refine .mk ⟨by omega, by rw [strY_size]; simp⟩ ?_) | (refine fc_m (hb _) ?_; rintro v w3 ⟨rfl, hS'⟩; replace hS := hS.call0 hS') | (refine drawf TB_ok rfl (by kernel_rfl) (by kernel_rfl) hS (List.Sublist.refl _) (List.Sublist.refl _) ?_; intro w1 hS) | (refine br_t (by assumption) ?_) | (refine br_f (by assumption) ?_))
    exact ⟨rfl, hS.nil⟩
/-- a text cut at the first such byte -/
def cutP (c : UInt8) : List UInt8 → List UInt8 × List UInt8 × Bool
  | [] => ([], [], false)
  | b :: r => if b = c then ([], r, true) else (b :: (cutP c r).1, (cutP c r).2)
theorem cut_idx (c : UInt8) : ∀ l : List UInt8, (Lib.indexByte l c = -1 ∧ cutP c l = (l, [], false)) ∨ ∃ i : Nat, i < l.length ∧ Lib.indexByte l c = (i : Int) ∧ cutP c l = (l.take i, l.drop (i + 1), true)
  | [] => .inl ⟨rfl, rfl⟩
  | b :: r => by
    unfold Lib.indexByte cutP
    by_cases hb : b = c
    · subst hb
      exact .inr ⟨0, by simp, by simp, by simp⟩
    · rw [if_neg (by simpa using hb), if_neg hb]
      rcases cut_idx c r with ⟨h1, h2⟩ | ⟨i, hi, h1, h2⟩
      · left
        rw [h1, h2]
        exact ⟨rfl, rfl⟩
      · right
        refine ⟨i + 1, by simpa using hi, ?_, ?_⟩
        · rw [h1, if_neg (by simp)]
          omega
        · rw [h2]
          simp
theorem lcut_c (l : List UInt8) (c : UInt8) (hl : l.length ≤ 4611686018427387904) (w : World) : Fc Tryz.prog 124 [.string (strY l), .string (strY [c])] w fun v w' => v = .tuple #[.string (strY (cutP c l).1), .string (strY (cutP c l).2.1), .bool (cutP c l).2.2] ∧ St [] w w' [] := by
  refine fc_i TB_ok Tryz.func124 rfl (by kernel_rfl) ?_
  have hS := Sf.refl w
  have hi := fun w => idx1_c l c w
  have hz := strY_size l
  rcases cut_idx c l with ⟨h1, h2⟩ | ⟨i, hil, h1, h2⟩
  · rw [h1] at hi
    rw [h2]
    repeat ((conv => whnf); first | (apply q_i; focus (intro w1 hS; (conv => whnf); first | exact ⟨rfl, rfl⟩ | ((refine fc_m (hi _) ?_; rintro v w3 ⟨rfl, hS'⟩; replace hS := hS.call0 hS'); (conv => whnf); exact ⟨rfl, rfl⟩))) | (refine nw_f hS ?_; intro b w1 hS) | (refine as_i hS ?_) | (refine as_i (hS.subs (List.nil_sublist _) (by repeat (first | exact List.Sublist.refl _ | apply List.Sublist.cons_cons | apply List.Sublist.cons))) ?_) | (refine as_i (hS.subs (List.Sublist.refl _) (by repeat (first | exact List.Sublist.refl _ | apply List.Sublist.cons_cons | apply List.Sublist.cons))) ?_) | (refine bar_f hS ?_) | (refine fc_m (hi _) ?_; rintro v w3 ⟨rfl, hS'⟩; replace hS := hS.call0 hS') | (refine drawf TB_ok rfl (by kernel_rfl) (by kernel_rfl) hS (List.Sublist.refl _) (List.Sublist.refl _) ?_; intro w1 hS) | (refine br_t (by assumption) ?_) | (refine br_f (by assumption) ?_))
    exact ⟨rfl, hS.nil⟩
  · rw [h1] at hi
    rw [h2]
    have g : decide ((0 : Int) ≤ (i : Int)) = true := decide_eq_true (by omega)
    have h1s : (strY [c]).size = 1 := strY_size [c]
    have hw : IntKind.i64.wrap ((i : Int) + ((strY [c]).size : Int)) = ((i + 1 : Nat) : Int) := by rw [h1s]; exact wi (n := l.length) hil (by omega)
    repeat ((conv => whnf); first | (apply q_i; focus (intro w1 hS; (conv => whnf); first | exact ⟨rfl, rfl⟩ | ((refine fc_m (hi _) ?_; rintro v w3 ⟨rfl, hS'⟩; replace hS := hS.call0 hS'); (conv => whnf); exact ⟨rfl, rfl⟩))) | (refine nw_f hS ?_; intro b w1 hS) | (refine as_i hS ?_) | (refine as_i (hS.subs (List.nil_sublist _) (by repeat (first | exact List.Sublist.refl _ | apply List.Sublist.cons_cons | apply List.Sublist.cons))) ?_) | (refine as_i (hS.subs (List.Sublist.refl _) (by repeat (first | exact List.Sublist.refl _ | apply List.Sublist.cons_cons | apply List.Sublist.cons))) ?_) | (refine bar_f hS ?_) | (refine fc_m (hi _) ?_; rintro v w3 ⟨rfl, hS'⟩; replace hS := hS.call0 hS') | (refine br_t (by assumption) ?_) | (refine br_f (by assumption) ?_))
    refine drawf (Ls := []) TB_ok rfl (by kernel_rfl) (by kernel_rfl) hS (List.nil_sublist _) (List.nil_sublist _) ?_; intro w1 hS
    repeat ((conv => whnf); first | (apply q_i; focus (intro w1 hS; (conv => whnf); first | exact ⟨rfl, rfl⟩ | ((refine .mk ⟨by omega, by omega⟩ ?_); (conv => whnf); exact ⟨rfl, rfl⟩) | ((refine .mk (by omega) ?_); (conv => whnf); exact ⟨rfl, rfl⟩) | ((refine .mk (by rw [hw]; constructor <;> omega) ?_); (conv => whnf); exact ⟨rfl, rfl⟩))) | (refine nw_f hS ?_; intro b w1 hS) | (refine as_i hS ?_) | (refine as_i (hS.subs (List.nil_sublist _) (by repeat (first | exact List.Sublist.refl _ | apply List.Sublist.cons_cons | apply List.Sublist.cons))) ?_) | (refine as_i (hS.subs (List.Sublist.refl _) (by repeat (first | exact List.Sublist.refl _ | apply List.Sublist.cons_cons | apply List.Sublist.cons))) ?_) | (refine bar_f hS ?_) | (refine .mk ⟨by omega, by omega⟩ ?_) | (refine .mk (by omega) ?_) | (refine .mk (by rw [hw]; constructor <;> omega) ?_) | (refine drawf TB_ok rfl (by kernel_rfl) (by kernel_rfl) hS (List.Sublist.refl _) (List.Sublist.refl _) ?_; intro w1 hS) | (refine br_t (by assumption) ?_) | (refine br_f (by assumption) ?_))
    refine ⟨?_, hS.nil⟩
    have e1 : (strY l).extract 0 ((i : Int)).toNat = strY (l.take i) := by rw [strY_extract, Int.toNat_natCast, List.drop_zero]
    have e2 : (strY l).extract (IntKind.i64.wrap ((i : Int) + ((strY [c]).size : Int))).toNat (strY l).size = strY (l.drop (i + 1)) := by
      rw [hw, strY_extract, Int.toNat_natCast, hz, List.take_length]
    show _ = Value.tuple #[.string (strY (l.take i)), .string (strY (l.drop (i + 1))), .bool true]
    rw [← e1, ← e2]
theorem scut_c (l : List UInt8) (c : UInt8) (hl : l.length ≤ 4611686018427387904) (w : World) : Fc Tryz.prog 117 [.string (strY l), .string (strY [c])] w fun v w' => v = .tuple #[.string (strY (cutP c l).1), .string (strY (cutP c l).2.1), .bool (cutP c l).2.2] ∧ St [] w w' [] := by
  refine fc_i TB_ok Tryz.func117 rfl (by kernel_rfl) ?_
  have hS := Sf.refl w
  repeat ((conv => whnf); first | (apply q_i; focus (intro w1 hS; (conv => whnf); first | exact ⟨rfl, rfl⟩ | ((refine fc_m (lcut_c l c hl _) ?_; rintro v w3 ⟨rfl, hS'⟩; replace hS := hS.call0 hS'); (conv => whnf); exact ⟨rfl, rfl⟩))) | (refine nw_f hS ?_; intro b w1 hS) | (refine as_i hS ?_) | (refine as_i (hS.subs (List.nil_sublist _) (by repeat (first | exact List.Sublist.refl _ | apply List.Sublist.cons_cons | apply List.Sublist.cons))) ?_) | (refine as_i (hS.subs (List.Sublist.refl _) (by repeat (first | exact List.Sublist.refl _ | apply List.Sublist.cons_cons | apply List.Sublist.cons))) ?_) | (refine bar_f hS ?_) | (refine fc_m (lcut_c l c hl _) ?_; rintro v w3 ⟨rfl, hS'⟩; replace hS := hS.call0 hS') | (refine drawf TB_ok rfl (by kernel_rfl) (by kernel_rfl) hS (List.Sublist.refl _) (List.Sublist.refl _) ?_; intro w1 hS) | (refine br_t (by assumption) ?_) | (refine br_f (by assumption) ?_))
  exact ⟨rfl, hS.nil⟩
end Go.RV.C04
