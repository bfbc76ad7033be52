/- Contracts of functions of chapter 4: Parse, Seen. Conditions: none. -/
import Derived.Test.YtnhlpmnehdackaaGreatPa5
set_option maxRecDepth 20000
set_option linter.unusedVariables false
set_option linter.unusedSimpArgs false
namespace Go.RV.C04
open Go Go.Proofs Go.RowKit

def plainL : Lst := fun s => (s, 0)
theorem parse1_c (s : List UInt8) (w : World) : Fc Tryz.prog 90 [.string (strY s)] w fun v w' => v = .tuple #[.string (strY s), .int .i64 0] ∧ St [] w w' [] := by
  refine fc_i TB_ok Tryz.func90 rfl (by kernel_rfl) ?_
  have hS := Sf.refl w
  repeat ((conv => whnf); first | (apply q_i; focus (intro w1 hS; (conv => whnf); first | exact ⟨rfl, rfl⟩)) | (refine nw_f hS ?_; intro b w1 hS) | (refine as_i hS ?_) | (refine as_i (hS.subs (List.nil_sublist _) (by repeat (first | exact List.Sublist.refl _ | apply List.Sublist.cons_cons | apply List.Sublist.cons))) ?_) | (refine as_i (hS.subs (List.Sublist.refl _) (by repeat (first | exact List.Sublist.refl _ | apply List.Sublist.cons_cons | apply List.Sublist.cons))) ?_) | (refine bar_f hS ?_) | (refine drawf TB_ok rfl (by kernel_rfl) (by kernel_rfl) hS (List.Sublist.refl _) (List.Sublist.refl _) ?_; intro w1 hS) | (refine br_t (by assumption) ?_) | (refine br_f (by assumption) ?_))
  exact ⟨rfl, hS.nil⟩
def parseT (p : List UInt8) : List (List UInt8) × Int × Option (List UInt8) := readT 36 plainL p
theorem parse_c (p : List UInt8) (hp : p.length ≤ 4611686018427387904) (w : World) : Fc Tryz.prog 63 [.string (strY p)] w fun v w' => ∃ A c Lv, v = .tuple #[.slice A (parseT p).1.length c, .int .i64 (parseT p).2.1] ∧
    Sl 9 1 (.slice A (parseT p).1.length c) (parseT p).1.length (flat encT (parseT p).1) Lv ∧ St [] w w' Lv := by
  refine fc_i TB_ok Tryz.func63 rfl (by kernel_rfl) ?_
  have hS := Sf.refl w
  have hr := fun w => read_c p hp 36 (by decide) (.func 90) #[] #[] [] (fun _ => []) plainL w (St.refl w) (fun s w' _ _ => Cv.of_fc ((parse1_c s w').mono fun v w'' h => h))
  repeat ((conv => whnf); first | (apply q_i; focus (intro w1 hS; (conv => whnf); first | exact ⟨rfl, rfl⟩)) | (refine nw_f hS ?_; intro b w1 hS) | (refine as_i hS ?_) | (refine as_i (hS.subs (List.nil_sublist _) (by repeat (first | exact List.Sublist.refl _ | apply List.Sublist.cons_cons | apply List.Sublist.cons))) ?_) | (refine as_i (hS.subs (List.Sublist.refl _) (by repeat (first | exact List.Sublist.refl _ | apply List.Sublist.cons_cons | apply List.Sublist.cons))) ?_) | (refine bar_f hS ?_) | (refine drawf TB_ok rfl (by kernel_rfl) (by kernel_rfl) hS (List.Sublist.refl _) (List.Sublist.refl _) ?_; intro w1 hS) | (refine br_t (by assumption) ?_) | (refine br_f (by assumption) ?_))
  refine fc_m (hr _) ?_
  rintro v w1 ⟨A, c, Lv, rfl, hv, hS'⟩
  have e : cbL [] (fun _ => []) (readT 36 plainL p).2.2 = [] := by cases (readT 36 plainL p).2.2 <;> rfl
  rw [e] at hS'
  replace hS := hS.callF hS'
  repeat ((conv => whnf); first | (apply q_i; focus (intro w1 hS; (conv => whnf); first | exact ⟨rfl, rfl⟩)) | (refine nw_f hS ?_; intro b w1 hS) | (refine as_i hS ?_) | (refine as_i (hS.subs (List.nil_sublist _) (by repeat (first | exact List.Sublist.refl _ | apply List.Sublist.cons_cons | apply List.Sublist.cons))) ?_) | (refine as_i (hS.subs (List.Sublist.refl _) (by repeat (first | exact List.Sublist.refl _ | apply List.Sublist.cons_cons | apply List.Sublist.cons))) ?_) | (refine bar_f hS ?_) | (refine drawf TB_ok rfl (by kernel_rfl) (by kernel_rfl) hS (List.Sublist.refl _) (List.Sublist.refl _) ?_; intro w1 hS) | (refine br_t (by assumption) ?_) | (refine br_f (by assumption) ?_))
  exact ⟨A, c, Lv, rfl, hv, by simpa using hS.fr (List.sublist_append_left _ _)⟩
def dotO (d : Int × Int) : Obj := .cells #[.int .u8 d.1, .int .u32 d.2] 54 (0, 0)
def isO (b : Bool) : Obj := .cells #[.bool b] 4 (0, 0)
theorem _root_.Go.RV.St.open {Lx : LM} {w w2 : World} (h0 : St (keys Lx) w w Lx) (h : St [] w w2 []) : St (keys Lx) w w2 Lx := h0.call0 h
end Go.RV.C04
