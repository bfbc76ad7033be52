/- What chapter 5's claims hand over, opened: moves. Conditions: none. -/
import Derived.Test.YtonmadhoalbinaaQ1
import Derived.Test.YtonmadhoalbinaaA16
set_option linter.unusedVariables false
set_option maxRecDepth 20000
namespace Go.RV
open Go Go.Proofs Go.ChangeShapes Go.WideShapes Go.RowKit
theorem cells3 {cs : List Value} (h : cs.length = 3) : ∃ a b c, cs = [a, b, c] := by
  match cs, h with
  | [a, b, c], _ => exact ⟨a, b, c, rfl⟩
section
variable {W w : World} {r : Reach} {b0 : Nat} {v : Value}
variable {H : Type} {en : TypeId × Value → H} {base : Nat} {spare : Nat → Bool} {held : Bool} {d : DataW H} {ps : List MemPlace}
theorem open_moves (hv : Value.okWide Try.prog w r b0 40 v) (h : DataW.Trod en Try.prog w base spare held 40 v d ps) :
    ∃ (A : Option Addr) (c : Nat) (xs : List (Int × Int × Bool)), v = .slice A xs.length c ∧ xs.length ≤ c ∧ c ≤ maxLen ∧ Rd w A (flat encMv xs) ∧ (∀ x ∈ xs, (0 ≤ x.1 ∧ x.1 ≤ 255) ∧ 0 ≤ x.2.1 ∧ x.2.1 ≤ 255) ∧ (A = none → c = 0) := by
  refine open_list Try.underlying40 (sz := 3) (by kernel_rfl) (by decide) encMv_len ?_ hv h
  intro n cs x hx
  obtain ⟨y0, y1, y2, m, _, hl, h0, h1, h2⟩ := Go.Deep.trod_struct3 Try.underlying46 hx
  have hl3 : cs.length = 3 := hl.trans (by kernel_rfl)
  obtain ⟨a, b, c, rfl⟩ := cells3 hl3
  obtain ⟨i, e0, _, hi⟩ := DataW.trod_int Try.underlying5 h0
  obtain ⟨t, e1, _, ht⟩ := DataW.trod_int Try.underlying5 h1
  obtain ⟨j, e2, _⟩ := DataW.trod_bool Try.underlying4 h2
  have c1 : Try.prog.cellsOf 5 = 1 := by kernel_rfl
  have c2 : Try.prog.cellsOf 4 = 1 := by kernel_rfl
  simp [c1, c2] at e0 e1 e2
  subst e0
  subst e1
  subst e2
  have k1 := wf_int hi
  have k2 := wf_int ht
  exact ⟨(i, t, j), rfl, ⟨k1.1, k1.2⟩, k2.1, k2.2⟩
end
end Go.RV
