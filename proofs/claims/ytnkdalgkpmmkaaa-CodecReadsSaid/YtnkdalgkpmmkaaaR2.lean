/- What chapter 1's claims hand over, opened. Conditions: none. -/
import Derived.Test.YtnkdalgkpmmkaaaR1
import Derived.Test.YtnkdalgkpmmkaaaV14
set_option linter.unusedVariables false
namespace Go.RV
open Go Go.Proofs Go.ChangeShapes Go.WideShapes Go.RowKit
instance : Inhabited Ask := ⟨⟨0, 0⟩⟩
section
variable {W w : World} {r : Reach} {b0 : Nat} {v : Value}
variable {H : Type} {en : TypeId × Value → H} {base : Nat} {spare : Nat → Bool} {held : Bool} {d : DataW H} {ps : List MemPlace}
theorem open_asks (hv : Value.okWide Try.prog w r b0 41 v) (h : DataW.Trod en Try.prog w base spare held 41 v d ps) :
    ∃ (A : Option Addr) (c : Nat) (xs : List Ask), v = .slice A xs.length c ∧ xs.length ≤ c ∧ c ≤ maxLen ∧ Rd w A (flat encK xs) ∧ (∀ x ∈ xs, 0 ≤ x.kind) ∧ (A = none → c = 0) := by
  refine open_list Try.underlying41 (sz := 2) (by kernel_rfl) (by decide) encK_len ?_ hv h
  intro n cs x hx
  obtain ⟨y0, y1, m, _, hl, h0, h1⟩ := trod_struct2 Try.underlying47 hx
  have hl2 : cs.length = 2 := hl.trans (by kernel_rfl)
  obtain ⟨a, b, rfl⟩ := cells2 hl2
  obtain ⟨i, e0, _, hi⟩ := DataW.trod_int Try.underlying5 h0
  obtain ⟨t, e1, _, ht⟩ := DataW.trod_int Try.underlying3 h1
  have c1 : Try.prog.cellsOf 3 = 1 := by kernel_rfl
  have c3 : Try.prog.cellsOf 5 = 1 := by kernel_rfl
  simp [c1, c3] at e0 e1
  subst e0
  subst e1
  exact ⟨⟨i, t⟩, rfl, (wf_int hi).1⟩
end
end Go.RV
