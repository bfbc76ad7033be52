/- What chapter 6's claims hand over, opened: acts. Conditions: none. -/
import Derived.Test.YteipebgpifannaaH22
import Derived.Test.YteipebgpifannaaO1
import Derived.Test.YteipebgpifannaaRvN
import Derived.Deep.Strs
set_option linter.unusedVariables false
set_option maxRecDepth 20000
namespace Go.RV
open Go Go.Proofs Go.ChangeShapes Go.WideShapes Go.RowKit
instance : Inhabited Ac := ⟨⟨0, 0, 0, 0, []⟩⟩
section
variable {W w : World} {r : Reach} {b0 : Nat} {v : Value}
variable {H : Type} {en : TypeId × Value → H} {base : Nat} {spare : Nat → Bool} {held : Bool} {d : DataW H} {ps : List MemPlace}
theorem open_acts (hv : Value.okWide Try.prog w r b0 57 v) (h : DataW.Trod en Try.prog w base spare held 57 v d ps) :
    ∃ (A : Option Addr) (c : Nat) (xs : List Ac), v = .slice A xs.length c ∧ xs.length ≤ 9223372036854775807 ∧ Rd w A (flat encAc xs) ∧ ∀ x ∈ xs, x.ok := by
  have key := open_list (α := Ac) (enc := encAc) (ok := Ac.ok) Try.underlying57 (sz := 5) (by kernel_rfl) (by decide) encAc_len ?_ hv h
  · obtain ⟨A, c, xs, e, hle, hm, hR, hx, _⟩ := key
    have : maxLen = 9223372036854775807 := rfl
    exact ⟨A, c, xs, e, by omega, hR, hx⟩
  · intro n cs x hx
    obtain ⟨xs, m, _, rfl, hl, hlen, hf⟩ := DataW.trod_struct Try.underlying65 hx
    have hl5 : cs.length = 5 := hl.trans (by kernel_rfl)
    obtain ⟨a, b, c, e, f, rfl⟩ := cells5 hl5
    match xs, hlen with
    | [y0, y1, y2, y3, y4], _ =>
    have h0 := hf 0 _ rfl
    have h1 := hf 1 _ rfl
    have h2 := hf 2 _ rfl
    have h3 := hf 3 _ rfl
    have h4 := hf 4 _ rfl
    have c1 : Try.prog.cellsOf 5 = 1 := by kernel_rfl
    have c2 : Try.prog.cellsOf 9 = 1 := by kernel_rfl
    simp [c1, c2] at h0 h1 h2 h3 h4
    obtain ⟨n0, e0, _, k0⟩ := DataW.trod_int Try.underlying5 h0
    obtain ⟨n1, e1, _, k1⟩ := DataW.trod_int Try.underlying5 h1
    obtain ⟨n2, e2, _, k2⟩ := DataW.trod_int Try.underlying5 h2
    obtain ⟨n3, e3, _, k3⟩ := DataW.trod_int Try.underlying5 h3
    obtain ⟨s, e4, _, _⟩ := DataW.trod_string Try.underlying9 h4
    cases e0; cases e1; cases e2; cases e3; cases e4
    have q0 := wfi k0
    have q1 := wfi k1
    have q2 := wfi k2
    have q3 := wfi k3
    exact ⟨⟨n0, n1, n2, n3, s.data.toList⟩, by simp [encAc, strY_data], ⟨q0.1, q0.2⟩, ⟨q1.1, q1.2⟩, ⟨q2.1, q2.2⟩, q3.1, q3.2⟩
end
end Go.RV
