/- What chapter 7's claims hand over, opened: a value, a content. Conditions: none. -/
import Derived.Test.YtedoalnjdanebaaJ1
import Derived.Test.YtedoalnjdanebaaE5
set_option linter.unusedVariables false
set_option maxRecDepth 20000
namespace Go.RV
open Go Go.Proofs Go.ChangeShapes Go.WideShapes Go.RowKit
theorem cells2 {cs : List Value} (h : cs.length = 2) : ∃ a b, cs = [a, b] := by
  match cs, h with
  | [a, b], _ => exact ⟨a, b, rfl⟩
section
variable {W w : World} {r : Reach} {b0 : Nat} {v : Value}
variable {H : Type} {en : TypeId × Value → H} {base : Nat} {spare : Nat → Bool} {held : Bool} {d : DataW H} {ps : List MemPlace}
theorem open_val (hv : Value.okWide Try.prog w r b0 24 v) (h : DataW.Trod en Try.prog w base spare held 24 v d ps) :
    ∃ (d1 : Bool) (n1 : Int) (A1 : Option Addr) (c1 : Nat) (xs : List Int), v = valV d1 n1 A1 xs.length c1 ∧
      Rd w A1 (flat encU xs) ∧ (-9223372036854775808 ≤ n1 ∧ n1 ≤ 9223372036854775807) ∧
      (∀ x ∈ xs, 0 ≤ x ∧ x ≤ 4294967295) ∧ xs.length ≤ c1 := by
  obtain ⟨cs, rfl, hl, hc⟩ := okWide_cells (.inl ⟨_, Try.underlying24⟩) (ts := [4, 3, 22]) (by kernel_rfl) (by kernel_rfl) hv
  obtain ⟨x0, x1, x2, rfl⟩ := cells3 hl
  obtain ⟨_, e0, h0⟩ := hc 0 _ rfl
  obtain ⟨_, e1, h1⟩ := hc 1 _ rfl
  obtain ⟨_, e2, h2⟩ := hc 2 _ rfl
  cases e0; cases e1; cases e2
  obtain ⟨d1, rfl⟩ := cell_bool Try.underlying4 h0
  obtain ⟨n1, rfl, hn1⟩ := cell_int Try.underlying3 h1
  obtain ⟨fuel, hf⟩ := h
  obtain ⟨y0, y1, y2, m1, _, _, _, _, g2⟩ := Go.Deep.trod_struct3 Try.underlying24 hf
  simp [Value.cells] at g2
  have u2 : Value.okWide Try.prog w r b0 22 x2 := by simp only [Value.okWide, Try.underlying22]; exact h2
  obtain ⟨_, _, _, q2⟩ := okWide_slice Try.underlying22 u2
  obtain ⟨A1, c1, xs, rfl, hle1, _, hR1, hx1, _⟩ := open_us u2 ⟨m1, by rw [q2] at g2 ⊢; exact g2⟩
  exact ⟨d1, n1, A1, c1, xs, rfl, hR1, ⟨hn1.1, hn1.2⟩, hx1, hle1⟩
theorem open_con (hv : Value.okWide Try.prog w r b0 38 v) : ∃ (dc : Bool) (s : List UInt8), v = conV dc s := by
  obtain ⟨cs, rfl, hl, hc⟩ := okWide_cells (.inl ⟨_, Try.underlying38⟩) (ts := [4, 9]) (by kernel_rfl) (by kernel_rfl) hv
  obtain ⟨x0, x1, rfl⟩ := cells2 hl
  obtain ⟨_, e0, h0⟩ := hc 0 _ rfl
  obtain ⟨_, e1, h1⟩ := hc 1 _ rfl
  cases e0; cases e1
  obtain ⟨d1, rfl⟩ := cell_bool Try.underlying4 h0
  obtain ⟨s, rfl, hn⟩ := cell_string Try.underlying9 h1
  exact ⟨d1, s.data.toList, by rw [conV, strY_data]⟩
end
end Go.RV
