/- What chapter 5's claims hand over, opened: three vectors. Conditions: none. -/
import Derived.Test.YtonmadhoalbinaaQ1
import Derived.Test.YtonmadhoalbinaaA6
set_option linter.unusedVariables false
namespace Go.RV
open Go Go.Proofs Go.ChangeShapes Go.WideShapes Go.RowKit
theorem cells24 {cs : List Value} (h : cs.length = 24) : ∃ x0 x1 x2 x3 x4 x5 x6 x7 x8 x9 x10 x11 x12 x13 x14 x15 x16 x17 x18 x19 x20 x21 x22 x23, cs = [x0, x1, x2, x3, x4, x5, x6, x7, x8, x9, x10, x11, x12, x13, x14, x15, x16, x17, x18, x19, x20, x21, x22, x23] := by
  match cs, h with
  | [x0, x1, x2, x3, x4, x5, x6, x7, x8, x9, x10, x11, x12, x13, x14, x15, x16, x17, x18, x19, x20, x21, x22, x23], _ => exact ⟨x0, x1, x2, x3, x4, x5, x6, x7, x8, x9, x10, x11, x12, x13, x14, x15, x16, x17, x18, x19, x20, x21, x22, x23, rfl⟩
section
variable {W w : World} {r : Reach} {b0 : Nat} {v : Value}
set_option maxRecDepth 20000 in
theorem open_vec3 (h : Value.okWide Try.prog w r b0 37 v) : ∃ f g k : Nat → Int, v = vec3V f g k := by
  obtain ⟨cs, rfl, hl, hc⟩ := okWide_cells (.inr ⟨_, _, Try.underlying37⟩) (ts := List.replicate 24 22) (by kernel_rfl) (by kernel_rfl) h
  obtain ⟨x0, x1, x2, x3, x4, x5, x6, x7, x8, x9, x10, x11, x12, x13, x14, x15, x16, x17, x18, x19, x20, x21, x22, x23, rfl⟩ := cells24 hl
  obtain ⟨_, e0, h0⟩ := hc 0 _ rfl
  obtain ⟨_, e1, h1⟩ := hc 1 _ rfl
  obtain ⟨_, e2, h2⟩ := hc 2 _ rfl
  obtain ⟨_, e3, h3⟩ := hc 3 _ rfl
  obtain ⟨_, e4, h4⟩ := hc 4 _ rfl
  obtain ⟨_, e5, h5⟩ := hc 5 _ rfl
  obtain ⟨_, e6, h6⟩ := hc 6 _ rfl
  obtain ⟨_, e7, h7⟩ := hc 7 _ rfl
  obtain ⟨_, e8, h8⟩ := hc 8 _ rfl
  obtain ⟨_, e9, h9⟩ := hc 9 _ rfl
  obtain ⟨_, e10, h10⟩ := hc 10 _ rfl
  obtain ⟨_, e11, h11⟩ := hc 11 _ rfl
  obtain ⟨_, e12, h12⟩ := hc 12 _ rfl
  obtain ⟨_, e13, h13⟩ := hc 13 _ rfl
  obtain ⟨_, e14, h14⟩ := hc 14 _ rfl
  obtain ⟨_, e15, h15⟩ := hc 15 _ rfl
  obtain ⟨_, e16, h16⟩ := hc 16 _ rfl
  obtain ⟨_, e17, h17⟩ := hc 17 _ rfl
  obtain ⟨_, e18, h18⟩ := hc 18 _ rfl
  obtain ⟨_, e19, h19⟩ := hc 19 _ rfl
  obtain ⟨_, e20, h20⟩ := hc 20 _ rfl
  obtain ⟨_, e21, h21⟩ := hc 21 _ rfl
  obtain ⟨_, e22, h22⟩ := hc 22 _ rfl
  obtain ⟨_, e23, h23⟩ := hc 23 _ rfl
  cases e0
  cases e1
  cases e2
  cases e3
  cases e4
  cases e5
  cases e6
  cases e7
  cases e8
  cases e9
  cases e10
  cases e11
  cases e12
  cases e13
  cases e14
  cases e15
  cases e16
  cases e17
  cases e18
  cases e19
  cases e20
  cases e21
  cases e22
  cases e23
  obtain ⟨n0, rfl, k0⟩ := cell_int Try.underlying22 h0
  obtain ⟨n1, rfl, k1⟩ := cell_int Try.underlying22 h1
  obtain ⟨n2, rfl, k2⟩ := cell_int Try.underlying22 h2
  obtain ⟨n3, rfl, k3⟩ := cell_int Try.underlying22 h3
  obtain ⟨n4, rfl, k4⟩ := cell_int Try.underlying22 h4
  obtain ⟨n5, rfl, k5⟩ := cell_int Try.underlying22 h5
  obtain ⟨n6, rfl, k6⟩ := cell_int Try.underlying22 h6
  obtain ⟨n7, rfl, k7⟩ := cell_int Try.underlying22 h7
  obtain ⟨n8, rfl, k8⟩ := cell_int Try.underlying22 h8
  obtain ⟨n9, rfl, k9⟩ := cell_int Try.underlying22 h9
  obtain ⟨n10, rfl, k10⟩ := cell_int Try.underlying22 h10
  obtain ⟨n11, rfl, k11⟩ := cell_int Try.underlying22 h11
  obtain ⟨n12, rfl, k12⟩ := cell_int Try.underlying22 h12
  obtain ⟨n13, rfl, k13⟩ := cell_int Try.underlying22 h13
  obtain ⟨n14, rfl, k14⟩ := cell_int Try.underlying22 h14
  obtain ⟨n15, rfl, k15⟩ := cell_int Try.underlying22 h15
  obtain ⟨n16, rfl, k16⟩ := cell_int Try.underlying22 h16
  obtain ⟨n17, rfl, k17⟩ := cell_int Try.underlying22 h17
  obtain ⟨n18, rfl, k18⟩ := cell_int Try.underlying22 h18
  obtain ⟨n19, rfl, k19⟩ := cell_int Try.underlying22 h19
  obtain ⟨n20, rfl, k20⟩ := cell_int Try.underlying22 h20
  obtain ⟨n21, rfl, k21⟩ := cell_int Try.underlying22 h21
  obtain ⟨n22, rfl, k22⟩ := cell_int Try.underlying22 h22
  obtain ⟨n23, rfl, k23⟩ := cell_int Try.underlying22 h23
  exact ⟨vec8 n0 n1 n2 n3 n4 n5 n6 n7, vec8 n8 n9 n10 n11 n12 n13 n14 n15, vec8 n16 n17 n18 n19 n20 n21 n22 n23, rfl⟩
end
end Go.RV
