/- What chapter 5's claims hand over, opened. Conditions: none. -/
import Derived.Test.YtonmadhoalbinaaA1
import Derived.Test.YtonmadhoalbinaaRvN
import Derived.Deep.Strs
set_option linter.unusedVariables false
namespace Go.RV
open Go Go.Proofs Go.ChangeShapes Go.WideShapes Go.RowKit
theorem cells2 {cs : List Value} (h : cs.length = 2) : ∃ a b, cs = [a, b] := by
  match cs, h with
  | [a, b], _ => exact ⟨a, b, rfl⟩
theorem cells8 {cs : List Value} (h : cs.length = 8) : ∃ a b c d e f g k, cs = [a, b, c, d, e, f, g, k] := by
  match cs, h with
  | [a, b, c, d, e, f, g, k], _ => exact ⟨a, b, c, d, e, f, g, k, rfl⟩
theorem wf_int {k : IntKind} {n : Int} (h : (Lit.int k n).wf = true) : k.min ≤ n ∧ n ≤ k.max := by
  have h1 : (decide (k.min ≤ n) && decide (n ≤ k.max)) = true := h
  simp only [Bool.and_eq_true, decide_eq_true_eq] at h1
  exact h1
theorem strY_data (s : ByteArray) : strY s.data.toList = s := by cases s; simp [strY]
def vec8 (a b c d e f g h : Int) : Nat → Int
  | 0 => a
  | 1 => b
  | 2 => c
  | 3 => d
  | 4 => e
  | 5 => f
  | 6 => g
  | 7 => h
  | _ => 0
section
variable {W w : World} {r : Reach} {b0 : Nat} {v : Value}
theorem open_str (h : Value.okWide Try.prog w r b0 9 v) : ∃ s : List UInt8, v = .string (strY s) := by
  simp only [Value.okWide, Try.underlying9] at h
  obtain ⟨s, rfl, hn⟩ := cell_string Try.underlying9 h
  exact ⟨s.data.toList, by rw [strY_data]⟩
theorem open_vec (h : Value.okWide Try.prog w r b0 24 v) : ∃ f : Nat → Int, v = vecV f ∧ ∀ j, j < 8 → 0 ≤ f j ∧ f j ≤ 4294967295 := by
  obtain ⟨cs, rfl, hl, hc⟩ := okWide_cells (.inr ⟨_, _, Try.underlying24⟩) (ts := List.replicate 8 22) (by kernel_rfl) (by kernel_rfl) h
  obtain ⟨x0, x1, x2, x3, x4, x5, x6, x7, rfl⟩ := cells8 hl
  obtain ⟨_, e0, h0⟩ := hc 0 _ rfl
  obtain ⟨_, e1, h1⟩ := hc 1 _ rfl
  obtain ⟨_, e2, h2⟩ := hc 2 _ rfl
  obtain ⟨_, e3, h3⟩ := hc 3 _ rfl
  obtain ⟨_, e4, h4⟩ := hc 4 _ rfl
  obtain ⟨_, e5, h5⟩ := hc 5 _ rfl
  obtain ⟨_, e6, h6⟩ := hc 6 _ rfl
  obtain ⟨_, e7, h7⟩ := hc 7 _ rfl
  cases e0; cases e1; cases e2; cases e3; cases e4; cases e5; cases e6; cases e7
  obtain ⟨n0, rfl, k0⟩ := cell_int Try.underlying22 h0
  obtain ⟨n1, rfl, k1⟩ := cell_int Try.underlying22 h1
  obtain ⟨n2, rfl, k2⟩ := cell_int Try.underlying22 h2
  obtain ⟨n3, rfl, k3⟩ := cell_int Try.underlying22 h3
  obtain ⟨n4, rfl, k4⟩ := cell_int Try.underlying22 h4
  obtain ⟨n5, rfl, k5⟩ := cell_int Try.underlying22 h5
  obtain ⟨n6, rfl, k6⟩ := cell_int Try.underlying22 h6
  obtain ⟨n7, rfl, k7⟩ := cell_int Try.underlying22 h7
  refine ⟨vec8 n0 n1 n2 n3 n4 n5 n6 n7, rfl, fun j hj => ?_⟩
  rcases lt8 hj with rfl | rfl | rfl | rfl | rfl | rfl | rfl | rfl
  · exact ⟨k0.1, k0.2⟩
  · exact ⟨k1.1, k1.2⟩
  · exact ⟨k2.1, k2.2⟩
  · exact ⟨k3.1, k3.2⟩
  · exact ⟨k4.1, k4.2⟩
  · exact ⟨k5.1, k5.2⟩
  · exact ⟨k6.1, k6.2⟩
  · exact ⟨k7.1, k7.2⟩
theorem open_dot (h : Value.okWide Try.prog w r b0 26 v) : ∃ m n : Int, v = .agg #[.int .u8 m, .int .u32 n] ∧ (0 ≤ m ∧ m ≤ 255) ∧ (0 ≤ n ∧ n ≤ 4294967295) := by
  obtain ⟨cs, rfl, hl, hc⟩ := okWide_cells (.inl ⟨_, Try.underlying26⟩) (ts := [5, 22]) (by kernel_rfl) (by kernel_rfl) h
  obtain ⟨x, y, rfl⟩ := cells2 hl
  obtain ⟨_, e0, h0⟩ := hc 0 _ rfl
  obtain ⟨_, e1, h1⟩ := hc 1 _ rfl
  cases e0; cases e1
  obtain ⟨m, rfl, hm⟩ := cell_int Try.underlying5 h0
  obtain ⟨n, rfl, hn⟩ := cell_int Try.underlying22 h1
  exact ⟨m, n, rfl, ⟨hm.1, hm.2⟩, ⟨hn.1, hn.2⟩⟩
end
end Go.RV
