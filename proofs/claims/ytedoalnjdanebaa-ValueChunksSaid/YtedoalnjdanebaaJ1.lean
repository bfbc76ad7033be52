/- What chapter 7's claims hand over, opened. Conditions: none. -/
import Derived.Test.YtedoalnjdanebaaD7
import Derived.Test.YtedoalnjdanebaaD8
import Derived.Test.YtedoalnjdanebaaRvN
import Derived.Deep.Strs
set_option linter.unusedVariables false
set_option maxRecDepth 20000
namespace Go.RV
open Go Go.Proofs Go.ChangeShapes Go.WideShapes Go.RowKit
theorem strY_data (s : ByteArray) : strY s.data.toList = s := by cases s; simp [strY]
theorem cells3 {cs : List Value} (h : cs.length = 3) : ∃ a b c, cs = [a, b, c] := by
  match cs, h with
  | [a, b, c], _ => exact ⟨a, b, c, rfl⟩
theorem cells6 {cs : List Value} (h : cs.length = 6) : ∃ a b c d e f, cs = [a, b, c, d, e, f] := by
  match cs, h with
  | [a, b, c, d, e, f], _ => exact ⟨a, b, c, d, e, f, rfl⟩
section
variable {W w : World} {r : Reach} {b0 : Nat} {v : Value}
theorem open_str (h : Value.okWide Try.prog w r b0 9 v) : ∃ s : List UInt8, v = .string (strY s) := by
  simp only [Value.okWide, Try.underlying9] at h
  obtain ⟨s, rfl, hn⟩ := cell_string Try.underlying9 h
  exact ⟨s.data.toList, by rw [strY_data]⟩
theorem open_int (h : Value.okWide Try.prog w r b0 3 v) : ∃ n : Int, v = .int .i64 n ∧ -9223372036854775808 ≤ n ∧ n ≤ 9223372036854775807 := by
  simp only [Value.okWide, Try.underlying3] at h
  obtain ⟨n, rfl, hn⟩ := cell_int Try.underlying3 h
  exact ⟨n, rfl, hn.1, hn.2⟩
theorem wfu {n : Int} (h : (Lit.int .u32 n).wf = true) : 0 ≤ n ∧ n ≤ 4294967295 := by
  have h1 : (decide (IntKind.u32.min ≤ n) && decide (n ≤ IntKind.u32.max)) = true := h
  simp only [Bool.and_eq_true, decide_eq_true_eq] at h1
  exact ⟨h1.1, h1.2⟩
variable {H : Type} {en : TypeId × Value → H} {base : Nat} {spare : Nat → Bool} {held : Bool} {d : DataW H} {ps : List MemPlace}
theorem open_us (hv : Value.okWide Try.prog w r b0 22 v) (h : DataW.Trod en Try.prog w base spare held 22 v d ps) :
    ∃ (A : Option Addr) (c : Nat) (xs : List Int), v = .slice A xs.length c ∧ xs.length ≤ c ∧ c ≤ maxLen ∧ Rd w A (flat encU xs) ∧ (∀ x ∈ xs, 0 ≤ x ∧ x ≤ 4294967295) ∧ (A = none → c = 0) := by
  refine open_list Try.underlying22 (sz := 1) (by kernel_rfl) (by decide) encU_len ?_ hv h
  intro n cs x hx
  obtain ⟨i, e0, _, hi⟩ := DataW.trod_int Try.underlying35 hx
  exact ⟨i, e0, wfu hi⟩
theorem open_val2 (hv : Value.okWide Try.prog w r b0 25 v) (h : DataW.Trod en Try.prog w base spare held 25 v d ps) :
    ∃ (d1 : Bool) (n1 : Int) (A1 : Option Addr) (c1 : Nat) (xs : List Int) (d2 : Bool) (n2 : Int) (A2 : Option Addr) (c2 : Nat) (ys : List Int), v = val2V d1 n1 A1 xs.length c1 d2 n2 A2 ys.length c2 ∧
      Rd w A1 (flat encU xs) ∧ Rd w A2 (flat encU ys) ∧ (-9223372036854775808 ≤ n1 ∧ n1 ≤ 9223372036854775807) ∧ (-9223372036854775808 ≤ n2 ∧ n2 ≤ 9223372036854775807) ∧
      (∀ x ∈ xs, 0 ≤ x ∧ x ≤ 4294967295) ∧ (∀ x ∈ ys, 0 ≤ x ∧ x ≤ 4294967295) ∧ xs.length ≤ c1 ∧ ys.length ≤ c2 := by
  obtain ⟨cs, rfl, hl, hc⟩ := okWide_cells (.inr ⟨_, _, Try.underlying25⟩) (ts := [4, 3, 22, 4, 3, 22]) (by kernel_rfl) (by kernel_rfl) hv
  obtain ⟨x0, x1, x2, x3, x4, x5, rfl⟩ := cells6 hl
  obtain ⟨_, e0, h0⟩ := hc 0 _ rfl
  obtain ⟨_, e1, h1⟩ := hc 1 _ rfl
  obtain ⟨_, e2, h2⟩ := hc 2 _ rfl
  obtain ⟨_, e3, h3⟩ := hc 3 _ rfl
  obtain ⟨_, e4, h4⟩ := hc 4 _ rfl
  obtain ⟨_, e5, h5⟩ := hc 5 _ rfl
  cases e0; cases e1; cases e2; cases e3; cases e4; cases e5
  obtain ⟨d1, rfl⟩ := cell_bool Try.underlying4 h0
  obtain ⟨n1, rfl, hn1⟩ := cell_int Try.underlying3 h1
  obtain ⟨d2, rfl⟩ := cell_bool Try.underlying4 h3
  obtain ⟨n2, rfl, hn2⟩ := cell_int Try.underlying3 h4
  obtain ⟨fuel, hf⟩ := h
  obtain ⟨ys, m, _, _, _, hl2, hf⟩ := DataW.trod_array Try.underlying25 hf
  have cv : Try.prog.cellsOf 24 = 3 := by kernel_rfl
  have cs1 : Try.prog.cellsOf 22 = 1 := by kernel_rfl
  have f0 := hf 0 (by decide)
  have f1 := hf 1 (by decide)
  rw [cv] at f0 f1
  obtain ⟨ya, ea⟩ : ∃ y, ys[0]? = some y := ⟨_, List.getElem?_eq_getElem (by omega)⟩
  obtain ⟨yb, eb⟩ : ∃ y, ys[1]? = some y := ⟨_, List.getElem?_eq_getElem (by omega)⟩
  rw [ea] at f0
  rw [eb] at f1
  obtain ⟨y0, y1, y2, m1, _, _, _, _, g2⟩ := Go.Deep.trod_struct3 Try.underlying24 f0
  obtain ⟨z0, z1, z2, m2, _, _, _, _, k2⟩ := Go.Deep.trod_struct3 Try.underlying24 f1
  simp [cs1, Value.cells] at g2 k2
  have u2 : Value.okWide Try.prog w r b0 22 x2 := by simp only [Value.okWide, Try.underlying22]; exact h2
  have u5 : Value.okWide Try.prog w r b0 22 x5 := by simp only [Value.okWide, Try.underlying22]; exact h5
  obtain ⟨_, _, _, q2⟩ := okWide_slice Try.underlying22 u2
  obtain ⟨_, _, _, q5⟩ := okWide_slice Try.underlying22 u5
  obtain ⟨A1, c1, xs, rfl, hle1, _, hR1, hx1, _⟩ := open_us u2 ⟨m1, by rw [q2] at g2 ⊢; exact g2⟩
  obtain ⟨A2, c2, ys, rfl, hle2, _, hR2, hx2, _⟩ := open_us u5 ⟨m2, by rw [q5] at k2 ⊢; exact k2⟩
  exact ⟨d1, n1, A1, c1, xs, d2, n2, A2, c2, ys, rfl, hR1, hR2, ⟨hn1.1, hn1.2⟩, ⟨hn2.1, hn2.2⟩, hx1, hx2, hle1, hle2⟩
end
end Go.RV
