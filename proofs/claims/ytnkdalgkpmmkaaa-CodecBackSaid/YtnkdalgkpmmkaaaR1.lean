/- What chapter 1's claims hand over, opened. Conditions: none. -/
import Derived.Test.YtnkdalgkpmmkaaaV12
import Derived.Test.YtnkdalgkpmmkaaaRvN
import Derived.Deep.Strs
set_option linter.unusedVariables false
namespace Go.RV
open Go Go.Proofs Go.ChangeShapes Go.WideShapes Go.RowKit
theorem cells2 {cs : List Value} (h : cs.length = 2) : ∃ a b, cs = [a, b] := by
  match cs, h with
  | [a, b], _ => exact ⟨a, b, rfl⟩
theorem cells3 {cs : List Value} (h : cs.length = 3) : ∃ a b c, cs = [a, b, c] := by
  match cs, h with
  | [a, b, c], _ => exact ⟨a, b, c, rfl⟩
theorem wf_int {k : IntKind} {n : Int} (h : (Lit.int k n).wf = true) : k.min ≤ n ∧ n ≤ k.max := by
  have h1 : (decide (k.min ≤ n) && decide (n ≤ k.max)) = true := h
  simp only [Bool.and_eq_true, decide_eq_true_eq] at h1
  exact h1
theorem strY_data (s : ByteArray) : strY s.data.toList = s := by cases s; simp [strY]
instance : Inhabited Itm := ⟨⟨0, 0, []⟩⟩
section
variable {W w : World} {r : Reach} {b0 : Nat} {v : Value}
theorem open_u32 (h : Value.okWide Try.prog w r b0 30 v) : ∃ n : Int, v = .int .u32 n ∧ 0 ≤ n ∧ n ≤ 4294967295 := by
  simp only [Value.okWide, Try.underlying30] at h
  obtain ⟨n, rfl, hn⟩ := cell_int Try.underlying30 h
  exact ⟨n, rfl, hn.1, hn.2⟩
theorem open_u16 (h : Value.okWide Try.prog w r b0 51 v) : ∃ n : Int, v = .int .u16 n ∧ 0 ≤ n ∧ n ≤ 65535 := by
  simp only [Value.okWide, Try.underlying51] at h
  obtain ⟨n, rfl, hn⟩ := cell_int Try.underlying51 h
  exact ⟨n, rfl, hn.1, hn.2⟩
theorem open_str (h : Value.okWide Try.prog w r b0 9 v) : ∃ s : List UInt8, v = .string (strY s) := by
  simp only [Value.okWide, Try.underlying9] at h
  obtain ⟨s, rfl, hn⟩ := cell_string Try.underlying9 h
  exact ⟨s.data.toList, by rw [strY_data]⟩
variable {H : Type} {en : TypeId × Value → H} {base : Nat} {spare : Nat → Bool} {held : Bool} {d : DataW H} {ps : List MemPlace}
theorem open_items (hv : Value.okWide Try.prog w r b0 22 v) (h : DataW.Trod en Try.prog w base spare held 22 v d ps) :
    ∃ (A : Option Addr) (c : Nat) (xs : List Itm), v = .slice A xs.length c ∧ xs.length ≤ c ∧ c ≤ maxLen ∧ Rd w A (flat encI xs) ∧ (∀ x ∈ xs, itmOk x) ∧ (A = none → c = 0) := by
  refine open_list Try.underlying22 (sz := 3) (by kernel_rfl) (by decide) encI_len ?_ hv h
  intro n cs x hx
  obtain ⟨y0, y1, y2, m, _, hl, h0, h1, h2⟩ := Go.Deep.trod_struct3 Try.underlying32 hx
  have hl2 : cs.length = 3 := hl.trans (by kernel_rfl)
  obtain ⟨a, b, c, rfl⟩ := cells3 hl2
  obtain ⟨i, e0, _, hi⟩ := DataW.trod_int Try.underlying5 h0
  obtain ⟨t, e1, _, ht⟩ := DataW.trod_int Try.underlying30 h1
  obtain ⟨s, e2, _⟩ := DataW.trod_string Try.underlying9 h2
  have c1 : Try.prog.cellsOf 30 = 1 := by kernel_rfl
  have c2 : Try.prog.cellsOf 9 = 1 := by kernel_rfl
  have c3 : Try.prog.cellsOf 5 = 1 := by kernel_rfl
  simp [c1, c2, c3] at e0 e1 e2
  subst e0
  subst e1
  subst e2
  refine ⟨⟨i, t, s.data.toList⟩, ?_, (wf_int hi).1, (wf_int ht).1, (wf_int ht).2⟩
  show _ = [Value.int .u8 i, .int .u32 t, .string (strY s.data.toList)]
  rw [strY_data]
end
end Go.RV
