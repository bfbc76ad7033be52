/- What chapter 4's claims hand over, opened. Conditions: none. -/
import Derived.Test.YtdlmjbnggahpjaaDoorPa7
import Derived.Test.YtdlmjbnggahpjaaDoorYd
import Derived.Test.YtdlmjbnggahpjaaDoorRvN
import Derived.Deep.Strs
set_option linter.unusedVariables false
set_option maxRecDepth 20000
namespace Go.RV
open Go Go.Proofs Go.ChangeShapes Go.WideShapes Go.RowKit
theorem strY_data (s : ByteArray) : strY s.data.toList = s := by cases s; simp [strY]
theorem cells1 {cs : List Value} (h : cs.length = 1) : ∃ a, cs = [a] := by
  match cs, h with
  | [a], _ => exact ⟨a, rfl⟩
theorem cells2 {cs : List Value} (h : cs.length = 2) : ∃ a b, cs = [a, b] := by
  match cs, h with
  | [a, b], _ => exact ⟨a, b, rfl⟩
theorem cells4 {cs : List Value} (h : cs.length = 4) : ∃ a b c d, cs = [a, b, c, d] := by
  match cs, h with
  | [a, b, c, d], _ => exact ⟨a, b, c, d, rfl⟩
section
variable {W w : World} {r : Reach} {b0 : Nat} {v : Value}
theorem open_str (h : Value.okWide Tryd.prog w r b0 9 v) : ∃ s : List UInt8, v = .string (strY s) ∧ s.length ≤ 9223372036854775807 := by
  simp only [Value.okWide, Tryd.underlying9] at h
  obtain ⟨s, rfl, hn⟩ := cell_string Tryd.underlying9 h
  refine ⟨s.data.toList, by rw [strY_data], ?_⟩
  have : (s.size : Int) ≤ 9223372036854775807 := hn
  simp
  omega
theorem open_dot (h : Value.okWide Tryd.prog w r b0 31 v) : ∃ r n : Int, v = dotV r n ∧ (0 ≤ r ∧ r ≤ 255) ∧ 0 ≤ n ∧ n ≤ 4294967295 := by
  obtain ⟨cs, rfl, hl, hc⟩ := okWide_cells (.inl ⟨_, Tryd.underlying31⟩) (ts := [5, 29]) (by kernel_rfl) (by kernel_rfl) h
  obtain ⟨a, b, rfl⟩ := cells2 hl
  obtain ⟨_, e0, h0⟩ := hc 0 _ rfl
  obtain ⟨_, e1, h1⟩ := hc 1 _ rfl
  cases e0; cases e1
  obtain ⟨n0, rfl, k0⟩ := cell_int Tryd.underlying5 h0
  obtain ⟨n1, rfl, k1⟩ := cell_int Tryd.underlying29 h1
  exact ⟨n0, n1, rfl, ⟨k0.1, k0.2⟩, k1.1, k1.2⟩
theorem open_dots2 (h : Value.okWide Tryd.prog w r b0 44 v) : ∃ r n r2 n2 : Int, v = .agg #[.int .u8 r, .int .u32 n, .int .u8 r2, .int .u32 n2] ∧ ((0 ≤ r ∧ r ≤ 255) ∧ 0 ≤ n ∧ n ≤ 4294967295) ∧ (0 ≤ r2 ∧ r2 ≤ 255) ∧ 0 ≤ n2 ∧ n2 ≤ 4294967295 := by
  obtain ⟨cs, rfl, hl, hc⟩ := okWide_cells (.inr ⟨_, _, Tryd.underlying44⟩) (ts := [5, 29, 5, 29]) (by kernel_rfl) (by kernel_rfl) h
  obtain ⟨a, b, c, d, rfl⟩ := cells4 hl
  obtain ⟨_, e0, h0⟩ := hc 0 _ rfl
  obtain ⟨_, e1, h1⟩ := hc 1 _ rfl
  obtain ⟨_, e2, h2⟩ := hc 2 _ rfl
  obtain ⟨_, e3, h3⟩ := hc 3 _ rfl
  cases e0; cases e1; cases e2; cases e3
  obtain ⟨n0, rfl, k0⟩ := cell_int Tryd.underlying5 h0
  obtain ⟨n1, rfl, k1⟩ := cell_int Tryd.underlying29 h1
  obtain ⟨n2, rfl, k2⟩ := cell_int Tryd.underlying5 h2
  obtain ⟨n3, rfl, k3⟩ := cell_int Tryd.underlying29 h3
  exact ⟨n0, n1, n2, n3, rfl, ⟨⟨k0.1, k0.2⟩, k1.1, k1.2⟩, ⟨k2.1, k2.2⟩, k3.1, k3.2⟩
variable {H : Type} {en : TypeId × Value → H} {base : Nat} {spare : Nat → Bool} {held : Bool} {d : DataW H} {ps : List MemPlace}
theorem open_names (hv : Value.okWide Tryd.prog w r b0 23 v) (h : DataW.Trod en Tryd.prog w base spare held 23 v d ps) :
    ∃ (A : Option Addr) (c : Nat) (l : Nm), v = .slice A l.length c ∧ l.length ≤ 9223372036854775807 ∧ l.length ≤ c ∧ Rd w A (flat encT l) ∧ (A = none → l = [] ∧ c = 0) := by
  have key := open_list (α := List UInt8) (enc := encT) (ok := fun _ => True) Tryd.underlying23 (sz := 1) (by kernel_rfl) (by decide) encT_len ?_ hv h
  · obtain ⟨A, c, l, e, hle, hm, hR, _, hA⟩ := key
    have : maxLen = 9223372036854775807 := rfl
    refine ⟨A, c, l, e, by omega, hle, hR, fun h => ?_⟩
    have h0 := hA h
    exact ⟨List.eq_nil_of_length_eq_zero (by omega), h0⟩
  · intro n cs x hx
    have hl : cs.length = 1 := by
      cases n with
      | zero => simp [DataW.trod] at hx
      | succ n =>
        match cs, hx with
        | [a], _ => rfl
        | [], hx => simp [DataW.trod, Tryd.underlying9] at hx
        | a :: b :: r, hx => simp [DataW.trod, Tryd.underlying9] at hx
    obtain ⟨a, rfl⟩ := cells1 hl
    obtain ⟨t, e2, _, _⟩ := DataW.trod_string Tryd.underlying9 hx
    cases e2
    exact ⟨t.data.toList, by simp [encT, strY_data], trivial⟩
end
end Go.RV
