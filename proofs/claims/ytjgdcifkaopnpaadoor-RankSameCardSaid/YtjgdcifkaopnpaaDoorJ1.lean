/- What chapter 8's claims hand over, opened. Conditions: none. -/
import Derived.Test.YtjgdcifkaopnpaaDoorG11
import Derived.Test.YtjgdcifkaopnpaaDoorRvN
import Derived.Deep.Strs
set_option linter.unusedVariables false
set_option maxRecDepth 20000
namespace Go.RV.C08
open Go Go.Proofs Go.ChangeShapes Go.WideShapes Go.RowKit
theorem strY_data (s : ByteArray) : strY s.data.toList = s := by cases s; simp [strY]
theorem cells2 {cs : List Value} (h : cs.length = 2) : ∃ a b, cs = [a, b] := by
  match cs, h with
  | [a, b], _ => exact ⟨a, b, rfl⟩
theorem cells3 {cs : List Value} (h : cs.length = 3) : ∃ a b c, cs = [a, b, c] := by
  match cs, h with
  | [a, b, c], _ => exact ⟨a, b, c, rfl⟩
theorem cells9 {cs : List Value} (h : cs.length = 9) : ∃ a b c d e f g k l, cs = [a, b, c, d, e, f, g, k, l] := by
  match cs, h with
  | [a, b, c, d, e, f, g, k, l], _ => exact ⟨a, b, c, d, e, f, g, k, l, rfl⟩
theorem wfi {k : IntKind} {n : Int} (h : (Lit.int k n).wf = true) : k.min ≤ n ∧ n ≤ k.max := by
  have h1 : (decide (k.min ≤ n) && decide (n ≤ k.max)) = true := h
  simp only [Bool.and_eq_true, decide_eq_true_eq] at h1
  exact h1
def vec8 (a b c d e f g h : Int) : Nat → Int
  | 0 => a
  | 1 => b
  | 2 => c
  | 3 => d
  | 4 => e
  | 5 => f
  | 6 => g
  | 7 => h
  | _ => 0
instance : Inhabited Sx := ⟨⟨0, 0, []⟩⟩
section
variable {W w : World} {r : Reach} {b0 : Nat} {v : Value}
theorem open_str (h : Value.okWide Tryd.prog w r b0 9 v) : ∃ s : List UInt8, v = .string (strY s) ∧ s.length ≤ 9223372036854775807 := by
  simp only [Value.okWide, Tryd.underlying9] at h
  obtain ⟨s, rfl, hn⟩ := cell_string Tryd.underlying9 h
  refine ⟨s.data.toList, by rw [strY_data], ?_⟩
  have : (s.size : Int) ≤ 9223372036854775807 := hn
  simp
  have e : s.data.size = s.size := rfl
  omega
theorem open_bool (h : Value.okWide Tryd.prog w r b0 4 v) : ∃ b : Bool, v = .bool b := by
  simp only [Value.okWide, Tryd.underlying4] at h
  exact cell_bool Tryd.underlying4 h
variable {H : Type} {en : TypeId × Value → H} {base : Nat} {spare : Nat → Bool} {held : Bool} {d : DataW H} {ps : List MemPlace}
theorem open_sibs (hv : Value.okWide Tryd.prog w r b0 25 v) (h : DataW.Trod en Tryd.prog w base spare held 25 v d ps) :
    ∃ (A : Option Addr) (c : Nat) (xs : List Sx), v = .slice A xs.length c ∧ xs.length ≤ c ∧ c ≤ maxLen ∧ Rd w A (flat encX xs) ∧ (∀ x ∈ xs, (0 ≤ x.r ∧ x.r ≤ 255) ∧ 0 ≤ x.n ∧ x.n ≤ 4294967295) ∧ (A = none → c = 0) := by
  refine open_list Tryd.underlying25 (sz := 3) (by kernel_rfl) (by decide) encX_len ?_ hv h
  intro n cs x hx
  obtain ⟨y0, y1, m, _, hl, h0, h1⟩ := trod_struct2 Tryd.underlying44 hx
  have hl3 : cs.length = 3 := hl.trans (by kernel_rfl)
  obtain ⟨p, q, s, rfl⟩ := cells3 hl3
  have c1 : Tryd.prog.cellsOf 42 = 2 := by kernel_rfl
  have c2 : Tryd.prog.cellsOf 9 = 1 := by kernel_rfl
  have c3 : Tryd.prog.cellsOf 5 = 1 := by kernel_rfl
  have c4 : Tryd.prog.cellsOf 22 = 1 := by kernel_rfl
  simp [c1] at h0
  simp [c2] at h1
  obtain ⟨z0, z1, m2, _, _, g0, g1⟩ := trod_struct2 Tryd.underlying42 h0
  simp [c3] at g0
  simp [c4] at g1
  obtain ⟨i, e0, _, hi⟩ := DataW.trod_int Tryd.underlying5 g0
  obtain ⟨k, e1, _, hk⟩ := DataW.trod_int Tryd.underlying22 g1
  obtain ⟨t, e2, _, _⟩ := DataW.trod_string Tryd.underlying9 h1
  cases e0; cases e1; cases e2
  exact ⟨⟨i, k, t.data.toList⟩, by simp [encX, strY_data], wfi hi, wfi hk⟩
theorem open_reg (hv : Value.okWide Tryd.prog w r b0 27 v) (h : DataW.Trod en Tryd.prog w base spare held 27 v d ps) :
    ∃ (f : Nat → Int) (A : Option Addr) (c : Nat) (xs : List Sx), v = regV f A xs.length c ∧ xs.length ≤ 9223372036854775807 ∧ Rd w A (flat encX xs) ∧ (∀ x ∈ xs, (0 ≤ x.r ∧ x.r ≤ 255) ∧ 0 ≤ x.n ∧ x.n ≤ 4294967295) := by
  obtain ⟨cs, rfl, hl, hc⟩ := okWide_cells (.inl ⟨_, Tryd.underlying27⟩) (ts := List.replicate 8 22 ++ [25]) (by kernel_rfl) (by kernel_rfl) hv
  obtain ⟨x0, x1, x2, x3, x4, x5, x6, x7, x8, rfl⟩ := cells9 hl
  obtain ⟨_, e0, h0⟩ := hc 0 _ rfl
  obtain ⟨_, e1, h1⟩ := hc 1 _ rfl
  obtain ⟨_, e2, h2⟩ := hc 2 _ rfl
  obtain ⟨_, e3, h3⟩ := hc 3 _ rfl
  obtain ⟨_, e4, h4⟩ := hc 4 _ rfl
  obtain ⟨_, e5, h5⟩ := hc 5 _ rfl
  obtain ⟨_, e6, h6⟩ := hc 6 _ rfl
  obtain ⟨_, e7, h7⟩ := hc 7 _ rfl
  obtain ⟨_, e8, h8⟩ := hc 8 _ rfl
  cases e0; cases e1; cases e2; cases e3; cases e4; cases e5; cases e6; cases e7; cases e8
  obtain ⟨n0, rfl, k0⟩ := cell_int Tryd.underlying22 h0
  obtain ⟨n1, rfl, k1⟩ := cell_int Tryd.underlying22 h1
  obtain ⟨n2, rfl, k2⟩ := cell_int Tryd.underlying22 h2
  obtain ⟨n3, rfl, k3⟩ := cell_int Tryd.underlying22 h3
  obtain ⟨n4, rfl, k4⟩ := cell_int Tryd.underlying22 h4
  obtain ⟨n5, rfl, k5⟩ := cell_int Tryd.underlying22 h5
  obtain ⟨n6, rfl, k6⟩ := cell_int Tryd.underlying22 h6
  obtain ⟨n7, rfl, k7⟩ := cell_int Tryd.underlying22 h7
  have u8 : Value.okWide Tryd.prog w r b0 25 x8 := by simp only [Value.okWide, Tryd.underlying25]; exact h8
  obtain ⟨fuel, hf⟩ := h
  obtain ⟨y0, y1, m, _, _, _, g⟩ := trod_struct2 Tryd.underlying27 hf
  have cs1 : Tryd.prog.cellsOf 25 = 1 := by kernel_rfl
  simp [cs1, Value.cells] at g
  obtain ⟨_, _, _, q⟩ := okWide_slice Tryd.underlying25 u8
  obtain ⟨A, c, xs, rfl, hle, hm, hR, hx, _⟩ := open_sibs u8 ⟨m, by rw [q] at g ⊢; exact g⟩
  have : maxLen = 9223372036854775807 := rfl
  exact ⟨vec8 n0 n1 n2 n3 n4 n5 n6 n7, A, c, xs, rfl, by omega, hR, hx⟩
end
end Go.RV.C08
