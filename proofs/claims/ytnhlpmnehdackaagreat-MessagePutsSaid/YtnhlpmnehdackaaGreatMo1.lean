/- What chapter 28's claims hand over, opened. Conditions: none. -/
import Derived.Test.YtnhlpmnehdackaaGreatMa9
import Derived.Test.YtnhlpmnehdackaaGreatRvN
import Derived.Deep.Strs
set_option linter.unusedVariables false
set_option maxRecDepth 20000
namespace Go.RV
open Go Go.Proofs Go.ChangeShapes Go.WideShapes Go.RowKit
theorem strY_dat (s : ByteArray) : strY s.data.toList = s := by cases s; simp [strY]
theorem cells4m {cs : List Value} (h : cs.length = 4) : ∃ a b c d, cs = [a, b, c, d] := by
  match cs, h with
  | [a, b, c, d], _ => exact ⟨a, b, c, d, rfl⟩
theorem cells19 {cs : List Value} (h : cs.length = 19) : ∃ a b x0 x1 x2 x3 x4 x5 x6 x7 l y0 y1 y2 y3 y4 y5 y6 y7, cs = [a, b, x0, x1, x2, x3, x4, x5, x6, x7, l, y0, y1, y2, y3, y4, y5, y6, y7] := by
  match cs, h with
  | [a, b, x0, x1, x2, x3, x4, x5, x6, x7, l, y0, y1, y2, y3, y4, y5, y6, y7], _ => exact ⟨a, b, x0, x1, x2, x3, x4, x5, x6, x7, l, y0, y1, y2, y3, y4, y5, y6, y7, rfl⟩
theorem wfm {k : IntKind} {n : Int} (h : (Lit.int k n).wf = true) : k.min ≤ n ∧ n ≤ k.max := by
  have h1 : (decide (k.min ≤ n) && decide (n ≤ k.max)) = true := h
  simp only [Bool.and_eq_true, decide_eq_true_eq] at h1
  exact h1
def vec8m (a b c d e f g h : Int) : Nat → Int
  | 0 => a
  | 1 => b
  | 2 => c
  | 3 => d
  | 4 => e
  | 5 => f
  | 6 => g
  | 7 => h
  | _ => 0
theorem vec8m_ok {a b c d e f g h : Int} (ha : 0 ≤ a ∧ a ≤ 4294967295) (hb : 0 ≤ b ∧ b ≤ 4294967295) (hc : 0 ≤ c ∧ c ≤ 4294967295) (hd : 0 ≤ d ∧ d ≤ 4294967295) (he : 0 ≤ e ∧ e ≤ 4294967295) (hf : 0 ≤ f ∧ f ≤ 4294967295) (hg : 0 ≤ g ∧ g ≤ 4294967295) (hh : 0 ≤ h ∧ h ≤ 4294967295) :
    ∀ j, j < 8 → 0 ≤ vec8m a b c d e f g h j ∧ vec8m a b c d e f g h j ≤ 4294967295 := fun j hj => by
  rcases lt8 hj with rfl | rfl | rfl | rfl | rfl | rfl | rfl | rfl
  · exact ha
  · exact hb
  · exact hc
  · exact hd
  · exact he
  · exact hf
  · exact hg
  · exact hh
instance : Inhabited Sc := ⟨⟨0, 0, false, []⟩⟩
section
variable {W w : World} {r : Reach} {b0 : Nat} {v : Value}
theorem open_u8m (h : Value.okWide Tryz.prog w r b0 5 v) : ∃ n : Int, v = .int .u8 n ∧ 0 ≤ n ∧ n ≤ 255 := by
  simp only [Value.okWide, Tryz.underlying5] at h
  obtain ⟨n, rfl, hn⟩ := cell_int Tryz.underlying5 h
  exact ⟨n, rfl, hn.1, hn.2⟩
theorem open_u16m (h : Value.okWide Tryz.prog w r b0 116 v) : ∃ n : Int, v = .int .u16 n ∧ 0 ≤ n ∧ n ≤ 65535 := by
  simp only [Value.okWide, Tryz.underlying116] at h
  obtain ⟨n, rfl, hn⟩ := cell_int Tryz.underlying116 h
  exact ⟨n, rfl, hn.1, hn.2⟩
theorem open_u16k (h : Value.okWide Tryz.prog w r b0 116 v) : ∃ n : Nat, v = .int .u16 n ∧ n ≤ 65535 := by
  obtain ⟨n, rfl, h0, h1⟩ := open_u16m h
  exact ⟨n.toNat, by rw [Int.toNat_of_nonneg h0], by omega⟩
theorem open_strm (h : Value.okWide Tryz.prog w r b0 9 v) : ∃ s : List UInt8, v = .string (strY s) := by
  simp only [Value.okWide, Tryz.underlying9] at h
  obtain ⟨s, rfl, hn⟩ := cell_string Tryz.underlying9 h
  exact ⟨s.data.toList, by rw [strY_dat]⟩
variable {H : Type} {en : TypeId × Value → H} {base : Nat} {spare : Nat → Bool} {held : Bool} {d : DataW H} {ps : List MemPlace}
theorem open_sibsC (hv : Value.okWide Tryz.prog w r b0 25 v) (h : DataW.Trod en Tryz.prog w base spare held 25 v d ps) :
    ∃ (A : Option Addr) (c : Nat) (xs : List Sc), v = .slice A xs.length c ∧ xs.length ≤ c ∧ c ≤ maxLen ∧ Rd w A (flat encC xs) ∧ (∀ x ∈ xs, (0 ≤ x.r ∧ x.r ≤ 255) ∧ 0 ≤ x.n ∧ x.n ≤ 4294967295) ∧ (A = none → c = 0) := by
  refine open_list Tryz.underlying25 (sz := 4) (by kernel_rfl) (by decide) encC_len ?_ hv h
  intro n cs x hx
  obtain ⟨y0, y1, m, _, hl, h0, h1⟩ := trod_struct2 Tryz.underlying56 hx
  have hl4 : cs.length = 4 := hl.trans (by kernel_rfl)
  obtain ⟨p, q, s, u, rfl⟩ := cells4m hl4
  have c1 : Tryz.prog.cellsOf 54 = 2 := by kernel_rfl
  have c2 : Tryz.prog.cellsOf 9 = 1 := by kernel_rfl
  have c3 : Tryz.prog.cellsOf 5 = 1 := by kernel_rfl
  have c4 : Tryz.prog.cellsOf 22 = 1 := by kernel_rfl
  have c5 : Tryz.prog.cellsOf 52 = 2 := by kernel_rfl
  have c6 : Tryz.prog.cellsOf 4 = 1 := by kernel_rfl
  simp [c1] at h0
  simp [c5] at h1
  obtain ⟨z0, z1, m2, _, _, g0, g1⟩ := trod_struct2 Tryz.underlying54 h0
  simp [c3] at g0
  simp [c4] at g1
  obtain ⟨u0, u1, m3, _, _, k0, k1⟩ := trod_struct2 Tryz.underlying52 h1
  simp [c6] at k0
  simp [c2] at k1
  obtain ⟨i, e0, _, hi⟩ := DataW.trod_int Tryz.underlying5 g0
  obtain ⟨k, e1, _, hk⟩ := DataW.trod_int Tryz.underlying22 g1
  obtain ⟨bb, e3, _⟩ := DataW.trod_bool Tryz.underlying4 k0
  obtain ⟨t, e2, _, _⟩ := DataW.trod_string Tryz.underlying9 k1
  cases e0; cases e1; cases e2; cases e3
  exact ⟨⟨i, k, bb, t.data.toList⟩, by simp [encC, strY_dat], wfm hi, wfm hk⟩
theorem open_msg (hv : Value.okWide Tryz.prog w r b0 29 v) (h : DataW.Trod en Tryz.prog w base spare held 29 v d ps) :
    ∃ (m : Mx) (A : Option Addr) (c : Nat), v = msgV m A c ∧ okM m ∧ m.xs.length ≤ 9223372036854775807 ∧ m.xs.length ≤ c ∧ (c : Int) ≤ 9223372036854775807 ∧ Rd w A (flat encC m.xs) := by
  obtain ⟨cs, rfl, hl, hc⟩ := okWide_cells (.inl ⟨_, Tryz.underlying29⟩) (ts := [4, 9] ++ List.replicate 8 22 ++ [25] ++ List.replicate 8 22) (by kernel_rfl) (by kernel_rfl) hv
  obtain ⟨a, b, x0, x1, x2, x3, x4, x5, x6, x7, l, y0, y1, y2, y3, y4, y5, y6, y7, rfl⟩ := cells19 hl
  obtain ⟨_, ea, ha⟩ := hc 0 _ rfl
  obtain ⟨_, eb, hb⟩ := hc 1 _ rfl
  obtain ⟨_, e0, h0⟩ := hc 2 _ rfl
  obtain ⟨_, e1, h1⟩ := hc 3 _ rfl
  obtain ⟨_, e2, h2⟩ := hc 4 _ rfl
  obtain ⟨_, e3, h3⟩ := hc 5 _ rfl
  obtain ⟨_, e4, h4⟩ := hc 6 _ rfl
  obtain ⟨_, e5, h5⟩ := hc 7 _ rfl
  obtain ⟨_, e6, h6⟩ := hc 8 _ rfl
  obtain ⟨_, e7, h7⟩ := hc 9 _ rfl
  obtain ⟨_, el, hsl⟩ := hc 10 _ rfl
  obtain ⟨_, f0, k0⟩ := hc 11 _ rfl
  obtain ⟨_, f1, k1⟩ := hc 12 _ rfl
  obtain ⟨_, f2, k2⟩ := hc 13 _ rfl
  obtain ⟨_, f3, k3⟩ := hc 14 _ rfl
  obtain ⟨_, f4, k4⟩ := hc 15 _ rfl
  obtain ⟨_, f5, k5⟩ := hc 16 _ rfl
  obtain ⟨_, f6, k6⟩ := hc 17 _ rfl
  obtain ⟨_, f7, k7⟩ := hc 18 _ rfl
  cases ea; cases eb; cases e0; cases e1; cases e2; cases e3; cases e4; cases e5; cases e6; cases e7; cases el; cases f0; cases f1; cases f2; cases f3; cases f4; cases f5; cases f6; cases f7
  obtain ⟨ab, rfl⟩ := cell_bool Tryz.underlying4 ha
  obtain ⟨ps', rfl, _⟩ := cell_string Tryz.underlying9 hb
  obtain ⟨n0, rfl, q0⟩ := cell_int Tryz.underlying22 h0
  obtain ⟨n1, rfl, q1⟩ := cell_int Tryz.underlying22 h1
  obtain ⟨n2, rfl, q2⟩ := cell_int Tryz.underlying22 h2
  obtain ⟨n3, rfl, q3⟩ := cell_int Tryz.underlying22 h3
  obtain ⟨n4, rfl, q4⟩ := cell_int Tryz.underlying22 h4
  obtain ⟨n5, rfl, q5⟩ := cell_int Tryz.underlying22 h5
  obtain ⟨n6, rfl, q6⟩ := cell_int Tryz.underlying22 h6
  obtain ⟨n7, rfl, q7⟩ := cell_int Tryz.underlying22 h7
  obtain ⟨m0, rfl, r0⟩ := cell_int Tryz.underlying22 k0
  obtain ⟨m1, rfl, r1⟩ := cell_int Tryz.underlying22 k1
  obtain ⟨m2, rfl, r2⟩ := cell_int Tryz.underlying22 k2
  obtain ⟨m3, rfl, r3⟩ := cell_int Tryz.underlying22 k3
  obtain ⟨m4, rfl, r4⟩ := cell_int Tryz.underlying22 k4
  obtain ⟨m5, rfl, r5⟩ := cell_int Tryz.underlying22 k5
  obtain ⟨m6, rfl, r6⟩ := cell_int Tryz.underlying22 k6
  obtain ⟨m7, rfl, r7⟩ := cell_int Tryz.underlying22 k7
  have u8 : Value.okWide Tryz.prog w r b0 25 l := by simp only [Value.okWide, Tryz.underlying25]; exact hsl
  obtain ⟨fuel, hf⟩ := h
  obtain ⟨xs4, n, _, _, _, hlen, hg⟩ := DataW.trod_struct Tryz.underlying29 hf
  have g := hg 2 _ rfl
  obtain ⟨yr, er⟩ : ∃ y, xs4[2]? = some y := ⟨_, List.getElem?_eq_getElem (by rw [hlen]; decide)⟩
  rw [er] at g
  have cr : Tryz.prog.cellsOf 27 = 9 := by kernel_rfl
  simp [cr, Value.cells] at g
  obtain ⟨z0, z1, mm, _, _, _, g⟩ := trod_struct2 Tryz.underlying27 g
  have cs1 : Tryz.prog.cellsOf 25 = 1 := by kernel_rfl
  simp [cs1] at g
  obtain ⟨_, _, _, q⟩ := okWide_slice Tryz.underlying25 u8
  obtain ⟨A, c, xs, rfl, hle, hm, hR, hx, _⟩ := open_sibsC u8 ⟨mm, by rw [q] at g ⊢; exact g⟩
  have hml : maxLen = 9223372036854775807 := rfl
  refine ⟨⟨ab, ps'.data.toList, vec8m n0 n1 n2 n3 n4 n5 n6 n7, xs, vec8m m0 m1 m2 m3 m4 m5 m6 m7⟩, A, c, ?_, ⟨?_, ?_, ?_⟩, ?_, hle, ?_, hR⟩
  · unfold msgV msgC msgL
    simp only
    rw [strY_dat]
    rfl
  · exact vec8m_ok ⟨q0.1, q0.2⟩ ⟨q1.1, q1.2⟩ ⟨q2.1, q2.2⟩ ⟨q3.1, q3.2⟩ ⟨q4.1, q4.2⟩ ⟨q5.1, q5.2⟩ ⟨q6.1, q6.2⟩ ⟨q7.1, q7.2⟩
  · exact vec8m_ok ⟨r0.1, r0.2⟩ ⟨r1.1, r1.2⟩ ⟨r2.1, r2.2⟩ ⟨r3.1, r3.2⟩ ⟨r4.1, r4.2⟩ ⟨r5.1, r5.2⟩ ⟨r6.1, r6.2⟩ ⟨r7.1, r7.2⟩
  · intro x hx'
    have := hx x hx'
    exact ⟨this.1.1, this.1.2, this.2.1, this.2.2⟩
  · simp only; omega
  · omega
end
end Go.RV
