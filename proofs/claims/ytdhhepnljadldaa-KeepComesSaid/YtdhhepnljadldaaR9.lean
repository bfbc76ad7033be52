/- What chapter 9's claims hand over, opened. Conditions: none. -/
import Derived.Test.YtdhhepnljadldaaW8
import Derived.Test.YtdhhepnljadldaaRvN
set_option linter.unusedVariables false
namespace Go.RV
open Go Go.Proofs Go.ChangeShapes Go.WideShapes Go.RowKit
theorem cells2 {cs : List Value} (h : cs.length = 2) : ∃ a b, cs = [a, b] := by
  match cs, h with
  | [a, b], _ => exact ⟨a, b, rfl⟩
theorem cells3 {cs : List Value} (h : cs.length = 3) : ∃ a b c, cs = [a, b, c] := by
  match cs, h with
  | [a, b, c], _ => exact ⟨a, b, c, rfl⟩
theorem has_u32 {n : Int} (h : IntKind.u32.has n) : 0 ≤ n ∧ n ≤ 4294967295 := ⟨h.1, h.2⟩
theorem wf_u32 {n : Int} (h : (Lit.int .u32 n).wf = true) : 0 ≤ n ∧ n ≤ 4294967295 := by
  have h1 : (decide (IntKind.u32.min ≤ n) && decide (n ≤ IntKind.u32.max)) = true := h
  simp only [Bool.and_eq_true, decide_eq_true_eq] at h1
  exact ⟨h1.1, h1.2⟩
section
variable {W w : World} {r : Reach} {b0 : Nat} {v : Value}
theorem open_pol (h : Value.okWide Try.prog w r b0 27 v) : ∃ p : Pol, v = polV p ∧ 0 ≤ p.kind ∧ 0 ≤ p.age := by
  obtain ⟨cs, rfl, hl, hc⟩ := okWide_cells (.inl ⟨_, Try.underlying27⟩) (ts := [5, 22, 3]) (by kernel_rfl) (by kernel_rfl) h
  obtain ⟨x, y, z, rfl⟩ := cells3 hl
  obtain ⟨_, e0, h0⟩ := hc 0 _ rfl
  obtain ⟨_, e1, h1⟩ := hc 1 _ rfl
  obtain ⟨_, e2, h2⟩ := hc 2 _ rfl
  cases e0; cases e1; cases e2
  obtain ⟨k, rfl, hk⟩ := cell_int Try.underlying5 h0
  obtain ⟨a, rfl, ha⟩ := cell_int Try.underlying22 h1
  obtain ⟨q, rfl, hq⟩ := cell_int Try.underlying3 h2
  exact ⟨⟨k, a, q⟩, rfl, hk.1, ha.1⟩
theorem open_two (h : Value.okWide Try.prog w r b0 50 v) : ∃ m n : Int, v = .agg #[.int .u32 m, .int .u32 n] ∧ (0 ≤ m ∧ m ≤ 4294967295) ∧ (0 ≤ n ∧ n ≤ 4294967295) := by
  obtain ⟨cs, rfl, hl, hc⟩ := okWide_cells (.inr ⟨_, _, Try.underlying50⟩) (ts := [22, 22]) (by kernel_rfl) (by kernel_rfl) h
  obtain ⟨x, y, rfl⟩ := cells2 hl
  obtain ⟨_, e0, h0⟩ := hc 0 _ rfl
  obtain ⟨_, e1, h1⟩ := hc 1 _ rfl
  cases e0; cases e1
  obtain ⟨m, rfl, hm⟩ := cell_int Try.underlying22 h0
  obtain ⟨n, rfl, hn⟩ := cell_int Try.underlying22 h1
  exact ⟨m, n, rfl, has_u32 hm, has_u32 hn⟩
theorem open_u32 (h : Value.okWide Try.prog w r b0 22 v) : ∃ n : Int, v = .int .u32 n ∧ 0 ≤ n ∧ n ≤ 4294967295 := by
  simp only [Value.okWide, Try.underlying22] at h
  obtain ⟨n, rfl, hn⟩ := cell_int Try.underlying22 h
  exact ⟨n, rfl, has_u32 hn⟩
variable {H : Type} {en : TypeId × Value → H} {base : Nat} {spare : Nat → Bool} {held : Bool} {d : DataW H} {ps : List MemPlace}
instance : Inhabited Stp := ⟨⟨0, 0⟩⟩
theorem open_stamps (hv : Value.okWide Try.prog w r b0 38 v) (h : DataW.Trod en Try.prog w base spare held 38 v d ps) :
    ∃ (A : Option Addr) (c : Nat) (xs : List Stp), v = .slice A xs.length c ∧ xs.length ≤ c ∧ c ≤ maxLen ∧ Rd w A (flat encS xs) ∧ Ticked xs ∧ (A = none → c = 0) := by
  refine open_list Try.underlying38 (sz := 2) (by kernel_rfl) (by decide) encS_len ?_ hv h
  intro n cs x hx
  obtain ⟨y0, y1, m, _, hl, h0, h1⟩ := trod_struct2 Try.underlying24 hx
  have hl2 : cs.length = 2 := hl.trans (by kernel_rfl)
  obtain ⟨a, b, rfl⟩ := cells2 hl2
  obtain ⟨i, e0, _⟩ := DataW.trod_int Try.underlying22 h0
  obtain ⟨t, e1, _, ht⟩ := DataW.trod_int Try.underlying22 h1
  have c1 : Try.prog.cellsOf 22 = 1 := by kernel_rfl
  simp [c1] at e0 e1
  subst e0
  subst e1
  exact ⟨⟨i, t⟩, rfl, wf_u32 ht⟩
end
end Go.RV
