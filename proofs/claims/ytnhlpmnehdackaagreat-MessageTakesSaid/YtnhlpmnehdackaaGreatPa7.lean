/- Contracts of functions of chapter 4: lists of names. Conditions: none. -/
import Derived.Test.YtnhlpmnehdackaaGreatPa6
import Derived.Lib.AppendZeros
set_option maxRecDepth 20000
set_option linter.unusedVariables false
set_option linter.unusedSimpArgs false
namespace Go.RV.C04
open Go Go.Proofs Go.RowKit

abbrev Nm := List (List UInt8)
theorem encT_one (s : List UInt8) : ∀ y ∈ encT s, one y = true := by
  intro y hy
  simp [encT] at hy
  subst hy
  rfl
theorem flatT_one (l : Nm) : ∀ y ∈ flat encT l, one y = true := by
  intro y hy
  obtain ⟨x, _, h⟩ := List.mem_flatMap.1 hy
  exact encT_one x y h
theorem flatT_len (l : Nm) : (flat encT l).length = l.length * 1 := flat_length encT_len l
/-- the first k of a slice -/
theorem _root_.Go.RV.Rd.first {A : Option Addr} {l : Nm} {w : World} (hR : Rd w A (flat encT l)) (k : Nat) : Rd w A (flat encT (l.take k)) := by
  rcases hR with h | ⟨b, off, hA, h⟩
  · left
    have e : flat encT l = flat encT (l.take k) ++ flat encT (l.drop k) := by rw [← flat_append, List.take_append_drop]
    rw [e] at h
    exact (List.append_eq_nil_iff.1 h).1
  · right
    refine ⟨b, off, hA, fun j v hj => h j v ?_⟩
    have e : flat encT l = flat encT (l.take k) ++ flat encT (l.drop k) := by rw [← flat_append, List.take_append_drop]
    rw [e, List.getElem?_append_left (List.getElem?_eq_some_iff.1 hj).1]
    exact hj
def withinB (a b : Nm) : Bool := decide (a.length ≤ b.length) && decide (a = b.take a.length)
/-- a new row of zeros -/
theorem grow0_i {t tn ty : TypeId} {n : Nat} {w w0 : World} {M : List Nat} {F L : LM} {K : Value → World → Prop} (ht : Tryz.prog.underlying t = some (.slice 9)) (htn : Tryz.prog.underlying tn = some (.int .i64)) (h0 : 0 < n) (hn : n ≤ 1000000000) (hS : Sf M w0 w F L)
    (k : ∀ b cap cs w', n ≤ cap → cs.size = cap → Sf M w0 w' F ((b, .cells cs 9 (0, 0)) :: L) → K (.slice (some ⟨b, 0, none⟩) n cap) w') : SemN Tryz.prog (Builtin.append_ #[t, tn] ty #[.slice none 0 0, .int .i64 n]) w K := by
  have hrun := Lib.run_append_nil_zeros (P := Tryz.prog) w t tn ty 9 _ _ .i64 .i64 ht htn inf9 rfl n h0 (by decide) (by omega) (by show n * 16 ≤ _; omega)
  have hge := grownCap_ge w n 0 9
  refine ⟨SemW.of_run hrun ?_⟩
  have h2 := (hS.drew (w.drawn + 1))
  refine (nw_f (K := fun b w' => K (.slice (some ⟨b, 0, none⟩) n (grownCap w n 0 9)) w') h2 (o := .cells (Builtin.zeroCells #[Value.string ⟨#[]⟩] n ++ Builtin.zeroCells #[Value.string ⟨#[]⟩] (grownCap w n 0 9 - n)) 9 (0, 0)) (fun b w' hS' => k b _ _ w' hge ?_ hS')).out
  rw [Array.size_append, size_zc, size_zc]
  simp
  omega
/-- a list of names in memory -/
structure Sg where
  l : Nm
  A : Option Addr
  c : Nat
def encSg (g : Sg) : List Value := [.slice g.A g.l.length g.c]
theorem encSg_len (g : Sg) : (encSg g).length = 1 := rfl
def sumSg (gs : List Sg) : Nat := (gs.map fun g => g.l.length).sum
def catSg (gs : List Sg) : Nm := gs.flatMap (·.l)
theorem sumSg_snoc (gs : List Sg) (g : Sg) : sumSg (gs ++ [g]) = sumSg gs + g.l.length := by simp [sumSg]
theorem catSg_snoc (gs : List Sg) (g : Sg) : catSg (gs ++ [g]) = catSg gs ++ g.l := by simp [catSg]
theorem catSg_len (gs : List Sg) : (catSg gs).length = sumSg gs := by
  induction gs with
  | nil => rfl
  | cons g gs ih => simp [catSg, sumSg] at *
theorem _root_.Go.RV.Rd.part {α : Type} {enc : α → List Value} {sz : Nat} {w : World} {A : Option Addr} {xs : List α} (henc : ∀ x, (enc x).length = sz) (hR : Rd w A (flat enc xs)) {m l : Nat} (hm : xs.length ≤ m) : Rd w (sliA A m l sz) (flat enc (xs.drop l)) := by
  by_cases hl : l < xs.length
  · have hml : m ≠ l := by omega
    rcases hR with h | ⟨b, off, rfl, h⟩
    · left
      have : flat enc xs = flat enc (xs.take l) ++ flat enc (xs.drop l) := by rw [← flat_append, List.take_append_drop]
      rw [this] at h
      exact (List.append_eq_nil_iff.1 h).2
    · right
      refine ⟨b, off + l * sz, by unfold sliA; rw [if_neg hml]; show some ((⟨b, off, none⟩ : Addr).add _) = _; rw [add_none], fun j v hj => ?_⟩
      have e : flat enc xs = flat enc (xs.take l) ++ flat enc (xs.drop l) := by rw [← flat_append, List.take_append_drop]
      have hlen : (flat enc (xs.take l)).length = l * sz := by rw [flat_length henc, List.length_take, Nat.min_eq_left (by omega)]
      have := h (l * sz + j) v (by rw [e, List.getElem?_append_right (by omega), hlen, show l * sz + j - l * sz = j from by omega]; exact hj)
      rw [← this, Nat.add_assoc]
  · left
    rw [List.drop_eq_nil_of_le (by omega)]
    rfl
def moveT (l a b : Nm) : Nm := if withinB a l = true then b ++ l.drop a.length else l
end Go.RV.C04
