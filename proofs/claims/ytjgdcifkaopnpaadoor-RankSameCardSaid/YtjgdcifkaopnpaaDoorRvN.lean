/- What a claim hands over, opened: whole values by their cells, slices by their elements. Conditions: none. -/
import Derived.Test.YtjgdcifkaopnpaaDoorRvM
import Derived.ProofKit
import Derived.SizedLaws
import Derived.OpenShut
import Derived.Deep.Slices
set_option linter.unusedVariables false
set_option linter.unusedSimpArgs false
namespace Go.RV
open Go Go.RowKit Go.ChangeShapes Go.WideShapes

section
variable {P : Program} {w : World} {r : Reach} {b0 : Nat}

theorem cell_int {t : TypeId} {k : IntKind} {v : Value} (ht : P.underlying t = some (.int k)) (h : Cell.okWide P w r b0 t v) : ∃ n, v = .int k n ∧ k.has n := by
  simp only [Cell.okWide, ht] at h
  cases v <;> simp_all [Cell.ok]
theorem cell_bool {t : TypeId} {v : Value} (ht : P.underlying t = some .bool) (h : Cell.okWide P w r b0 t v) : ∃ b, v = .bool b := by
  simp only [Cell.okWide, ht] at h
  cases v <;> simp_all [Cell.ok]
theorem cell_string {t : TypeId} {v : Value} (ht : P.underlying t = some .string) (h : Cell.okWide P w r b0 t v) : ∃ s, v = .string s ∧ (s.size : Int) ≤ IntKind.i64.max := by
  simp only [Cell.okWide, ht] at h
  cases v <;> simp_all [Cell.ok]

/-- a struct or an array, by value: its cells, each of its kind -/
theorem okWide_cells {t : TypeId} {v : Value} {ts : List TypeId} (hu : (∃ fs, P.underlying t = some (.struct fs)) ∨ ∃ n e, P.underlying t = some (.array n e)) (hts : P.cellTypes P.depth t = some ts) (hn : P.cellsOf t = ts.length)
    (h : Value.okWide P w r b0 t v) : ∃ cs : List Value, v = .agg cs.toArray ∧ cs.length = ts.length ∧ ∀ (i : Nat) (u : TypeId), ts[i]? = some u → ∃ x, cs[i]? = some x ∧ Cell.okWide P w r b0 u x := by
  have h' : ∃ cs, v = .agg cs ∧ cs.size = P.cellsOf t ∧ Row.okWide P w r b0 t cs := by
    rcases hu with ⟨fs, hu⟩ | ⟨n, e, hu⟩ <;> simpa only [Value.okWide, hu] using h
  obtain ⟨cs, rfl, hs, ts', hts', _, hc⟩ := h'
  have e : ts' = ts := Option.some.inj (hts'.symm.trans hts)
  subst e
  refine ⟨cs.toList, by simp, by simp [hs, hn], fun i u hu => ?_⟩
  have hi : i < ts'.length := (List.getElem?_eq_some_iff.1 hu).1
  have hi' : i < cs.size := by rw [hs, hn]; exact hi
  obtain ⟨u', hu', hx⟩ := hc i cs[i] (by simp [hi'])
  rw [Nat.mod_eq_of_lt hi] at hu'
  have e : u' = u := Option.some.inj (hu'.symm.trans hu)
  subst e
  exact ⟨cs[i], by simp [hi'], hx⟩

variable {H : Type} {en : TypeId × Value → H} {base : Nat} {spare : Nat → Bool} {held : Bool}

/-- a slice, by its elements -/
theorem open_list {α : Type} [Inhabited α] {enc : α → List Value} {ok : α → Prop} {t e sz : Nat} {v : Value} {d : DataW H} {ps : List MemPlace} (ht : P.underlying t = some (.slice e)) (hc : P.cellsOf e = sz) (hz : 0 < sz) (henc : ∀ x, (enc x).length = sz)
    (hel : ∀ n cs x, DataW.trod en P w base spare held n e cs = some x → ∃ s, cs = enc s ∧ ok s) (hv : Value.okWide P w r b0 t v) (h : DataW.Trod en P w base spare held t v d ps) :
    ∃ (A : Option Addr) (c : Nat) (xs : List α), v = .slice A xs.length c ∧ xs.length ≤ c ∧ c ≤ maxLen ∧ Rd w A (flat enc xs) ∧ (∀ x ∈ xs, ok x) ∧ (A = none → c = 0) := by
  obtain ⟨a, len, cap, rfl⟩ := okWide_slice ht hv
  obtain ⟨fuel, hf⟩ := h
  rcases Go.Deep.open_slice ht hf with ⟨hcs, _⟩ | ⟨x, l, c, m, n, D, Pl, hcs, hb, hl, hm, hmm, _, hx⟩
  · simp [Value.cells] at hcs
    obtain ⟨rfl, rfl, rfl⟩ := hcs
    exact ⟨none, 0, [], rfl, Nat.le_refl _, Nat.zero_le _, .inl rfl, by simp, fun _ => rfl⟩
  · simp [Value.cells] at hcs
    obtain ⟨rfl, rfl, rfl⟩ := hcs
    have spot : x.spot = none := by
      simp only [Value.okWide, ht, Cell.okWide, Cell.ok] at hv
      exact hv.2.2.2.1
    obtain ⟨xb, xo, xs⟩ := x
    obtain rfl : xs = none := spot
    have hlm : len ≤ m := by rw [hmm]; split <;> omega
    have each : ∀ i, i < len → ∃ s : α, ok s ∧ ∀ k, k < sz → w.cell? ⟨xb, xo + (i * sz + k), none⟩ = (enc s)[k]? := by
      intro i hi
      obtain ⟨cs', h1, h2⟩ := hx i (by omega)
      obtain ⟨s, rfl, hs⟩ := hel _ _ _ h2
      obtain ⟨_, _, h3⟩ := World.cells?_some h1
      refine ⟨s, hs, fun k hk => ?_⟩
      have := h3 k (by rw [hc]; exact hk)
      rw [← this, hc]
      rw [add_none, add_none, Nat.add_assoc]
    obtain ⟨q, hq⟩ := Go.Deep.choose_lt each
    refine ⟨some ⟨xb, xo, none⟩, cap, (List.range len).map q, by simp, by simpa using hl, hm, ?_, ?_, by simp⟩
    · refine .inr ⟨xb, xo, rfl, ?_⟩
      · intro j v hj
        have hjl : j < (flat enc ((List.range len).map q)).length := (List.getElem?_eq_some_iff.1 hj).1
        rw [flat_length henc] at hjl
        have hi : j / sz < ((List.range len).map q).length := Nat.div_lt_of_lt_mul (by rw [Nat.mul_comm]; exact hjl)
        have hk : j % sz < sz := Nat.mod_lt _ hz
        have e := flat_get henc ((List.range len).map q) (j / sz) hi (j % sz) hk
        have ej : j / sz * sz + j % sz = j := by rw [Nat.mul_comm]; exact Nat.div_add_mod j sz
        rw [ej, hj] at e
        have hi' : j / sz < len := by simpa using hi
        have := (hq (j / sz) hi').2 (j % sz) hk
        rw [ej] at this
        simp only [List.getElem_map, List.getElem_range] at e
        rw [← e] at this
        exact this
    · intro y hy
      simp only [List.mem_map, List.mem_range] at hy
      obtain ⟨i, hi, rfl⟩ := hy
      exact (hq i hi).1
end
end Go.RV
