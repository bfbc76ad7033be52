/- Contracts of functions of chapter 4: the document's names. Conditions: none. -/
import Derived.Test.YtnhlpmnehdackaaPa1
import Derived.Test.YtnhlpmnehdackaaRvY
import Derived.Lib.DecodeN
set_option maxRecDepth 20000
set_option linter.unusedVariables false
set_option linter.unusedSimpArgs false
namespace Go.RV.C04
open Go Go.Proofs Go.RowKit

theorem bads_hit {l : List UInt8} {i : Nat} (h : i < l.length) (hb : badC l[i].toNat = true) : bads l = true := List.any_eq_true.2 ⟨_, List.getElem_mem h, hb⟩
theorem bads_no {l : List UInt8} (h : ∀ j (h : j < l.length), badC l[j].toNat = false) : bads l = false := by
  unfold bads
  rw [List.any_eq_false]
  intro x hx
  obtain ⟨j, hj, rfl⟩ := List.getElem_of_mem hx
  rw [h j hj]
  decide
theorem dec_len : ∀ k u : Nat, u ≤ k → (Lib.decDigits u).length ≤ u + 1
  | 0, u, hu => by
    rw [Lib.decDigits, dif_pos (by omega)]
    simp
  | k+1, u, hu => by
    rw [Lib.decDigits]
    split
    · simp
    · have := dec_len k (u / 10) (by omega)
      simp only [List.length_append, List.length_singleton]
      omega
theorem tabIs_of_mem {P : Program} {W : World} {name : String} {k : IntKind} {zs : List Int} {g : Nat} {t e : TypeId} {n : Nat}
    (hg : P.globalNamed name = some g) (hty : (P.globals[g]?).map (·.type) = some t) (ht : P.underlying t = some (.array n e)) (he : P.underlying e = some (.int k)) (hce : P.cellsOf e = 1) (hct : P.cellsOf t = n) :
    ∀ {l : List (String × DataW Unit)}, (name, Lib.tabData k zs) ∈ l → laidMet P l W → Lib.TabIs P W name k zs := by
  intro l hm h
  obtain ⟨ps, h, hrest⟩ := h
  clear hrest
  induction l generalizing ps with
  | nil => cases hm
  | cons x r ih =>
    obtain ⟨nm, d⟩ := x
    obtain ⟨g', t', cs, fuel, p, q, hg', ht', hvar, hd, hr, _⟩ := h
    rcases List.mem_cons.1 hm with e | hm
    · cases e
      obtain rfl := Option.some.inj (hg.symm.trans hg')
      obtain rfl := Option.some.inj (hty.symm.trans ht')
      unfold Lib.TabIs
      rw [hvar, ← Lib.cells_of_tab ht he hce hct hd]
    · exact ih hm q hr
end Go.RV.C04
