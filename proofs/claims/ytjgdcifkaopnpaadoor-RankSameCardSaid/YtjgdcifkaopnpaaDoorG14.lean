/- Contracts of functions of chapter 8: the document's names and conflict names; digits out of the library's table. Conditions: none. -/
import Derived.Test.YtjgdcifkaopnpaaDoorG12
import Derived.Test.YtjgdcifkaopnpaaDoorRvY
set_option maxRecDepth 20000
set_option linter.unusedVariables false
set_option linter.unusedSimpArgs false
namespace Go.RV.C08
open Go Go.Proofs

theorem bads_hit {l : List UInt8} {i : Nat} (h : i < l.length) (hb : badC l[i].toNat = true) : bads l = true := List.any_eq_true.2 ⟨_, List.getElem_mem h, hb⟩
theorem bads_no {l : List UInt8} (h : ∀ j (h : j < l.length), badC l[j].toNat = false) : bads l = false := by
  unfold bads
  rw [List.any_eq_false]
  intro x hx
  obtain ⟨j, hj, rfl⟩ := List.getElem_of_mem hx
  rw [h j hj]
  decide
theorem dec_len : ∀ k u : Nat, u ≤ k → (Lib.decDigits u).length ≤ u + 1
  | 0, u, hu => by
    rw [Lib.decDigits, dif_pos (by omega)]
    simp
  | k+1, u, hu => by
    rw [Lib.decDigits]
    split
    · simp
    · have := dec_len k (u / 10) (by omega)
      simp only [List.length_append, List.length_singleton]
      omega
theorem digs_tab {w : World} (ht : Lib.TabIs Tryd.prog w "internal/strconv.uint64pow10" .u64 Lib.pow10Tab) {n : Int} (h0 : 0 ≤ n) (h1 : n ≤ 4294967295) : Digs w n := fun w' hS => by
  have ht' : Lib.TabIs Tryd.prog w' "internal/strconv.uint64pow10" .u64 Lib.pow10Tab := Lib.tabBelow_of_tabIs ht w' hS.below
  refine fc_of_calls Tryd.func65 rfl (by kernel_rfl) ?_
  have h := Any.strconv_Itoa (P := Tryd.prog) (ρ := ren171) lays171 n (by omega) (by omega) w' ht'
  refine h.mono fun e w'' ⟨he, k, os, hw⟩ => ⟨_, he, rfl, ?_⟩
  subst hw
  refine St.of_below' ⟨rfl, rfl, rfl, ?_, fun j hj => ?_⟩
  · show w'.heap.size ≤ (w'.heap ++ os).size
    rw [Array.size_append]; omega
  · show (w'.heap ++ os)[j]? = w'.heap[j]?
    rw [Array.getElem?_append_left hj]
theorem tabIs_of_mem {P : Program} {W : World} {name : String} {k : IntKind} {zs : List Int} {g : Nat} {t e : TypeId} {n : Nat}
    (hg : P.globalNamed name = some g) (hty : (P.globals[g]?).map (·.type) = some t) (ht : P.underlying t = some (.array n e)) (he : P.underlying e = some (.int k)) (hce : P.cellsOf e = 1) (hct : P.cellsOf t = n) :
    ∀ {l : List (String × DataW Unit)}, (name, Lib.tabData k zs) ∈ l → laidMet P l W → Lib.TabIs P W name k zs := by
  intro l hm h
  obtain ⟨ps, h, hrest⟩ := h
  clear hrest
  induction l generalizing ps with
  | nil => cases hm
  | cons x r ih =>
    obtain ⟨nm, d⟩ := x
    obtain ⟨g', t', cs, fuel, p, q, hg', ht', hvar, hd, hr, _⟩ := h
    rcases List.mem_cons.1 hm with e | hm
    · cases e
      obtain rfl := Option.some.inj (hg.symm.trans hg')
      obtain rfl := Option.some.inj (hty.symm.trans ht')
      unfold Lib.TabIs
      rw [hvar, ← Lib.cells_of_tab ht he hce hct hd]
    · exact ih hm q hr
theorem tab_row {W : World} {l : List (String × DataW Unit)} (hp : (l.all fun x => x.2.handleName?.isNone) = true) (hm : ("internal/strconv.uint64pow10", Lib.tabData .u64 Lib.pow10Tab) ∈ l) (h : laidMetH Tryd.prog l W) :
    Lib.TabIs Tryd.prog W "internal/strconv.uint64pow10" .u64 Lib.pow10Tab := by
  rw [MakeChecks.laidMetH_plain _ _ _ hp] at h
  exact tabIs_of_mem (g := 3) (t := 157) (e := 62) (n := 20) (by kernel_rfl) (by kernel_rfl) Tryd.underlying157 Tryd.underlying62 (by kernel_rfl) (by kernel_rfl) hm h
end Go.RV.C08
