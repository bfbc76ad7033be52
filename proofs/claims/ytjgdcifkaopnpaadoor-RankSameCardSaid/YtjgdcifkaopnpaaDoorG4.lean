/- Contracts of functions of chapter 8: the document's groups. Conditions: none. -/
import Derived.Test.YtjgdcifkaopnpaaDoorG3
set_option maxRecDepth 20000
set_option linter.unusedVariables false
set_option linter.unusedSimpArgs false
namespace Go.RV.C08
open Go Go.Proofs

abbrev Gp := List UInt8 × List (Int × Int)
def gp (g : Gx) : Gp := (g.v, g.ds)
def addD (d : Int × Int) (g : Gp) : Gp := (g.1, g.2 ++ [d])
def stepG (sm : List UInt8 → List UInt8 → Bool) (l : List Gp) (x : Sx) : List Gp :=
  if l.findIdx (fun g => sm g.1 x.v) < l.length then l.modify (l.findIdx fun g => sm g.1 x.v) (addD (x.r, x.n)) else l ++ [(x.v, [(x.r, x.n)])]
def grpsF (sm : List UInt8 → List UInt8 → Bool) (xs : List Sx) (m : Nat) : List Gp := (xs.drop m).reverse.foldl (stepG sm) []
def grps (sm : List UInt8 → List UInt8 → Bool) (xs : List Sx) : List Gp := grpsF sm xs 0
theorem grpsF_end (sm : List UInt8 → List UInt8 → Bool) (xs : List Sx) : grpsF sm xs xs.length = [] := by simp [grpsF]
theorem grpsF_next (sm : List UInt8 → List UInt8 → Bool) (xs : List Sx) {m : Nat} (h : m < xs.length) : grpsF sm xs m = stepG sm (grpsF sm xs (m + 1)) xs[m] := by
  unfold grpsF
  rw [List.drop_eq_getElem_cons h, List.reverse_cons, List.foldl_append]
  rfl
theorem stepG_bound {sm : List UInt8 → List UInt8 → Bool} {l : List Gp} {x : Sx} {n : Nat} (h : l.length ≤ n ∧ ∀ g ∈ l, g.2.length ≤ n) : (stepG sm l x).length ≤ n + 1 ∧ ∀ g ∈ stepG sm l x, g.2.length ≤ n + 1 := by
  unfold stepG
  split
  · refine ⟨by rw [List.length_modify]; omega, fun g hg => ?_⟩
    obtain ⟨j, hj, rfl⟩ := List.getElem_of_mem hg
    rw [List.getElem_modify]
    rw [List.length_modify] at hj
    have := h.2 _ (List.getElem_mem hj)
    split
    · simp [addD]; omega
    · omega
  · refine ⟨by simp; omega, fun g hg => ?_⟩
    rcases List.mem_append.1 hg with hg | hg
    · have := h.2 g hg; omega
    · obtain rfl := List.mem_singleton.1 hg
      simp
theorem grpsF_bound (sm : List UInt8 → List UInt8 → Bool) (xs : List Sx) : ∀ k m, m + k = xs.length → (grpsF sm xs m).length ≤ k ∧ ∀ g ∈ grpsF sm xs m, g.2.length ≤ k
  | 0, m, h => by
    obtain rfl : m = xs.length := by omega
    rw [grpsF_end]
    simp
  | k+1, m, h => by
    rw [grpsF_next sm xs (by omega)]
    exact stepG_bound (grpsF_bound sm xs k (m + 1) (by omega))
/-- the values of groups are among the register's -/
theorem grpsF_val (sm : List UInt8 → List UInt8 → Bool) (xs : List Sx) : ∀ k m, m + k = xs.length → ∀ g ∈ grpsF sm xs m, ∃ x ∈ xs, g.1 = x.v
  | 0, m, h, g, hg => by
    obtain rfl : m = xs.length := by omega
    rw [grpsF_end] at hg
    cases hg
  | k+1, m, h, g, hg => by
    rw [grpsF_next sm xs (by omega)] at hg
    unfold stepG at hg
    split at hg
    · obtain ⟨j, hj, rfl⟩ := List.getElem_of_mem hg
      rw [List.length_modify] at hj
      rw [List.getElem_modify]
      have := grpsF_val sm xs k (m + 1) (by omega) _ (List.getElem_mem hj)
      split
      · exact this
      · exact this
    · rcases List.mem_append.1 hg with hg | hg
      · exact grpsF_val sm xs k (m + 1) (by omega) g hg
      · obtain rfl := List.mem_singleton.1 hg
        exact ⟨xs[m], List.getElem_mem _, rfl⟩
theorem map_gp_set {gs : List Gx} {k : Nat} (h : k < gs.length) (d : Int × Int) (A : Option Addr) (c : Nat) (L : LM) : (gs.set k ⟨gs[k].v, gs[k].ds ++ [d], A, c, L⟩).map gp = (gs.map gp).modify k (addD d) := by
  apply List.ext_getElem
  · simp
  · intro i h1 h2
    simp only [List.getElem_map, List.getElem_modify]
    by_cases e : k = i
    · subst e
      simp [gp, addD]
    · rw [if_neg e, List.getElem_set_ne e]
theorem modify_last {α : Type} (f : α → α) (a : α) : ∀ l : List α, (l ++ [a]).modify l.length f = l ++ [f a]
  | [] => rfl
  | b :: l => by
    show b :: (l ++ [a]).modify l.length f = b :: (l ++ [f a])
    rw [modify_last f a l]
theorem stepG_hit {sm : List UInt8 → List UInt8 → Bool} {gs : List Gx} {x : Sx} {k : Nat} (hk : k < gs.length) (hno : ∀ j (h : j < gs.length), j < k → sm gs[j].v x.v = false) (hy : sm gs[k].v x.v = true) : stepG sm (gs.map gp) x = (gs.map gp).modify k (addD (x.r, x.n)) := by
  have : (gs.map gp).findIdx (fun g => sm g.1 x.v) = k := by
    rw [List.findIdx_eq (by simpa using hk)]
    refine ⟨by simpa [gp] using hy, fun j hj => ?_⟩
    have := hno j (by omega) hj
    simpa [gp] using this
  unfold stepG
  rw [this, if_pos (by simpa using hk)]
theorem stepG_miss {sm : List UInt8 → List UInt8 → Bool} {gs : List Gx} {x : Sx} (hno : ∀ j (h : j < gs.length), sm gs[j].v x.v = false) : stepG sm (gs.map gp) x = gs.map gp ++ [(x.v, [(x.r, x.n)])] := by
  have : (gs.map gp).findIdx (fun g => sm g.1 x.v) = (gs.map gp).length := by
    rw [List.findIdx_eq_length]
    intro g hg
    obtain ⟨y, hy, rfl⟩ := List.mem_map.1 hg
    obtain ⟨j, hj, rfl⟩ := List.getElem_of_mem hy
    exact by simpa [gp] using hno j hj
  unfold stepG
  rw [this, if_neg (by omega)]
end Go.RV.C08
