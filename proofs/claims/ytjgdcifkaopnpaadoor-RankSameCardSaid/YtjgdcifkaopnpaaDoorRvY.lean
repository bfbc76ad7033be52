/- What a row that lists package variables (a door's) asks besides: a world in which these hold their data; a card's last facts. Conditions: none. -/
import Derived.Test.YtjgdcifkaopnpaaDoorRvN
import Derived.LaidLaws
import Derived.LaidHandle
import Derived.Lib.AppendIntMem
import Derived.MakeChecks
set_option linter.unusedVariables false
namespace Go.RV
open Go
/-- the cells of a table of numbers -/
def laidCells : DataW Unit → Array Value
  | .agg ps => (ps.map fun
    | .lit (.int k n) => Value.int k n
    | _ => Value.nilIface).toArray
  | _ => #[]
def layIn (P : Program) (w : World) (x : String × DataW Unit) : World :=
  match P.globalNamed x.1 with
  | some g => { w with heap := w.heap.modify g fun
      | .cells _ t frozen => .cells (laidCells x.2) t frozen
      | o => o }
  | none => w
theorem layIn_os (P : Program) (w : World) (x : String × DataW Unit) : (layIn P w x).os = w.os := by
  unfold layIn
  split <;> rfl
noncomputable def laidWorld (P : Program) (os : Os) (l : List (String × DataW Unit)) : World := l.foldl (layIn P) (World.holding P os ⟨#[], #[], []⟩)
theorem laid_os (P : Program) (os : Os) (l : List (String × DataW Unit)) : (laidWorld P os l).os = os := by
  have : ∀ (l : List (String × DataW Unit)) (w : World), (l.foldl (layIn P) w).os = w.os := by
    intro l
    induction l with
    | nil => intro w; rfl
    | cons x r ih => intro w; rw [List.foldl_cons, ih, layIn_os]
  exact this l _
theorem params_all {ps : Array TypeId} {f : TypeId → Bool} (h : ps.toList.all (fun t => !f t) = true) {j : Nat} {t : TypeId} (ht : ps[j]? = some t) : f t = false := by
  have hm : t ∈ ps.toList := by
    rw [← Array.getElem?_toList] at ht
    exact List.mem_of_getElem? ht
  simpa using List.all_eq_true.1 h t hm
end Go.RV
