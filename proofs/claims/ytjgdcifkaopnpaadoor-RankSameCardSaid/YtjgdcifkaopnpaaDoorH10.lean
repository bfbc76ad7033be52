/- Contracts of functions of chapter 6: the document's Join, Lost, Equal, Same. Conditions: none. -/
import Derived.Test.YtjgdcifkaopnpaaDoorH9
set_option maxRecDepth 20000
set_option linter.unusedVariables false
set_option linter.unusedSimpArgs false
namespace Go.RV
open Go Go.Proofs

theorem putX_len (l : List Sx) (s : Sx) : (putX l s).length = l.length + 1 := by
  unfold putX
  have := congrArg List.length (List.takeWhile_append_dropWhile (p := fun y => lessX y s) (l := l))
  rw [List.length_append] at this
  simp
  omega
theorem foldPut_len : ∀ (l out : List Sx), (l.foldl putX out).length = out.length + l.length
  | [], out => by simp
  | x :: l, out => by
    rw [List.foldl_cons, foldPut_len l, putX_len]
    simp
    omega
theorem foldPut_take (p : Sx → Bool) (out : List Sx) (xs : List Sx) {i : Nat} (hlt : i < xs.length) : ((xs.take (i + 1)).filter p).foldl putX out = if p xs[i] = true then putX (((xs.take i).filter p).foldl putX out) xs[i] else ((xs.take i).filter p).foldl putX out := by
  rw [filter_take p xs hlt, List.foldl_append]
  cases p xs[i] <;> rfl
theorem joinG {f g : Nat → Int} {i : Nat} (h : ¬ f i < g i) : (fun j => if j < i then joinV f g j else f j) = fun j => if j < i + 1 then joinV f g j else f j := by
  funext j
  by_cases e : j = i
  · subst e
    have h3 : j < j + 1 := by omega
    simp [joinV]
    omega
  · by_cases h2 : j < i
    · have h3 : j < i + 1 := by omega
      simp [h2, h3]
    · have h3 : ¬ j < i + 1 := by omega
      simp [h2, h3]
def rjX (f g : Nat → Int) (xs ys : List Sx) : List Sx := if jnE f g xs ys = 0 then (jnL f g xs ys).foldl putX [] else []
end Go.RV
