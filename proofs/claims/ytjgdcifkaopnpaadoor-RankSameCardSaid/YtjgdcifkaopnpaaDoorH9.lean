/- Contracts of functions of chapter 6: the document's Drop, Write, put. Conditions: none. -/
import Derived.Test.YtjgdcifkaopnpaaDoorH8
set_option maxRecDepth 20000
set_option linter.unusedVariables false
set_option linter.unusedSimpArgs false
namespace Go.RV
open Go Go.Proofs

theorem filter_take {α : Type} (p : α → Bool) (xs : List α) {i : Nat} (hlt : i < xs.length) : (xs.take (i + 1)).filter p = (xs.take i).filter p ++ (if p xs[i] = true then [xs[i]] else []) := by
  rw [List.take_succ_eq_append_getElem hlt, List.filter_append]
  cases hq : p xs[i] <;> simp [hq]
theorem opX_8 {f : Nat → Int} {xs : List Sx} {r : Int} {ds : List (Int × Int)} (h : opE f xs r = 0) : (opX f xs r ds).length ≤ 8 := by
  have hc : checkB f xs = true := by
    cases hc : checkB f xs with
    | true => rfl
    | false => unfold opE at h; rw [hc] at h; cases h
  have := ((check_iff f xs).1 hc).2.1
  have := opX_len f xs r ds
  omega
theorem Rd.part {α : Type} {enc : α → List Value} {sz : Nat} {w : World} {A : Option Addr} {xs : List α} (henc : ∀ x, (enc x).length = sz) (hR : Rd w A (flat enc xs)) {m l : Nat} (hm : xs.length ≤ m) : Rd w (sliA A m l sz) (flat enc (xs.drop l)) := by
  by_cases hl : l < xs.length
  · have hml : m ≠ l := by omega
    rcases hR with h | ⟨b, off, rfl, h⟩
    · left
      have : flat enc xs = flat enc (xs.take l) ++ flat enc (xs.drop l) := by rw [← flat_append, List.take_append_drop]
      rw [this] at h
      exact (List.append_eq_nil_iff.1 h).2
    · right
      refine ⟨b, off + l * sz, by unfold sliA; rw [if_neg hml]; show some ((⟨b, off, none⟩ : Addr).add _) = _; rw [add_none], fun j v hj => ?_⟩
      have e : flat enc xs = flat enc (xs.take l) ++ flat enc (xs.drop l) := by rw [← flat_append, List.take_append_drop]
      have hlen : (flat enc (xs.take l)).length = l * sz := by rw [flat_length henc, List.length_take, Nat.min_eq_left (by omega)]
      have := h (l * sz + j) v (by rw [e, List.getElem?_append_right (by omega), hlen, show l * sz + j - l * sz = j from by omega]; exact hj)
      rw [← this, Nat.add_assoc]
  · left
    rw [List.drop_eq_nil_of_le (by omega)]
    rfl
theorem Rd.beg {α : Type} {enc : α → List Value} {w : World} {A : Option Addr} {xs : List α} (hR : Rd w A (flat enc xs)) (k : Nat) : Rd w A (flat enc (xs.take k)) := by
  rcases hR with h | ⟨b, off, rfl, h⟩
  · left
    have e : flat enc xs = flat enc (xs.take k) ++ flat enc (xs.drop k) := by rw [← flat_append, List.take_append_drop]
    rw [e] at h
    exact (List.append_eq_nil_iff.1 h).1
  · right
    refine ⟨b, off, rfl, fun j v hj => h j v ?_⟩
    have e : flat enc xs = flat enc (xs.take k) ++ flat enc (xs.drop k) := by rw [← flat_append, List.take_append_drop]
    rw [e, List.getElem?_append_left (List.getElem?_eq_some_iff.1 hj).1]
    exact hj
def putX (l : List Sx) (s : Sx) : List Sx := l.takeWhile (fun y => lessX y s) ++ s :: l.dropWhile (fun y => lessX y s)
theorem while_at {α : Type} (p : α → Bool) : ∀ (l : List α) (k : Nat), k ≤ l.length → (∀ j (h : j < l.length), j < k → p l[j] = true) → (∀ h : k < l.length, p l[k] = false) → l.takeWhile p = l.take k ∧ l.dropWhile p = l.drop k
  | [], k, hk, _, _ => by simp
  | a :: l, 0, _, _, h => by
    have := h (by simp)
    simp only [List.getElem_cons_zero] at this
    simp [this]
  | a :: l, k+1, hk, h1, h2 => by
    have ha := h1 0 (by simp) (by omega)
    simp only [List.getElem_cons_zero] at ha
    have ih := while_at p l k (by simpa using hk) (fun j hj hjk => h1 (j + 1) (by simpa using hj) (by omega)) (fun h => h2 (by simpa using h))
    simp [ha, ih.1, ih.2]
theorem putX_at {l : List Sx} {s : Sx} {k : Nat} (hk : k ≤ l.length) (h1 : ∀ j (h : j < l.length), j < k → lessX l[j] s = true) (h2 : ∀ h : k < l.length, lessX l[k] s = false) : putX l s = l.take k ++ [s] ++ l.drop k := by
  obtain ⟨e1, e2⟩ := while_at (fun y => lessX y s) l k hk h1 h2
  unfold putX
  rw [e1, e2]
  simp
end Go.RV
