/- Tables of numbers and of answers in memory, as functions. Conditions: none. -/
import Derived.Test.YtonmadhoalbinaaA14
set_option linter.unusedVariables false
set_option linter.unusedSimpArgs false
namespace Go.RV
open Go Go.Proofs

def arrF (n : Nat) (f : Nat → Value) : List Value := (List.range n).map f
theorem arrF_len (n : Nat) (f : Nat → Value) : (arrF n f).length = n := by simp [arrF]
theorem arrF_get {n : Nat} {f : Nat → Value} {i : Nat} (h : i < n) : (arrF n f)[i]? = some (f i) := by
  unfold arrF
  rw [List.getElem?_map, List.getElem?_range h]
  rfl
theorem arrF_ext {n : Nat} {f : Nat → Value} {l : List Value} (hl : l.length = n) (h : ∀ i, i < n → l[i]? = some (f i)) : l = arrF n f := by
  apply List.ext_getElem?
  intro i
  rcases Nat.lt_or_ge i n with hi | hi
  · rw [h i hi, arrF_get hi]
  · rw [List.getElem?_eq_none (by omega), List.getElem?_eq_none (by rw [arrF_len]; omega)]
def allA (vs : Nat → Nat → Int) : List Value := arrF 40 fun x => .int .u32 (vs (x / 8) (x % 8))
def hasA (hs : Nat → Nat → Bool) : List Value := arrF 300 fun x => .bool (hs (x / 60) (x % 60))
theorem vecF_len (f : Nat → Int) : (vecF f).length = 8 := rfl
theorem all_part (vs : Nat → Nat → Int) {u : Nat} (hu : u < 5) : ((allA vs).drop (8 * u)).take 8 = vecF (vs u) := by
  apply List.ext_getElem?
  intro j
  rcases Nat.lt_or_ge j 8 with hj | hj
  · rw [List.getElem?_take, if_pos hj, List.getElem?_drop, allA, arrF_get (by omega), vget hj rfl]
    rw [show (8 * u + j) / 8 = u from by omega, show (8 * u + j) % 8 = j from by omega]
  · rw [List.getElem?_eq_none (by rw [List.length_take]; omega), List.getElem?_eq_none (by rw [vecF_len]; omega)]
theorem all_set (vs : Nat → Nat → Int) {u : Nat} (hu : u < 5) (f : Nat → Int) : setsL (allA vs) (8 * u) (vecF f) = allA (upf vs u f) := by
  rw [setsL_eq _ _ _ (by rw [vecF_len, allA, arrF_len]; omega), vecF_len]
  refine arrF_ext (by simp only [List.length_append, List.length_take, List.length_drop, vecF_len, allA, arrF_len]; omega) ?_
  intro i hi
  have hl : ((allA vs).take (8 * u)).length = 8 * u := by rw [List.length_take, allA, arrF_len]; omega
  rcases Nat.lt_or_ge i (8 * u) with h1 | h1
  · rw [List.append_assoc, List.getElem?_append_left (by omega), List.getElem?_take, if_pos h1, allA, arrF_get hi, upf_ne (by omega)]
  · rcases Nat.lt_or_ge i (8 * u + 8) with h2 | h2
    · rw [List.append_assoc, List.getElem?_append_right (by omega), hl, List.getElem?_append_left (by rw [vecF_len]; omega), vget (i := i - 8 * u) (by omega) rfl]
      rw [show i / 8 = u from by omega, upf_same, show i % 8 = i - 8 * u from by omega]
    · rw [List.getElem?_append_right (by rw [List.length_append, hl, vecF_len]; omega), List.length_append, hl, vecF_len, List.getElem?_drop, allA, arrF_get (by omega), upf_ne (by omega)]
      rw [show 8 * u + 8 + (i - (8 * u + 8)) = i from by omega]
def up2 (hs : Nat → Nat → Bool) (u k : Nat) (x : Bool) : Nat → Nat → Bool := fun u' k' => if u' = u ∧ k' = k then x else hs u' k'
theorem has_set (hs : Nat → Nat → Bool) {u k : Nat} (hu : u < 5) (hk : k < 60) (x : Bool) : (hasA hs).set (60 * u + k) (.bool x) = hasA (up2 hs u k x) := by
  refine arrF_ext (by rw [List.length_set, hasA, arrF_len]) ?_
  intro i hi
  rw [List.getElem?_set]
  split
  · rename_i e
    subst e
    rw [if_pos (by rw [hasA, arrF_len]; omega), show (60 * u + k) / 60 = u from by omega, show (60 * u + k) % 60 = k from by omega]
    simp [up2]
  · rename_i e
    rw [hasA, arrF_get hi]
    have : ¬ (i / 60 = u ∧ i % 60 = k) := by omega
    simp [up2, this]
section
variable {P : Program} {M : List Nat} {w0 w : World} {F L : LM}
theorem ldAll {b off n : Nat} {vs : Nat → Nat → Int} {e : TypeId} {fz : Nat × Nat} {u : Nat} {K : List Value → Prop} (hS : Sf M w0 w F L) (k : Nat) (hk : L[k]? = some (b, .cells (allA vs).toArray e fz)) (hu : u < 5) (ho : off = 8 * u) (hn : n = 8) (h : K (vecF (vs u))) : LdN w ⟨b, off, none⟩ n K := by
  subst ho
  subst hn
  refine ldN_f hS k hk (by show 8 * u + 8 ≤ (allA vs).length; rw [allA, arrF_len]; omega) ?_
  rw [show (allA vs).toArray.toList = allA vs from rfl, all_part vs hu]
  exact h
theorem stAll {b off : Nat} {vs : Nat → Nat → Int} {f : Nat → Int} {e : TypeId} {u : Nat} {K : World → Prop} (hS : Sf M w0 w F L) (k : Nat) (hk : L[k]? = some (b, .cells (allA vs).toArray e (0, 0))) (hu : u < 5) (ho : off = 8 * u)
    (h : setLK L k (b, .cells (allA (upf vs u f)).toArray e (0, 0)) fun L' => ∀ w', Sf M w0 w' F L' → K w') : StN P w ⟨b, off, none⟩ (vecF f) K := by
  subst ho
  refine stM_f hS k hk (by show 8 * u + 8 ≤ (allA vs).length; rw [allA, arrF_len]; omega) rfl (setsK_i ?_)
  rw [show (allA vs).toArray.toList = allA vs from rfl, all_set vs hu]
  exact h
theorem ldHas {b off : Nat} {hs : Nat → Nat → Bool} {e : TypeId} {fz : Nat × Nat} {u i : Nat} {K : Value → Prop} (hS : Sf M w0 w F L) (k : Nat) (hk : L[k]? = some (b, .cells (hasA hs).toArray e fz)) (hu : u < 5) (hi : i < 60) (ho : off = 60 * u + i) (h : K (.bool (hs u i))) : Ld w ⟨b, off, none⟩ K := by
  subst ho
  refine ld_f hS k hk (show (hasA hs)[60 * u + i]? = some (.bool (hs u i)) from ?_) h
  rw [hasA, arrF_get (by omega), show (60 * u + i) / 60 = u from by omega, show (60 * u + i) % 60 = i from by omega]
theorem stHas {b off : Nat} {hs : Nat → Nat → Bool} {x : Bool} {e : TypeId} {u i : Nat} {K : World → Prop} (hS : Sf M w0 w F L) (k : Nat) (hk : L[k]? = some (b, .cells (hasA hs).toArray e (0, 0))) (hu : u < 5) (hi : i < 60) (ho : off = 60 * u + i)
    (h : setLK L k (b, .cells (hasA (up2 hs u i x)).toArray e (0, 0)) fun L' => ∀ w', Sf M w0 w' F L' → K w') : StN P w ⟨b, off, none⟩ [.bool x] K := by
  subst ho
  refine stN_f hS k hk (lo := 0) (hi := 0) (by show 60 * u + i < (hasA hs).length; rw [hasA, arrF_len]; omega) (by simp) rfl (setK_i ?_)
  rw [show (hasA hs).toArray.toList = hasA hs from rfl, has_set hs hu hi]
  exact h
end
end Go.RV
