/- Plain laws for RankSame: a join that is joined once more is the same. Conditions: none. -/
import Derived.Test.YtjgdcifkaopnpaaDoorH18
set_option maxRecDepth 20000
set_option linter.unusedVariables false
set_option linter.unusedSimpArgs false
namespace Go.RV
open Go Go.Proofs

theorem has_joinB {f g : Nat → Int} {x : Sx} (h : hasB f x.r x.n = true ∨ hasB g x.r x.n = true) : hasB (joinV f g) x.r x.n = true := (hasX_join f g x).2 h
theorem in_self {l : List Sx} {x : Sx} (h : x ∈ l) : inX l x.r x.n = true := (inX_iff l x.r x.n).2 ⟨x, h, rfl⟩
theorem jnL_parts {f g : Nat → Int} {xs ys : List Sx} {x : Sx} (h : x ∈ jnL f g xs ys) : (x ∈ xs ∧ (inX ys x.r x.n = true ∨ hasB g x.r x.n = false)) ∨ (x ∈ ys ∧ hasB f x.r x.n = false) := by
  unfold jnL jnA jnB at h
  rcases List.mem_append.1 h with h | h
  · obtain ⟨h1, h2⟩ := List.mem_filter.1 h
    left
    exact ⟨h1, by simpa using h2⟩
  · obtain ⟨h1, h2⟩ := List.mem_filter.1 h
    right
    exact ⟨h1, by simpa using h2⟩
theorem filter_all {α : Type} {p : α → Bool} {l : List α} (h : ∀ x ∈ l, p x = true) : l.filter p = l := List.filter_eq_self.2 h
theorem filter_none {α : Type} {p : α → Bool} {l : List α} (h : ∀ x ∈ l, p x = false) : l.filter p = [] := by
  rw [List.filter_eq_nil_iff]
  intro x hx
  rw [h x hx]
  decide
theorem jnX_mem {f g : Nat → Int} {xs ys : List Sx} (h : jnE f g xs ys = 0) {x : Sx} : x ∈ jnX f g xs ys ↔ x ∈ jnL f g xs ys := by rw [jnX_eq h, jnS_mem]
theorem again_y {f g : Nat → Int} {xs ys : List Sx} (h : jnE f g xs ys = 0) : jnL (joinV f g) g (jnX f g xs ys) ys = jnX f g xs ys := by
  obtain ⟨h1, h2, _⟩ := jnE_ok h
  obtain ⟨_, k2, _⟩ := check_srt h2
  unfold jnL jnA jnB
  rw [filter_all, filter_none, List.append_nil]
  · intro y hy
    rw [has_joinB (.inr (k2 y hy))]
    rfl
  · intro x hx
    rcases jnL_parts ((jnX_mem h).1 hx) with ⟨_, q | q⟩ | ⟨q, _⟩
    · rw [q]; rfl
    · rw [q]; simp
    · rw [in_self q]; rfl
theorem again_x {f g : Nat → Int} {xs ys : List Sx} (h : jnE f g xs ys = 0) : jnL (joinV f g) f (jnX f g xs ys) xs = jnX f g xs ys := by
  obtain ⟨h1, h2, _⟩ := jnE_ok h
  obtain ⟨_, k1, _⟩ := check_srt h1
  unfold jnL jnA jnB
  rw [filter_all, filter_none, List.append_nil]
  · intro y hy
    rw [has_joinB (.inl (k1 y hy))]
    rfl
  · intro x hx
    rcases jnL_parts ((jnX_mem h).1 hx) with ⟨q, _⟩ | ⟨_, q⟩
    · rw [in_self q]; rfl
    · rw [q]; simp
theorem fold_srt {l : List Sx} (h : Srt l) : l.foldl putX [] = l :=
  srt_ext (foldPut_srt l [] List.Pairwise.nil (by simpa using h.nodup)) h (fun x => by
    have := (foldPut_perm l []).mem_iff (a := x)
    simpa using this)
theorem join_again {f g : Nat → Int} {zs ys : List Sx} (h0 : jnE f g zs ys = 0) (hl : jnL f g zs ys = zs) : jnX f g zs ys = zs := by
  obtain ⟨h1, _, _⟩ := jnE_ok h0
  rw [jnX_eq h0]
  unfold jnS
  rw [hl]
  exact fold_srt (check_srt h1).1
end Go.RV
