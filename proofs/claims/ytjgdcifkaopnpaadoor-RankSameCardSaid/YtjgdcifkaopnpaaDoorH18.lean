/- Plain laws of chapter 6: what two registers are joined to, by membership. Conditions: none. -/
import Derived.Test.YtjgdcifkaopnpaaDoorH15
set_option linter.unusedVariables false
set_option linter.unusedSimpArgs false
namespace Go.RV
open Go Go.Proofs

theorem srt_ext : ∀ {l1 l2 : List Sx}, Srt l1 → Srt l2 → (∀ x, x ∈ l1 ↔ x ∈ l2) → l1 = l2
  | [], [], _, _, _ => rfl
  | [], b :: r2, _, _, h => absurd ((h b).2 (by simp)) (by simp)
  | a :: r1, [], _, _, h => absurd ((h a).1 (by simp)) (by simp)
  | a :: r1, b :: r2, h1, h2, h => by
    have e : a = b := by
      rcases List.mem_cons.1 ((h a).1 (by simp)) with e | ha
      · exact e
      · rcases List.mem_cons.1 ((h b).2 (by simp)) with e | hb
        · exact e.symm
        · have p := List.rel_of_pairwise_cons h2 ha
          have q := List.rel_of_pairwise_cons h1 hb
          rw [less_asymm p] at q
          cases q
    subst e
    have n1 : ∀ x ∈ r1, x ≠ a := fun x hx e => by
      subst e
      have := List.rel_of_pairwise_cons h1 hx
      rw [less_irrefl] at this
      cases this
    have n2 : ∀ x ∈ r2, x ≠ a := fun x hx e => by
      subst e
      have := List.rel_of_pairwise_cons h2 hx
      rw [less_irrefl] at this
      cases this
    rw [srt_ext (List.Pairwise.of_cons h1) (List.Pairwise.of_cons h2) fun x => ?_]
    constructor
    · intro hx
      rcases List.mem_cons.1 ((h x).1 (by simp [hx])) with e | hx2
      · exact absurd e (n1 x hx)
      · exact hx2
    · intro hx
      rcases List.mem_cons.1 ((h x).2 (by simp [hx])) with e | hx2
      · exact absurd e (n2 x hx)
      · exact hx2
/-- what the joined siblings are, ahead of the count -/
def jnS (f g : Nat → Int) (xs ys : List Sx) : List Sx := (jnL f g xs ys).foldl putX []
theorem jnS_mem (f g : Nat → Int) (xs ys : List Sx) (x : Sx) : x ∈ jnS f g xs ys ↔ x ∈ jnL f g xs ys := by
  have := foldPut_perm (jnL f g xs ys) []
  exact this.mem_iff
theorem jnS_len (f g : Nat → Int) (xs ys : List Sx) : (jnS f g xs ys).length = (jnL f g xs ys).length := by
  have := foldPut_len (jnL f g xs ys) []
  simpa [jnS] using this
theorem jnS_srt {f g : Nat → Int} {xs ys : List Sx} (h1 : checkB f xs = true) (h2 : checkB g ys = true) : Srt (jnS f g xs ys) :=
  foldPut_srt _ [] .nil (by simpa using jnL_nodup h1 h2)
theorem jnE_eq {f g : Nat → Int} {xs ys : List Sx} (h1 : checkB f xs = true) (h2 : checkB g ys = true) : jnE f g xs ys = if 8 < (jnS f g xs ys).length then 7 else 0 := by
  unfold jnE
  rw [if_pos ⟨h1, h2⟩, jnS_len]
theorem jnX_eq {f g : Nat → Int} {xs ys : List Sx} (h : jnE f g xs ys = 0) : jnX f g xs ys = jnS f g xs ys := by
  rw [← jn_rj]
  unfold rjX
  rw [if_pos h]
  rfl
theorem jnX_no {f g : Nat → Int} {xs ys : List Sx} (h : ¬ jnE f g xs ys = 0) : jnX f g xs ys = [] := by
  unfold jnX
  rw [if_neg h]
theorem jnF_eq {f g : Nat → Int} {xs ys : List Sx} (h : jnE f g xs ys = 0) : jnF f g xs ys = joinV f g := by
  unfold jnF
  rw [if_pos h]
theorem jnF_no {f g : Nat → Int} {xs ys : List Sx} (h : ¬ jnE f g xs ys = 0) : jnF f g xs ys = zeroF := by
  unfold jnF
  rw [if_neg h]
/-- has a context a sibling's dot -/
def hasX (f : Nat → Int) (x : Sx) : Prop := hasB f x.r x.n = true
theorem hasX_iff (f : Nat → Int) (x : Sx) : hasX f x ↔ (x.r < 8 ∧ 1 ≤ x.n ∧ x.n ≤ 65535) ∧ x.n ≤ f x.r.toNat := by
  unfold hasX hasB mayDotB
  simp [and_assoc]
theorem hasX_join (f g : Nat → Int) (x : Sx) : hasX (joinV f g) x ↔ hasX f x ∨ hasX g x := by
  rw [hasX_iff, hasX_iff, hasX_iff]
  unfold joinV
  constructor
  · rintro ⟨h1, h2⟩
    rcases (show x.n ≤ f x.r.toNat ∨ x.n ≤ g x.r.toNat by omega) with h | h
    · exact .inl ⟨h1, h⟩
    · exact .inr ⟨h1, h⟩
  · rintro (⟨h1, h2⟩ | ⟨h1, h2⟩)
    · exact ⟨h1, by omega⟩
    · exact ⟨h1, by omega⟩
theorem hasX_congr {f g : Nat → Int} (h : ∀ j, j < 8 → f j = g j) {x : Sx} (hr : 0 ≤ x.r) : hasX f x ↔ hasX g x := by
  rw [hasX_iff, hasX_iff]
  constructor
  · rintro ⟨h1, h2⟩; rw [h _ (by omega)] at h2; exact ⟨h1, h2⟩
  · rintro ⟨h1, h2⟩; rw [← h _ (by omega)] at h2; exact ⟨h1, h2⟩
/-- the value hangs on the dot -/
def Fun (V : Int → Int → List UInt8) (l : List Sx) : Prop := ∀ x ∈ l, x.v = V x.r x.n
theorem fun_key {V : Int → Int → List UInt8} {x y : Sx} (hx : x.v = V x.r x.n) (hy : y.v = V y.r y.n) (h : key x = key y) : x = y := by
  cases x; cases y
  simp only [key, Prod.mk.injEq] at h hx hy
  obtain ⟨rfl, rfl⟩ := h
  rw [hx, hy]
theorem inX_iff (l : List Sx) (r n : Int) : inX l r n = true ↔ ∃ y ∈ l, key y = (r, n) := by
  unfold inX
  rw [List.any_eq_true]
  constructor
  · rintro ⟨y, hy, h⟩; exact ⟨y, hy, eqD_iff.1 h⟩
  · rintro ⟨y, hy, h⟩; exact ⟨y, hy, eqD_iff.2 h⟩
theorem jnL_mem {V : Int → Int → List UInt8} {f g : Nat → Int} {xs ys : List Sx} (hx : Fun V xs) (hy : Fun V ys) (x : Sx) : x ∈ jnL f g xs ys ↔ (x ∈ xs ∧ x ∈ ys) ∨ (x ∈ xs ∧ ¬ hasX g x) ∨ (x ∈ ys ∧ ¬ hasX f x) := by
  unfold jnL jnA jnB hasX
  rw [List.mem_append, List.mem_filter, List.mem_filter]
  have hin : ∀ x ∈ xs, (inX ys x.r x.n = true ↔ x ∈ ys) := fun x hxm => by
    rw [inX_iff]
    constructor
    · rintro ⟨y, hym, h⟩
      rw [← fun_key (hy y hym) (hx x hxm) h]
      exact hym
    · intro h; exact ⟨x, h, rfl⟩
  constructor
  · rintro (⟨h1, h2⟩ | ⟨h1, h2⟩)
    · rw [Bool.or_eq_true, hin x h1] at h2
      rcases h2 with h2 | h2
      · exact .inl ⟨h1, h2⟩
      · exact .inr (.inl ⟨h1, by simpa using h2⟩)
    · exact .inr (.inr ⟨h1, by simpa using h2⟩)
  · rintro (⟨h1, h2⟩ | ⟨h1, h2⟩ | ⟨h1, h2⟩)
    · exact .inl ⟨h1, by rw [Bool.or_eq_true, hin x h1]; exact .inl h2⟩
    · exact .inl ⟨h1, by rw [Bool.or_eq_true]; exact .inr (by simpa using h2)⟩
    · exact .inr ⟨h1, by simpa using h2⟩
theorem jnS_fun {V : Int → Int → List UInt8} {f g : Nat → Int} {xs ys : List Sx} (hx : Fun V xs) (hy : Fun V ys) : Fun V (jnS f g xs ys) := by
  intro x h
  rw [jnS_mem, jnL_mem hx hy] at h
  rcases h with h | h | h
  · exact hx x h.1
  · exact hx x h.1
  · exact hy x h.1
theorem jnS_in {V : Int → Int → List UInt8} {f g : Nat → Int} {xs ys : List Sx} (hx : Fun V xs) (hy : Fun V ys) (x : Sx) : x ∈ jnS f g xs ys ↔ (x ∈ xs ∧ x ∈ ys) ∨ (x ∈ xs ∧ ¬ hasX g x) ∨ (x ∈ ys ∧ ¬ hasX f x) := by
  rw [jnS_mem, jnL_mem hx hy]
theorem mayVB_join {f g : Nat → Int} (h1 : mayVB f = true) (h2 : mayVB g = true) : mayVB (joinV f g) = true := by
  unfold mayVB at *
  rw [Bool.not_eq_true', anyJ_false] at *
  intro j hj
  have a := of_decide_eq_false (h1 j hj)
  have b := of_decide_eq_false (h2 j hj)
  exact decide_eq_false (by unfold joinV; omega)
theorem check_mk {f : Nat → Int} {xs : List Sx} (h1 : Srt xs) (h2 : ∀ x ∈ xs, hasX f x) (h3 : mayVB f = true) (h4 : xs.length ≤ 8) : checkB f xs = true := by
  unfold checkB
  simp only [Bool.and_eq_true, decide_eq_true_eq, List.all_eq_true]
  exact ⟨h3, h4, h2, srt_rises h1⟩
/-- what is joined may be -/
theorem check_join {f g : Nat → Int} {xs ys : List Sx} (h : jnE f g xs ys = 0) : checkB (joinV f g) (jnS f g xs ys) = true := by
  obtain ⟨h1, h2, h8⟩ := jnE_ok h
  obtain ⟨_, c1, m1, _⟩ := check_srt h1
  obtain ⟨_, c2, m2, _⟩ := check_srt h2
  refine check_mk (jnS_srt h1 h2) (fun x hx => ?_) (mayVB_join m1 m2) (by rw [jnS_len]; exact h8)
  rw [jnS_mem] at hx
  rw [hasX_join]
  unfold jnL jnA jnB at hx
  rcases List.mem_append.1 hx with hx | hx
  · exact .inl (c1 x (List.mem_filter.1 hx).1)
  · exact .inr (c2 x (List.mem_filter.1 hx).1)
section ring
variable {V : Int → Int → List UInt8} {f g h : Nat → Int} {xs ys zs : List Sx}
theorem ring_comm (hx : Fun V xs) (hy : Fun V ys) (h1 : checkB f xs = true) (h2 : checkB g ys = true) : jnS f g xs ys = jnS g f ys xs := by
  refine srt_ext (jnS_srt h1 h2) (jnS_srt h2 h1) fun x => ?_
  rw [jnS_in hx hy, jnS_in hy hx]
  constructor
  · rintro (h | h | h)
    · exact .inl ⟨h.2, h.1⟩
    · exact .inr (.inr h)
    · exact .inr (.inl h)
  · rintro (h | h | h)
    · exact .inl ⟨h.2, h.1⟩
    · exact .inr (.inr h)
    · exact .inr (.inl h)
theorem ring_idem (hx : Fun V xs) (h1 : checkB f xs = true) : jnS f f xs xs = xs := by
  refine srt_ext (jnS_srt h1 h1) (check_srt h1).1 fun x => ?_
  rw [jnS_in hx hx]
  constructor
  · rintro (h | h | h) <;> exact h.1
  · intro h; exact .inl ⟨h, h⟩
theorem ring_again (hx : Fun V xs) (hy : Fun V ys) (h0 : jnE f g xs ys = 0) : jnS (joinV f g) g (jnS f g xs ys) ys = jnS f g xs ys := by
  obtain ⟨h1, h2, _⟩ := jnE_ok h0
  have h3 := check_join h0
  have c2 := (check_srt h2).2.1
  refine srt_ext (jnS_srt h3 h2) (jnS_srt h1 h2) fun x => ?_
  rw [jnS_in (jnS_fun hx hy) hy, jnS_in hx hy, hasX_join]
  have hyg : x ∈ ys → hasX g x := fun h => c2 x h
  generalize (x ∈ xs) = a at *
  generalize (x ∈ ys) = b at *
  generalize hasX f x = p at *
  generalize hasX g x = q at *
  by_cases a <;> by_cases b <;> by_cases p <;> by_cases q <;> simp_all
theorem ring_assoc (hx : Fun V xs) (hy : Fun V ys) (hz : Fun V zs) (h0 : jnE f g xs ys = 0) (h1 : jnE g h ys zs = 0) : jnS (joinV f g) h (jnS f g xs ys) zs = jnS f (joinV g h) xs (jnS g h ys zs) := by
  obtain ⟨c1, c2, _⟩ := jnE_ok h0
  obtain ⟨_, c3, _⟩ := jnE_ok h1
  refine srt_ext (jnS_srt (check_join h0) c3) (jnS_srt c1 (check_join h1)) fun x => ?_
  rw [jnS_in (jnS_fun hx hy) hz, jnS_in hx (jnS_fun hy hz), jnS_in hx hy, jnS_in hy hz, hasX_join, hasX_join]
  generalize (x ∈ xs) = a at *
  generalize (x ∈ ys) = b at *
  generalize (x ∈ zs) = c at *
  generalize hasX f x = p at *
  generalize hasX g x = q at *
  generalize hasX h x = r at *
  by_cases a <;> by_cases b <;> by_cases c <;> by_cases p <;> by_cases q <;> by_cases r <;> simp_all
end ring
end Go.RV
