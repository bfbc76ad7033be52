/- Plain laws of chapter 5: who makes dots, and who learns of them. Conditions: none. -/
import Derived.Test.YteipebgpifannaaA4
set_option linter.unusedVariables false
set_option linter.unusedSimpArgs false
namespace Go.RV
open Go Go.Proofs

theorem hasB_joinR (f g : Nat → Int) (r n : Int) : hasB (joinV f g) r n = (hasB f r n || hasB g r n) := by
  unfold hasB
  rw [← Bool.and_or_distrib_left]
  congr 1
  rw [Bool.eq_iff_iff]
  unfold joinV
  simp only [decide_eq_true_eq, Bool.or_eq_true]
  omega
theorem mostN_leR (f : Nat → Int) : ∀ k j, j < k → f j ≤ mostN f k
  | 0, _, h => by omega
  | k+1, j, h => by
    unfold mostN
    by_cases e : j = k
    · subst e; omega
    · have := mostN_leR f k j (by omega)
      omega
structure Md where
  r : Int
  n : Int
  known : Nat → Int
structure Gs where
  vs : Nat → Nat → Int
  hs : Nat → Nat → Bool
  ds : List Md
def upf {α : Type} (vs : Nat → α) (u : Nat) (f : α) : Nat → α := fun j => if j = u then f else vs j
def Gs.join (g : Gs) (u f : Nat) : Gs := ⟨upf g.vs u (joinV (g.vs u) (g.vs f)), upf g.hs u (fun k => g.hs u k || g.hs f k), g.ds⟩
def Gs.make (g : Gs) (u : Nat) : Gs := ⟨upf g.vs u (upd (g.vs u) u (mostN (g.vs u) 8 + 1)), upf g.hs u (fun k => if k = g.ds.length then true else g.hs u k), g.ds ++ [⟨u, mostN (g.vs u) 8 + 1, g.vs u⟩]⟩
def g0 : Gs := ⟨fun _ => zeroF, fun _ _ => false, []⟩

/-- what holds at each time: of the dots made, of what is known of them -/
structure Gi (g : Gs) : Prop where
  low : ∀ u j, u < 5 → j < 8 → 0 ≤ g.vs u j ∧ g.vs u j ≤ g.ds.length
  own : ∀ u j, u < 5 → j < 5 → g.vs u j ≤ g.vs j j
  far : ∀ u j, u < 5 → 5 ≤ j → j < 8 → g.vs u j = 0
  dot : ∀ k (h : k < g.ds.length), 0 ≤ g.ds[k].r ∧ g.ds[k].r < 5 ∧ 1 ≤ g.ds[k].n ∧ g.ds[k].n ≤ g.vs g.ds[k].r.toNat g.ds[k].r.toNat
  unl : ∀ k j (h : k < g.ds.length) (h' : j < g.ds.length), k ≠ j → g.ds[k].r = g.ds[j].r → g.ds[k].n ≠ g.ds[j].n
  has : ∀ u k, u < 5 → (h : k < g.ds.length) → hasB (g.vs u) g.ds[k].r g.ds[k].n = g.hs u k
  not : ∀ u k, u < 5 → g.ds.length ≤ k → g.hs u k = false
  kno : ∀ k j (h : k < g.ds.length), j < 5 → g.ds[k].known j ≤ g.vs j j
  kfa : ∀ k j (h : k < g.ds.length), 5 ≤ j → j < 8 → g.ds[k].known j = 0
  knw : ∀ i k (h : i < g.ds.length) (h' : k < g.ds.length), hasB g.ds[i].known g.ds[k].r g.ds[k].n = true → g.ds[k].n < g.ds[i].n ∧ k < i

theorem hasB_iff {f : Nat → Int} {r n : Int} : hasB f r n = true ↔ r < 8 ∧ 1 ≤ n ∧ n ≤ 65535 ∧ n ≤ f r.toNat := by
  unfold hasB mayDotB
  simp only [Bool.and_eq_true, decide_eq_true_eq]
  omega
theorem hasB_no {f : Nat → Int} {r n : Int} (h : f r.toNat < n) : hasB f r n = false := by
  cases hb : hasB f r n with
  | false => rfl
  | true => have := hasB_iff.1 hb; omega
theorem gi0 : Gi g0 where
  low := fun u j _ _ => ⟨Int.le_refl _, Int.le_refl _⟩
  own := fun u j _ _ => Int.le_refl _
  far := fun u j _ _ _ => rfl
  dot := fun k h => by cases h
  unl := fun k j h => by cases h
  has := fun u k _ h => by cases h
  not := fun u k _ _ => rfl
  kno := fun k j h => by cases h
  kfa := fun k j h => by cases h
  knw := fun i k h => by cases h
theorem Gi.mlen {g : Gs} (I : Gi g) {u : Nat} (hu : u < 5) : mostN (g.vs u) 8 ≤ g.ds.length := by
  have : ∀ k, k ≤ 8 → mostN (g.vs u) k ≤ g.ds.length := by
    intro k
    induction k with
    | zero => intro _; show (0 : Int) ≤ _; omega
    | succ k ih =>
      intro hk
      have h1 := ih (by omega)
      have h2 := (I.low u k hu (by omega)).2
      unfold mostN
      omega
  exact this 8 (by decide)
theorem upf_same {α : Type} (vs : Nat → α) (u : Nat) (f : α) : upf vs u f u = f := by simp [upf]
theorem upf_ne {α : Type} {vs : Nat → α} {u j : Nat} {f : α} (h : j ≠ u) : upf vs u f j = vs j := by simp [upf, h]
theorem Gi.join {g : Gs} (I : Gi g) {w f : Nat} (hw : w < 5) (hf : f < 5) : Gi (g.join w f) := by
  have own0 : ∀ j, j < 5 → (g.join w f).vs j j = g.vs j j := by
    intro j hj
    show upf g.vs w (joinV (g.vs w) (g.vs f)) j j = _
    by_cases e : j = w
    · subst e
      rw [upf_same]
      have := I.own f j hf hj
      unfold joinV
      omega
    · rw [upf_ne e]
  have vsj : ∀ u j, (g.join w f).vs u j = if u = w then max (g.vs w j) (g.vs f j) else g.vs u j := by
    intro u j
    show upf g.vs w (joinV (g.vs w) (g.vs f)) u j = _
    by_cases e : u = w
    · subst e; rw [upf_same, if_pos rfl]; rfl
    · rw [upf_ne e, if_neg e]
  refine ⟨?_, ?_, ?_, ?_, I.unl, ?_, ?_, ?_, I.kfa, I.knw⟩
  · intro u j hu hj
    rw [vsj]
    have h1 := I.low w j hw hj
    have h2 := I.low f j hf hj
    have h3 := I.low u j hu hj
    show _ ∧ _ ≤ (g.ds.length : Int)
    split <;> omega
  · intro u j hu hj
    rw [own0 j hj, vsj]
    have h1 := I.own w j hw hj
    have h2 := I.own f j hf hj
    have h3 := I.own u j hu hj
    split <;> omega
  · intro u j hu h5 h8
    rw [vsj]
    have h1 := I.far w j hw h5 h8
    have h2 := I.far f j hf h5 h8
    have h3 := I.far u j hu h5 h8
    split <;> omega
  · intro k h
    have hd := I.dot k h
    have he := own0 (g.ds[k].r.toNat) (by omega)
    show _ ∧ _ ∧ _ ∧ g.ds[k].n ≤ (g.join w f).vs g.ds[k].r.toNat g.ds[k].r.toNat
    rw [he]
    exact hd
  · intro u k hu h
    have h1 := I.has w k hw h
    have h2 := I.has f k hf h
    have h3 := I.has u k hu h
    show hasB (upf g.vs w (joinV (g.vs w) (g.vs f)) u) g.ds[k].r g.ds[k].n = upf g.hs w (fun k => g.hs w k || g.hs f k) u k
    by_cases e : u = w
    · subst e
      rw [upf_same, upf_same, hasB_joinR, h1, h2]
    · rw [upf_ne e, upf_ne e, h3]
  · intro u k hu h
    have h1 := I.not w k hw h
    have h2 := I.not f k hf h
    have h3 := I.not u k hu h
    show upf g.hs w (fun k => g.hs w k || g.hs f k) u k = false
    by_cases e : u = w
    · subst e; rw [upf_same, h1, h2]; rfl
    · rw [upf_ne e, h3]
  · intro k j h hj
    rw [own0 j hj]
    exact I.kno k j h hj
theorem Gi.make {g : Gs} (I : Gi g) {w : Nat} (hw : w < 5) (hl : g.ds.length < 65535) : Gi (g.make w) := by
  have hm := I.mlen hw
  have hm0 := mostN_nonneg (g.vs w) 8
  have hle := mostN_leR (g.vs w) 8
  generalize hM : mostN (g.vs w) 8 = M at *
  have hds : (g.make w).ds = g.ds ++ [⟨w, M + 1, g.vs w⟩] := by show g.ds ++ [⟨_, mostN (g.vs w) 8 + 1, _⟩] = _; rw [hM]
  have hlen : (g.make w).ds.length = g.ds.length + 1 := by rw [hds]; simp
  have vsj : ∀ u j, (g.make w).vs u j = if u = w ∧ j = w then M + 1 else g.vs u j := by
    intro u j
    show upf g.vs w (upd (g.vs w) w (mostN (g.vs w) 8 + 1)) u j = _
    rw [hM]
    by_cases e : u = w
    · subst e; rw [upf_same]; unfold upd; by_cases e2 : j = u <;> simp [e2]
    · rw [upf_ne e, if_neg (by omega)]
  have hsj : ∀ u k, (g.make w).hs u k = if u = w ∧ k = g.ds.length then true else g.hs u k := by
    intro u k
    show upf g.hs w (fun k => if k = g.ds.length then true else g.hs w k) u k = _
    by_cases e : u = w
    · subst e; rw [upf_same]; by_cases e2 : k = g.ds.length <;> simp [e2]
    · rw [upf_ne e, if_neg (by omega)]
  have old : ∀ k (h : k < g.ds.length) (h2 : k < (g.make w).ds.length), (g.make w).ds[k] = g.ds[k] := by
    intro k h h2
    have : ∀ (l : List Md) (h3 : k < l.length), l = g.ds ++ [⟨w, M + 1, g.vs w⟩] → l[k] = g.ds[k] := by
      intro l h3 e
      subst e
      exact List.getElem_append_left h
    exact this _ h2 hds
  have new : ∀ (h2 : g.ds.length < (g.make w).ds.length), (g.make w).ds[g.ds.length] = ⟨w, M + 1, g.vs w⟩ := by
    intro h2
    have : ∀ (l : List Md) (h3 : g.ds.length < l.length), l = g.ds ++ [⟨w, M + 1, g.vs w⟩] → l[g.ds.length] = ⟨w, M + 1, g.vs w⟩ := by
      intro l h3 e
      subst e
      simp
    exact this _ h2 hds
  have splt : ∀ k (h : k < (g.make w).ds.length), k < g.ds.length ∨ k = g.ds.length := fun k h => by omega
  refine ⟨?_, ?_, ?_, ?_, ?_, ?_, ?_, ?_, ?_, ?_⟩
  · intro u j hu hj
    rw [vsj, hlen]
    have h3 := I.low u j hu hj
    split <;> omega
  · intro u j hu hj
    rw [vsj, vsj]
    have h3 := I.own u j hu hj
    have h4 := hle w (by omega)
    split <;> split <;> rename_i a b <;> first | omega | (have e : j = w := by omega); subst e; omega
  · intro u j hu h5 h8
    rw [vsj, if_neg (by omega)]
    exact I.far u j hu h5 h8
  · intro k h
    rcases splt k h with h1 | h1
    · rw [old k h1 h, vsj]
      have hd := I.dot k h1
      have h4 := hle w (by omega)
      refine ⟨hd.1, hd.2.1, hd.2.2.1, ?_⟩
      split
      · rename_i a
        have : g.ds[k].r.toNat = w := a.1
        have h5 := hd.2.2.2
        rw [this] at h5
        omega
      · exact hd.2.2.2
    · subst h1
      rw [new h]
      refine ⟨by show (0 : Int) ≤ (w : Int); omega, by show (w : Int) < 5; omega, by show 1 ≤ M + 1; omega, ?_⟩
      show M + 1 ≤ (g.make w).vs (w : Int).toNat (w : Int).toNat
      rw [Int.toNat_natCast, vsj, if_pos ⟨rfl, rfl⟩]
      exact Int.le_refl _
  · intro k j h h' hkj
    have h4 := hle w (by omega)
    rcases splt k h with h1 | h1 <;> rcases splt j h' with h2 | h2
    · rw [old k h1 h, old j h2 h']
      exact I.unl k j h1 h2 hkj
    · subst h2
      rw [old k h1 h, new h']
      show g.ds[k].r = (w : Int) → g.ds[k].n ≠ M + 1
      intro e
      have h5 := (I.dot k h1).2.2.2
      rw [e, Int.toNat_natCast] at h5
      omega
    · subst h1
      rw [old j h2 h', new h]
      show (w : Int) = g.ds[j].r → M + 1 ≠ g.ds[j].n
      intro e
      have h5 := (I.dot j h2).2.2.2
      rw [← e, Int.toNat_natCast] at h5
      omega
    · omega
  · intro u k hu h
    rw [hsj]
    have h4 := hle w (by omega)
    rcases splt k h with h1 | h1
    · rw [old k h1 h, if_neg (by omega), ← I.has u k hu h1]
      rw [Bool.eq_iff_iff, hasB_iff, hasB_iff, vsj]
      split
      · rename_i a
        have h5 := (I.dot k h1).2.2.2
        obtain ⟨a1, a2⟩ := a
        subst a1
        rw [a2] at h5 ⊢
        omega
      · exact Iff.rfl
    · subst h1
      rw [new h]
      show hasB ((g.make w).vs u) (w : Int) (M + 1) = _
      by_cases e : u = w
      · subst e
        rw [if_pos ⟨rfl, rfl⟩, hasB_iff, Int.toNat_natCast, vsj, if_pos ⟨rfl, rfl⟩]
        omega
      · rw [if_neg (by omega), I.not u _ hu (Nat.le_refl _)]
        apply hasB_no
        rw [Int.toNat_natCast, vsj, if_neg (by omega)]
        have := I.own u w hu hw
        omega
  · intro u k hu h
    rw [hlen] at h
    rw [hsj, if_neg (by omega)]
    exact I.not u k hu (by omega)
  · intro k j h hj
    have h4 := hle w (by omega)
    have h6 : g.vs j j ≤ (g.make w).vs j j := by
      rw [vsj]
      split
      · rename_i a
        rw [a.1]
        omega
      · exact Int.le_refl _
    rcases splt k h with h1 | h1
    · rw [old k h1 h]
      have := I.kno k j h1 hj
      omega
    · subst h1
      rw [new h]
      show g.vs w j ≤ _
      have := I.own w j hw hj
      omega
  · intro k j h h5 h8
    rcases splt k h with h1 | h1
    · rw [old k h1 h]
      exact I.kfa k j h1 h5 h8
    · subst h1
      rw [new h]
      exact I.far w j hw h5 h8
  · intro i k h h' hb
    have h4 := hle w (by omega)
    rcases splt i h with h1 | h1 <;> rcases splt k h' with h2 | h2
    · rw [old i h1 h, old k h2 h'] at hb ⊢
      exact I.knw i k h1 h2 hb
    · subst h2
      rw [old i h1 h, new h'] at hb
      have h5 := (hasB_iff.1 hb).2.2.2
      have h6 := I.kno i w h1 hw
      have h7 : (M + 1 : Int) ≤ g.ds[i].known (w : Int).toNat := h5
      rw [Int.toNat_natCast] at h7
      omega
    · subst h1
      rw [old k h2 h', new h] at hb ⊢
      have h5 := (hasB_iff.1 hb).2.2.2
      have hd := I.dot k h2
      have h6 := hle g.ds[k].r.toNat (by omega)
      have h7 : g.ds[k].n ≤ g.vs w g.ds[k].r.toNat := h5
      exact ⟨by show g.ds[k].n < M + 1; omega, h2⟩
    · subst h1
      subst h2
      rw [new h] at hb
      have h7 : (M + 1 : Int) ≤ g.vs w (w : Int).toNat := (hasB_iff.1 hb).2.2.2
      rw [Int.toNat_natCast] at h7
      omega
end Go.RV
