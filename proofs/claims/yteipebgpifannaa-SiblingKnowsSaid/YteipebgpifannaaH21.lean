/- Plain laws of chapter 6: registers that come from writes, drops and joins, and what is known of all that was done. Conditions: none. -/
import Derived.Test.YteipebgpifannaaH18
import Derived.Test.YteipebgpifannaaA14
set_option linter.unusedVariables false
set_option linter.unusedSimpArgs false
namespace Go.RV
open Go Go.Proofs

/-- something that was done: its dot, whether it wrote, what it wrote, the dots that it named -/
structure Ev where
  r : Int
  n : Int
  is : Bool
  v : List UInt8
  over : List (Int × Int)
def evk (e : Ev) : Int × Int := (e.r, e.n)
def evX (e : Ev) : Sx := ⟨e.r, e.n, e.v⟩
structure Ka where
  cs : Nat → Nat → Int
  ls : Nat → List Sx
  ks : Nat → List Ev
def ka0 : Ka := ⟨fun _ => zeroF, fun _ => [], fun _ => []⟩
def hasK (l : List Ev) (r n : Int) : Bool := l.any fun e => eqD e.r e.n r n
def bothK (a b : List Ev) : List Ev := a ++ b.filter fun e => !hasK a e.r e.n
theorem hasK_iff (l : List Ev) (r n : Int) : hasK l r n = true ↔ ∃ e ∈ l, evk e = (r, n) := by
  unfold hasK
  rw [List.any_eq_true]
  constructor
  · rintro ⟨y, hy, h⟩; exact ⟨y, hy, eqD_iff.1 h⟩
  · rintro ⟨y, hy, h⟩; exact ⟨y, hy, eqD_iff.2 h⟩
/-- what holds after at most m acts -/
structure Ki (g : Ka) (m : Nat) : Prop where
  rng : ∀ u e, u < 4 → e ∈ g.ks u → 0 ≤ e.r ∧ e.r < 4 ∧ 1 ≤ e.n ∧ e.n ≤ m
  uni : ∀ u u' e e', u < 4 → u' < 4 → e ∈ g.ks u → e' ∈ g.ks u' → evk e = evk e' → e = e'
  nod : ∀ u, u < 4 → ((g.ks u).map evk).Nodup
  low : ∀ u e, u < 4 → e ∈ g.ks u → e.n ≤ g.cs u e.r.toNat
  top : ∀ u j, u < 4 → j < 8 → g.cs u j = 0 ∨ ∃ e ∈ g.ks u, e.r = (j : Int) ∧ e.n = g.cs u j
  pre : ∀ u u' e, u < 4 → u' < 4 → e ∈ g.ks u' → e.n ≤ g.cs u e.r.toNat → e ∈ g.ks u
  own : ∀ u e, u < 4 → e ∈ g.ks u → e ∈ g.ks e.r.toNat
  clo : ∀ u e d, u < 4 → e ∈ g.ks u → d ∈ e.over → ∃ e' ∈ g.ks u, evk e' = d
  srt : ∀ u, u < 4 → Srt (g.ls u)
  mem : ∀ u x, u < 4 → (x ∈ g.ls u ↔ ∃ e ∈ g.ks u, e.is = true ∧ x = evX e ∧ ∀ e' ∈ g.ks u, evk e ∉ e'.over)
  len : ∀ u, u < 4 → (g.ls u).length ≤ 8
theorem ki0 : Ki ka0 0 where
  rng := fun u e _ h => nomatch h
  uni := fun u u' e e' _ _ h => nomatch h
  nod := fun u _ => List.nodup_nil
  low := fun u e _ h => nomatch h
  top := fun u j _ _ => .inl rfl
  pre := fun u u' e _ _ h => nomatch h
  own := fun u e _ h => nomatch h
  clo := fun u e d _ h => nomatch h
  srt := fun u _ => .nil
  mem := fun u x _ => ⟨fun h => (nomatch h), fun ⟨_, h, _⟩ => (nomatch h)⟩
  len := fun u _ => Nat.zero_le _
theorem Ki.cs0 {g : Ka} {m : Nat} (I : Ki g m) {u j : Nat} (hu : u < 4) (hj : j < 8) : 0 ≤ g.cs u j ∧ g.cs u j ≤ m := by
  rcases I.top u j hu hj with h | ⟨e, he, _, h⟩
  · omega
  · have := I.rng u e hu he
    omega
theorem mostN_max {f : Nat → Int} {m : Int} (h0 : 0 ≤ m) : ∀ k, (∀ j, j < k → f j ≤ m) → mostN f k ≤ m
  | 0, _ => h0
  | k+1, h => by
    have h1 := mostN_max h0 k (fun j hj => h j (by omega))
    have h2 := h k (by omega)
    unfold mostN
    omega
theorem Ki.most {g : Ka} {m : Nat} (I : Ki g m) {u : Nat} (hu : u < 4) : mostN (g.cs u) 8 ≤ m := mostN_max (by omega) 8 fun j hj => (I.cs0 hu hj).2
theorem Ki.hasX {g : Ka} {m : Nat} (I : Ki g m) (hm : m ≤ 65535) {u : Nat} (hu : u < 4) {e : Ev} (he : e ∈ g.ks u) : hasX (g.cs u) (evX e) := by
  rw [hasX_iff]
  have h1 := I.rng u e hu he
  have h2 := I.low u e hu he
  exact ⟨⟨by show e.r < 8; omega, by show 1 ≤ e.n; omega, by show e.n ≤ 65535; omega⟩, h2⟩
theorem Ki.check {g : Ka} {m : Nat} (I : Ki g m) (hm : m ≤ 65535) {u : Nat} (hu : u < 4) : checkB (g.cs u) (g.ls u) = true := by
  refine check_mk (I.srt u hu) (fun x hx => ?_) ?_ (I.len u hu)
  · obtain ⟨e, he, _, rfl, _⟩ := (I.mem u x hu).1 hx
    exact I.hasX hm hu he
  · rw [mayVB_iff]
    intro j hj
    have := I.cs0 hu hj
    omega
theorem Ki.mono {g : Ka} {m m' : Nat} (I : Ki g m) (h : m ≤ m') : Ki g m' :=
  ⟨fun u e hu he => by have := I.rng u e hu he; omega, I.uni, I.nod, I.low, I.top, I.pre, I.own, I.clo, I.srt, I.mem, I.len⟩
/-- a write or a drop -/
def Ka.op (g : Ka) (u : Nat) (is : Bool) (v : List UInt8) (ds : List (Int × Int)) : Ka :=
  ⟨upf g.cs u (upd (g.cs u) u (mostN (g.cs u) 8 + 1)), upf g.ls u ((g.ls u).filter (fun x => !dotIn ds x.r x.n) ++ if is = true then [⟨u, mostN (g.cs u) 8 + 1, v⟩] else []), upf g.ks u (g.ks u ++ [⟨u, mostN (g.cs u) 8 + 1, is, v, ds⟩])⟩
theorem dotIn_iff (ds : List (Int × Int)) (r n : Int) : dotIn ds r n = true ↔ (r, n) ∈ ds := by
  unfold dotIn
  rw [List.any_eq_true]
  constructor
  · rintro ⟨d, hd, h⟩
    have := eqD_iff.1 h
    rw [this]
    exact hd
  · intro h; exact ⟨_, h, eqD_iff.2 rfl⟩
theorem Ki.fresh {g : Ka} {m : Nat} (I : Ki g m) {u u' : Nat} (hu : u < 4) (hu' : u' < 4) {e : Ev} (he : e ∈ g.ks u') (hr : e.r = (u : Int)) : e.n ≤ mostN (g.cs u) 8 := by
  have h1 := I.own u' e hu' he
  rw [hr, Int.toNat_natCast] at h1
  have h2 := I.low u e hu h1
  rw [hr, Int.toNat_natCast] at h2
  have h3 := mostN_leR (g.cs u) 8 u (by omega)
  omega
theorem Ki.op {g : Ka} {m : Nat} (I : Ki g m) (hm : m < 65535) {u : Nat} (hu : u < 4) (is : Bool) (v : List UInt8) (ds : List (Int × Int)) (hds : ∀ d ∈ ds, ∃ x ∈ g.ls u, key x = d) (hl : ((g.op u is v ds).ls u).length ≤ 8) : Ki (g.op u is v ds) (m + 1) := by
  have hM := I.most hu
  have hM0 := mostN_nonneg (g.cs u) 8
  generalize hMe : mostN (g.cs u) 8 + 1 = M at *
  have hnew : ∀ u' e, u' < 4 → e ∈ g.ks u' → e.r = (u : Int) → e.n < M := fun u' e hu' he hr => by
    have := I.fresh hu hu' he hr
    omega
  let E : Ev := ⟨u, M, is, v, ds⟩
  have hk : ∀ u', (g.op u is v ds).ks u' = if u' = u then g.ks u ++ [E] else g.ks u' := fun u' => by
    show upf g.ks u (g.ks u ++ [⟨u, mostN (g.cs u) 8 + 1, is, v, ds⟩]) u' = _
    rw [hMe]
    by_cases e : u' = u
    · subst e; rw [upf_same, if_pos rfl]
    · rw [upf_ne e, if_neg e]
  have hc : ∀ u' j, (g.op u is v ds).cs u' j = if u' = u ∧ j = u then M else g.cs u' j := fun u' j => by
    show upf g.cs u (upd (g.cs u) u (mostN (g.cs u) 8 + 1)) u' j = _
    rw [hMe]
    by_cases e : u' = u
    · subst e
      rw [upf_same]
      unfold upd
      by_cases e2 : j = u' <;> simp [e2]
    · rw [upf_ne e, if_neg (by simp [e])]
  have hL : ∀ u', (g.op u is v ds).ls u' = if u' = u then (g.ls u).filter (fun x => !dotIn ds x.r x.n) ++ (if is = true then [⟨u, M, v⟩] else []) else g.ls u' := fun u' => by
    show upf g.ls u _ u' = _
    rw [hMe]
    by_cases e : u' = u
    · subst e; rw [upf_same, if_pos rfl]
    · rw [upf_ne e, if_neg e]
  have hmk : ∀ u' e, e ∈ (g.op u is v ds).ks u' ↔ e ∈ g.ks u' ∨ (u' = u ∧ e = E) := fun u' e => by
    rw [hk]
    by_cases h : u' = u
    · subst h; simp
    · simp [h]
  have hout : ∀ u' e, u' < 4 → e ∈ g.ks u' → evk e ≠ evk E := fun u' e hu' he h => by
    have h1 : e.r = (u : Int) := congrArg Prod.fst h
    have h2 : e.n = M := congrArg Prod.snd h
    have := hnew u' e hu' he h1
    omega
  have hdsk : ∀ d ∈ ds, ∃ e ∈ g.ks u, evk e = d := fun d hd => by
    obtain ⟨x, hx, rfl⟩ := hds d hd
    obtain ⟨e, he, _, rfl, _⟩ := (I.mem u x hu).1 hx
    exact ⟨e, he, rfl⟩
  have hnE : ∀ u' e', u' < 4 → e' ∈ g.ks u' → evk E ∉ e'.over := fun u' e' hu' he' hin => by
    obtain ⟨e'', he'', hk''⟩ := I.clo u' e' _ hu' he' hin
    exact hout u' e'' hu' he'' hk''
  have hnEE : evk E ∉ ds := fun hin => by
    obtain ⟨e'', he'', hk''⟩ := hdsk _ hin
    exact hout u e'' hu he'' hk''
  refine ⟨?_, ?_, ?_, ?_, ?_, ?_, ?_, ?_, ?_, ?_, ?_⟩
  · intro u' e hu' he
    rcases (hmk u' e).1 he with he | ⟨rfl, rfl⟩
    · have := I.rng u' e hu' he
      omega
    · show 0 ≤ (u' : Int) ∧ (u' : Int) < 4 ∧ 1 ≤ M ∧ M ≤ ((m + 1 : Nat) : Int)
      omega
  · intro u1 u2 e e' h1 h2 he he' hkk
    rcases (hmk u1 e).1 he with hz | ⟨q1, q2⟩
    · rcases (hmk u2 e').1 he' with hz' | ⟨q3, q4⟩
      · exact I.uni u1 u2 e e' h1 h2 hz hz' hkk
      · subst q4; exact absurd hkk (hout u1 e h1 hz)
    · rcases (hmk u2 e').1 he' with hz' | ⟨q3, q4⟩
      · subst q2; exact absurd hkk.symm (hout u2 e' h2 hz')
      · rw [q2, q4]
  · intro u' hu'
    rw [hk]
    split
    · rw [List.map_append, List.nodup_append]
      refine ⟨I.nod u hu, by simp, ?_⟩
      intro a ha b hb hab
      obtain ⟨e, he, rfl⟩ := List.mem_map.1 ha
      rw [List.map_cons, List.map_nil, List.mem_singleton] at hb
      exact hout u e hu he (hab.trans hb)
    · exact I.nod u' hu'
  · intro u' e hu' he
    rw [hc]
    rcases (hmk u' e).1 he with he | ⟨rfl, rfl⟩
    · have h1 := I.low u' e hu' he
      split
      · rename_i hq
        have hr := I.rng u' e hu' he
        have := hnew u' e hu' he (by omega)
        omega
      · exact h1
    · rw [if_pos ⟨rfl, by show (u' : Int).toNat = u'; omega⟩]
      exact Int.le_refl _
  · intro u' j hu' hj
    rw [hc]
    split
    · rename_i hq
      obtain ⟨rfl, rfl⟩ := hq
      exact .inr ⟨E, (hmk _ _).2 (.inr ⟨rfl, rfl⟩), rfl, rfl⟩
    · rcases I.top u' j hu' hj with h | ⟨e, he, h1, h2⟩
      · exact .inl h
      · exact .inr ⟨e, (hmk _ _).2 (.inl he), h1, h2⟩
  · intro u1 u2 e h1 h2 he hle
    rw [hc] at hle
    rcases (hmk u2 e).1 he with he | ⟨rfl, rfl⟩
    · refine (hmk u1 e).2 (.inl ?_)
      split at hle
      · rename_i hq
        have hr := I.rng u2 e h2 he
        have := I.own u2 e h2 he
        rw [hq.2] at this
        rw [hq.1]
        exact this
      · exact I.pre u1 u2 e h1 h2 he hle
    · refine (hmk u1 _).2 ?_
      by_cases e1 : u1 = u2
      · exact .inr ⟨e1, rfl⟩
      · exfalso
        rw [if_neg (fun q => e1 q.1)] at hle
        have hle : M ≤ g.cs u1 (u2 : Int).toNat := hle
        rw [Int.toNat_natCast] at hle
        rcases I.top u1 u2 h1 (by omega) with h | ⟨e, he, hr, hn⟩
        · omega
        · have := hnew u1 e h1 he hr
          omega
  · intro u' e hu' he
    rcases (hmk u' e).1 he with he | ⟨rfl, rfl⟩
    · exact (hmk _ e).2 (.inl (I.own u' e hu' he))
    · exact (hmk _ _).2 (.inr ⟨by show (u' : Int).toNat = u'; omega, rfl⟩)
  · intro u' e d hu' he hd
    rcases (hmk u' e).1 he with he | ⟨rfl, rfl⟩
    · obtain ⟨e', he', h⟩ := I.clo u' e d hu' he hd
      exact ⟨e', (hmk _ _).2 (.inl he'), h⟩
    · obtain ⟨e', he', h⟩ := hdsk d hd
      exact ⟨e', (hmk _ _).2 (.inl he'), h⟩
  · intro u' hu'
    rw [hL]
    split
    · refine List.pairwise_append.2 ⟨(I.srt u hu).sublist List.filter_sublist, by cases is <;> simp, ?_⟩
      intro a ha b hb
      have ha := (List.mem_filter.1 ha).1
      cases is with
      | false => simp at hb
      | true =>
        simp only [if_true, List.mem_singleton] at hb
        subst hb
        obtain ⟨e, he, _, rfl, _⟩ := (I.mem u a hu).1 ha
        rw [less_iff]
        have h1 := I.low u e hu he
        have h2 := I.rng u e hu he
        have h3 := mostN_leR (g.cs u) 8 e.r.toNat (by omega)
        left
        show e.n < M
        omega
    · exact I.srt u' hu'
  · intro u' x hu'
    rw [hL]
    by_cases e : u' = u
    · subst e
      rw [if_pos rfl, List.mem_append, List.mem_filter]
      constructor
      · rintro (⟨hx, hd⟩ | hx)
        · obtain ⟨e, he, h1, rfl, h3⟩ := (I.mem u' x hu').1 hx
          refine ⟨e, (hmk _ _).2 (.inl he), h1, rfl, fun e' he' hin => ?_⟩
          rcases (hmk _ _).1 he' with he' | ⟨_, rfl⟩
          · exact h3 e' he' hin
          · have : dotIn ds e.r e.n = true := (dotIn_iff _ _ _).2 hin
            rw [show dotIn ds (evX e).r (evX e).n = dotIn ds e.r e.n from rfl, this] at hd
            cases hd
        · cases is with
          | false => simp at hx
          | true =>
            simp only [if_true, List.mem_singleton] at hx
            refine ⟨E, (hmk _ _).2 (.inr ⟨rfl, rfl⟩), rfl, hx, fun e' he' hin => ?_⟩
            rcases (hmk _ _).1 he' with he' | ⟨_, rfl⟩
            · exact hnE u' e' hu' he' hin
            · exact hnEE hin
      · rintro ⟨e, he, h1, rfl, h3⟩
        rcases (hmk _ _).1 he with he | ⟨_, rfl⟩
        · left
          refine ⟨(I.mem u' _ hu').2 ⟨e, he, h1, rfl, fun e' he' => h3 e' ((hmk _ _).2 (.inl he'))⟩, ?_⟩
          have := h3 E ((hmk _ _).2 (.inr ⟨rfl, rfl⟩))
          cases hd : dotIn ds (evX e).r (evX e).n with
          | false => rfl
          | true => exact absurd ((dotIn_iff _ _ _).1 hd) this
        · right
          have h1 : is = true := h1
          rw [if_pos h1]
          exact List.mem_singleton.2 rfl
    · rw [if_neg e]
      have : (g.op u is v ds).ks u' = g.ks u' := by rw [hk, if_neg e]
      rw [this]
      exact I.mem u' x hu'
  · intro u' hu'
    by_cases e : u' = u
    · subst e; exact hl
    · rw [hL, if_neg e]
      exact I.len u' hu'
/-- a join -/
def Ka.join (g : Ka) (u f : Nat) : Ka :=
  ⟨upf g.cs u (joinV (g.cs u) (g.cs f)), upf g.ls u (jnS (g.cs u) (g.cs f) (g.ls u) (g.ls f)), upf g.ks u (bothK (g.ks u) (g.ks f))⟩
open Classical in
noncomputable def valK (g : Ka) (r n : Int) : List UInt8 := if h : ∃ e, (∃ u, u < 4 ∧ e ∈ g.ks u) ∧ evk e = (r, n) then (Classical.choose h).v else []
theorem Ki.val {g : Ka} {m : Nat} (I : Ki g m) {u : Nat} (hu : u < 4) {e : Ev} (he : e ∈ g.ks u) : e.v = valK g e.r e.n := by
  have h : ∃ e', (∃ u, u < 4 ∧ e' ∈ g.ks u) ∧ evk e' = (e.r, e.n) := ⟨e, ⟨u, hu, he⟩, rfl⟩
  unfold valK
  rw [dif_pos h]
  obtain ⟨⟨u', hu', he'⟩, hk⟩ := Classical.choose_spec h
  rw [I.uni u' u _ e hu' hu he' he hk]
theorem Ki.fun {g : Ka} {m : Nat} (I : Ki g m) {u : Nat} (hu : u < 4) : Fun (valK g) (g.ls u) := fun x hx => by
  obtain ⟨e, he, _, rfl, _⟩ := (I.mem u x hu).1 hx
  exact I.val hu he
theorem Ki.both {g : Ka} {m : Nat} (I : Ki g m) {u f : Nat} (hu : u < 4) (hf : f < 4) (e : Ev) : e ∈ bothK (g.ks u) (g.ks f) ↔ e ∈ g.ks u ∨ e ∈ g.ks f := by
  unfold bothK
  rw [List.mem_append, List.mem_filter]
  constructor
  · rintro (h | h)
    · exact .inl h
    · exact .inr h.1
  · rintro (h | h)
    · exact .inl h
    · cases hh : hasK (g.ks u) e.r e.n with
      | false => exact .inr ⟨h, rfl⟩
      | true =>
        obtain ⟨e', he', hk⟩ := (hasK_iff _ _ _).1 hh
        rw [I.uni f u e e' hf hu h he' hk.symm]
        exact .inl he'
theorem Ki.join {g : Ka} {m : Nat} (I : Ki g m) (hm : m ≤ 65535) {u f : Nat} (hu : u < 4) (hf : f < 4) (hl : (jnS (g.cs u) (g.cs f) (g.ls u) (g.ls f)).length ≤ 8) : Ki (g.join u f) m := by
  have hb := fun e => I.both hu hf e
  have hc : ∀ u' j, (g.join u f).cs u' j = if u' = u then max (g.cs u j) (g.cs f j) else g.cs u' j := fun u' j => by
    show upf g.cs u (joinV (g.cs u) (g.cs f)) u' j = _
    by_cases e : u' = u
    · subst e; rw [upf_same, if_pos rfl]; rfl
    · rw [upf_ne e, if_neg e]
  have hmk : ∀ u' e, e ∈ (g.join u f).ks u' ↔ e ∈ g.ks u' ∨ (u' = u ∧ e ∈ g.ks f) := fun u' e => by
    show e ∈ upf g.ks u (bothK (g.ks u) (g.ks f)) u' ↔ _
    by_cases h : u' = u
    · subst h; rw [upf_same, hb]; simp
    · rw [upf_ne h]; simp [h]
  have ck1 := I.check hm hu
  have ck2 := I.check hm hf
  refine ⟨?_, ?_, ?_, ?_, ?_, ?_, ?_, ?_, ?_, ?_, ?_⟩
  · intro u' e hu' he
    rcases (hmk u' e).1 he with he | ⟨rfl, hz⟩
    · exact I.rng u' e hu' he
    · exact I.rng f e hf hz
  · intro u1 u2 e e' h1 h2 he he' hkk
    rcases (hmk u1 e).1 he with he | ⟨_, he⟩ <;> rcases (hmk u2 e').1 he' with he' | ⟨_, he'⟩
    · exact I.uni u1 u2 e e' h1 h2 he he' hkk
    · exact I.uni u1 f e e' h1 hf he he' hkk
    · exact I.uni f u2 e e' hf h2 he he' hkk
    · exact I.uni f f e e' hf hf he he' hkk
  · intro u' hu'
    show ((upf g.ks u (bothK (g.ks u) (g.ks f)) u').map evk).Nodup
    by_cases e : u' = u
    · subst e
      rw [upf_same]
      unfold bothK
      rw [List.map_append, List.nodup_append]
      refine ⟨I.nod u' hu, List.Nodup.sublist (List.filter_sublist.map _) (I.nod f hf), ?_⟩
      intro a ha b hb hab
      obtain ⟨x, hx, rfl⟩ := List.mem_map.1 ha
      obtain ⟨y, hy, rfl⟩ := List.mem_map.1 hb
      have h1 : hasK (g.ks u') y.r y.n = true := (hasK_iff _ _ _).2 ⟨x, hx, hab⟩
      have h2 := (List.mem_filter.1 hy).2
      rw [h1] at h2
      cases h2
    · rw [upf_ne e]; exact I.nod u' hu'
  · intro u' e hu' he
    rw [hc]
    rcases (hmk u' e).1 he with he | ⟨rfl, hz⟩
    · have h1 := I.low u' e hu' he
      split
      · rename_i hq
        subst hq
        omega
      · exact h1
    · rw [if_pos rfl]
      have := I.low f e hf hz
      omega
  · intro u' j hu' hj
    rw [hc]
    split
    · rename_i hq
      subst hq
      rcases Int.le_total (g.cs u' j) (g.cs f j) with hle | hle
      · rw [Int.max_eq_right hle]
        rcases I.top f j hf hj with h | ⟨e, he, h1, h2⟩
        · exact .inl h
        · exact .inr ⟨e, (hmk _ _).2 (.inr ⟨rfl, he⟩), h1, h2⟩
      · rw [Int.max_eq_left hle]
        rcases I.top u' j hu' hj with h | ⟨e, he, h1, h2⟩
        · exact .inl h
        · exact .inr ⟨e, (hmk _ _).2 (.inl he), h1, h2⟩
    · rename_i hq
      rcases I.top u' j hu' hj with h | ⟨e, he, h1, h2⟩
      · exact .inl h
      · exact .inr ⟨e, (hmk _ _).2 (.inl he), h1, h2⟩
  · intro u1 u2 e h1 h2 he hle
    have hsrc : ∃ u3, u3 < 4 ∧ e ∈ g.ks u3 := by
      rcases (hmk u2 e).1 he with he | ⟨_, he⟩
      · exact ⟨u2, h2, he⟩
      · exact ⟨f, hf, he⟩
    obtain ⟨u3, h3, he3⟩ := hsrc
    rw [hc] at hle
    refine (hmk u1 e).2 ?_
    split at hle
    · rename_i hq
      subst hq
      by_cases hx : e.n ≤ g.cs u1 e.r.toNat
      · exact .inl (I.pre u1 u3 e h1 h3 he3 hx)
      · exact .inr ⟨rfl, I.pre f u3 e hf h3 he3 (by omega)⟩
    · exact .inl (I.pre u1 u3 e h1 h3 he3 hle)
  · intro u' e hu' he
    refine (hmk _ e).2 (.inl ?_)
    rcases (hmk u' e).1 he with he | ⟨_, he⟩
    · exact I.own u' e hu' he
    · exact I.own f e hf he
  · intro u' e d hu' he hd
    rcases (hmk u' e).1 he with he | ⟨rfl, hz⟩
    · obtain ⟨e', he', h⟩ := I.clo u' e d hu' he hd
      exact ⟨e', (hmk _ _).2 (.inl he'), h⟩
    · obtain ⟨e', he', h⟩ := I.clo f e d hf hz hd
      exact ⟨e', (hmk _ _).2 (.inr ⟨rfl, he'⟩), h⟩
  · intro u' hu'
    show Srt (upf g.ls u _ u')
    by_cases e : u' = u
    · subst e; rw [upf_same]; exact jnS_srt ck1 ck2
    · rw [upf_ne e]; exact I.srt u' hu'
  · intro u' x hu'
    show x ∈ upf g.ls u _ u' ↔ _
    by_cases e : u' = u
    · subst e
      rw [upf_same, jnS_in (I.fun hu) (I.fun hf)]
      -- an event that one side knows and the other one names is known to the other one
      have named : ∀ a b e e', a < 4 → b < 4 → e ∈ g.ks a → e' ∈ g.ks b → evk e ∈ e'.over → e ∈ g.ks b := fun a b e e' ha hb' he he' hin => by
        obtain ⟨e'', he'', hk⟩ := I.clo b e' _ hb' he' hin
        rw [I.uni a b e e'' ha hb' he he'' hk.symm]
        exact he''
      have hasK' : ∀ a b e, a < 4 → b < 4 → e ∈ g.ks a → (Go.RV.hasX (g.cs b) (evX e) ↔ e ∈ g.ks b) := fun a b e ha hb' he => by
        constructor
        · intro h
          exact I.pre b a e hb' ha he ((hasX_iff _ _).1 h).2
        · intro h
          exact I.hasX hm hb' h
      constructor
      · rintro (⟨h1, h2⟩ | ⟨h1, h2⟩ | ⟨h1, h2⟩)
        · obtain ⟨e, he, q1, rfl, q3⟩ := (I.mem u' x hu).1 h1
          obtain ⟨e2, he2, p1, p2, p3⟩ := (I.mem f _ hf).1 h2
          have : e = e2 := I.uni u' f e e2 hu hf he he2 (by
            have a1 := congrArg Sx.r p2
            have a2 := congrArg Sx.n p2
            exact Prod.ext a1 a2)
          subst this
          refine ⟨e, (hmk _ _).2 (.inl he), q1, rfl, fun e' he' => ?_⟩
          rcases (hmk _ _).1 he' with he' | ⟨_, he'⟩
          · exact q3 e' he'
          · exact p3 e' he'
        · obtain ⟨e, he, q1, rfl, q3⟩ := (I.mem u' x hu).1 h1
          refine ⟨e, (hmk _ _).2 (.inl he), q1, rfl, fun e' he' hin => ?_⟩
          rcases (hmk _ _).1 he' with he' | ⟨_, he'⟩
          · exact q3 e' he' hin
          · exact h2 ((hasK' u' f e hu hf he).2 (named u' f e e' hu hf he he' hin))
        · obtain ⟨e, he, q1, rfl, q3⟩ := (I.mem f x hf).1 h1
          refine ⟨e, (hmk _ _).2 (.inr ⟨rfl, he⟩), q1, rfl, fun e' he' hin => ?_⟩
          rcases (hmk _ _).1 he' with he' | ⟨_, he'⟩
          · exact h2 ((hasK' f u' e hf hu he).2 (named f u' e e' hf hu he he' hin))
          · exact q3 e' he' hin
      · rintro ⟨e, he, q1, rfl, q3⟩
        have hA : ∀ e' ∈ g.ks u', evk e ∉ e'.over := fun e' he' => q3 e' ((hmk _ _).2 (.inl he'))
        have hB : ∀ e' ∈ g.ks f, evk e ∉ e'.over := fun e' he' => q3 e' ((hmk _ _).2 (.inr ⟨rfl, he'⟩))
        by_cases h1 : e ∈ g.ks u' <;> by_cases h2 : e ∈ g.ks f
        · exact .inl ⟨(I.mem u' _ hu).2 ⟨e, h1, q1, rfl, hA⟩, (I.mem f _ hf).2 ⟨e, h2, q1, rfl, hB⟩⟩
        · exact .inr (.inl ⟨(I.mem u' _ hu).2 ⟨e, h1, q1, rfl, hA⟩, fun h => h2 ((hasK' u' f e hu hf h1).1 h)⟩)
        · exact .inr (.inr ⟨(I.mem f _ hf).2 ⟨e, h2, q1, rfl, hB⟩, fun h => h1 ((hasK' f u' e hf hu h2).1 h)⟩)
        · rcases (hmk _ _).1 he with h | ⟨_, h⟩
          · exact absurd h h1
          · exact absurd h h2
    · rw [upf_ne e]
      have : (g.join u f).ks u' = g.ks u' := upf_ne e
      rw [this]
      exact I.mem u' x hu'
  · intro u' hu'
    show (upf g.ls u _ u').length ≤ 8
    by_cases e : u' = u
    · subst e; rw [upf_same]; exact hl
    · rw [upf_ne e]; exact I.len u' hu'
/-- one context, one register -/
theorem Ki.same {g : Ka} {m : Nat} (I : Ki g m) {a b : Nat} (ha : a < 4) (hb : b < 4) (h : veq (g.cs a) (g.cs b) = true) : g.ls a = g.ls b := by
  have hv := veq_iff.1 h
  have hk : ∀ x y, x < 4 → y < 4 → (∀ j, j < 8 → g.cs x j = g.cs y j) → ∀ e, e ∈ g.ks x → e ∈ g.ks y := fun x y hx hy he e hm => by
    refine I.pre y x e hy hx hm ?_
    have h1 := I.low x e hx hm
    have h2 := I.rng x e hx hm
    rw [← he _ (by omega)]
    exact h1
  have h1 := hk a b ha hb hv
  have h2 := hk b a hb ha (fun j hj => (hv j hj).symm)
  refine srt_ext (I.srt a ha) (I.srt b hb) fun x => ?_
  rw [I.mem a x ha, I.mem b x hb]
  constructor
  · rintro ⟨e, he, q1, q2, q3⟩; exact ⟨e, h1 e he, q1, q2, fun e' he' => q3 e' (h2 e' he')⟩
  · rintro ⟨e, he, q1, q2, q3⟩; exact ⟨e, h2 e he, q1, q2, fun e' he' => q3 e' (h1 e' he')⟩

/- the register of what is known -/
def kregF (l : List Ev) : Nat → Int := l.foldl (fun f e => if f e.r.toNat < e.n then upd f e.r.toNat e.n else f) zeroF
def namedK (l : List Ev) (r n : Int) : Bool := l.any fun e => dotIn e.over r n
def kregL (all : List Ev) (l : List Ev) : List Sx := ((l.filter fun e => e.is && !namedK all e.r e.n).map evX).foldl putX []
theorem kreg_ge : ∀ (l : List Ev) (f : Nat → Int) (j : Nat), f j ≤ l.foldl (fun f e => if f e.r.toNat < e.n then upd f e.r.toNat e.n else f) f j
  | [], f, j => Int.le_refl _
  | e :: l, f, j => by
    rw [List.foldl_cons]
    refine Int.le_trans ?_ (kreg_ge l _ j)
    split
    · unfold upd
      split
      · rename_i h1 h2
        subst h2
        omega
      · exact Int.le_refl _
    · exact Int.le_refl _
theorem kreg_up : ∀ (l : List Ev) (f : Nat → Int) (e : Ev), e ∈ l → e.n ≤ l.foldl (fun f e => if f e.r.toNat < e.n then upd f e.r.toNat e.n else f) f e.r.toNat
  | [], _, _, h => nomatch h
  | x :: l, f, e, h => by
    rw [List.foldl_cons]
    rcases List.mem_cons.1 h with rfl | h
    · refine Int.le_trans ?_ (kreg_ge l _ _)
      split
      · simp [upd]
      · omega
    · exact kreg_up l _ e h
theorem kreg_is : ∀ (l : List Ev) (f : Nat → Int) (j : Nat), l.foldl (fun f e => if f e.r.toNat < e.n then upd f e.r.toNat e.n else f) f j = f j ∨ ∃ e ∈ l, e.r.toNat = j ∧ l.foldl (fun f e => if f e.r.toNat < e.n then upd f e.r.toNat e.n else f) f j = e.n
  | [], f, j => .inl rfl
  | e :: l, f, j => by
    rw [List.foldl_cons]
    rcases kreg_is l (if f e.r.toNat < e.n then upd f e.r.toNat e.n else f) j with h | ⟨e', he', h1, h2⟩
    · rw [h]
      split
      · unfold upd
        split
        · rename_i h2
          exact .inr ⟨e, by simp, h2.symm, rfl⟩
        · exact .inl rfl
      · exact .inl rfl
    · exact .inr ⟨e', List.mem_cons_of_mem _ he', h1, h2⟩
theorem Ki.regF {g : Ka} {m : Nat} (I : Ki g m) {u : Nat} (hu : u < 4) : ∀ j, j < 8 → kregF (g.ks u) j = g.cs u j := by
  intro j hj
  have h0 := I.cs0 hu hj
  have ge : g.cs u j ≤ kregF (g.ks u) j := by
    rcases I.top u j hu hj with h | ⟨e, he, h1, h2⟩
    · rw [h]; exact kreg_ge (g.ks u) zeroF j
    · have := kreg_up (g.ks u) zeroF e he
      rw [h1, Int.toNat_natCast] at this
      rw [← h2]
      exact this
  have le : kregF (g.ks u) j ≤ g.cs u j := by
    rcases kreg_is (g.ks u) zeroF j with h | ⟨e, he, h1, h2⟩
    · show kregF _ _ ≤ _
      unfold kregF
      rw [h]
      exact h0.1
    · unfold kregF
      rw [h2, ← h1]
      exact I.low u e hu he
  omega
theorem Ki.regL {g : Ka} {m : Nat} (I : Ki g m) {u : Nat} (hu : u < 4) : kregL (g.ks u) (g.ks u) = g.ls u := by
  have hn : ((((g.ks u).filter fun e => e.is && !namedK (g.ks u) e.r e.n).map evX).map key).Nodup := by
    rw [List.map_map]
    exact List.Nodup.sublist (List.filter_sublist.map _) (I.nod u hu)
  refine srt_ext (foldPut_srt _ [] .nil (by simpa using hn)) (I.srt u hu) fun x => ?_
  rw [I.mem u x hu]
  have hp : x ∈ kregL (g.ks u) (g.ks u) ↔ x ∈ ((g.ks u).filter fun e => e.is && !namedK (g.ks u) e.r e.n).map evX := by
    have := foldPut_perm (((g.ks u).filter fun e => e.is && !namedK (g.ks u) e.r e.n).map evX) []
    exact this.mem_iff
  show x ∈ kregL (g.ks u) (g.ks u) ↔ _
  rw [hp, List.mem_map]
  have hnm : ∀ r n, namedK (g.ks u) r n = false ↔ ∀ e' ∈ g.ks u, (r, n) ∉ e'.over := fun r n => by
    unfold namedK
    rw [List.any_eq_false]
    constructor
    · intro h e' he' hin; exact h e' he' ((dotIn_iff _ _ _).2 hin)
    · intro h e' he' hin; exact h e' he' ((dotIn_iff _ _ _).1 hin)
  constructor
  · rintro ⟨e, he, rfl⟩
    obtain ⟨he, hq⟩ := List.mem_filter.1 he
    rw [Bool.and_eq_true, Bool.not_eq_true', hnm] at hq
    exact ⟨e, he, hq.1, rfl, hq.2⟩
  · rintro ⟨e, he, q1, rfl, q3⟩
    refine ⟨e, List.mem_filter.2 ⟨he, ?_⟩, rfl⟩
    rw [Bool.and_eq_true, Bool.not_eq_true', hnm]
    exact ⟨q1, q3⟩
end Go.RV
