/- A region whose order the model leaves open: what only reads is taken first; the rest in every order. Conditions: none. -/
import Derived.Test.YtedoalnjdanebaaRvH
import Derived.OrdersIn
import Derived.OrdersHeld
set_option linter.unusedVariables false
set_option linter.unusedSimpArgs false
namespace Go.RV
open Go

def noDS (ops : Array Oper) : Bool := ops.all fun o => match o.op with | .select .. => false | .defer _ => false | _ => true
def waitsB (o : Oper) (i : Nat) : Bool := o.after.any fun e => Region.binds .any e && e.on == i
def apartD (ops : Array Oper) : Bool :=
  (List.range ops.size).all fun i => (List.range ops.size).all fun j => i == j ||
    (match ops[i]?, ops[j]? with
     | some oi, some oj => oi.apart ops oj || waitsB oj i || waitsB oi j
     | _, _ => false)
def cov (fr : Nat → Bool) (ops : Array Oper) (j : Nat) : Prop := ∀ oj, ops[j]? = some oj → ∀ k, k < ops.size → k ≠ j → fr k = false → waitsB oj k = true

section
variable {P : Program} {ops : Array Oper} {Q : Exit → Act → World → Prop} {S : World → Prop} {r : Option Nat} {n : Nat} {fre ld : Nat → Bool}

/-- in every world that meets S the operation leaves v, and does nothing else -/
def YS (P : Program) (ops : Array Oper) (S : World → Prop) (o : Oper) (v : Value) (a : Act) : Prop :=
  (Region.wanted o (yielded ops a.tmps) = true ∧ ∀ w, S w → (execOp a.eval o).run P w = .ok (.value v) w) ∨
  (Region.wanted o (yielded ops a.tmps) = false ∧ v = undef)

theorem YS.of_same {o : Oper} {v : Value} {a a' : Act} (hy : YS P ops S o v a) (he : execOp a'.eval o = execOp a.eval o)
    (hw : Region.wanted o (yielded ops a'.tmps) = Region.wanted o (yielded ops a.tmps)) : YS P ops S o v a' := by
  unfold YS at *
  rw [he, hw]
  exact hy

theorem noDS_spec (h : noDS ops = true) {j : Nat} {o : Oper} (ho : ops[j]? = some o) : (∀ cs b, o.op ≠ .select cs b) ∧ ∀ c, o.op ≠ .defer c := by
  unfold noDS at h
  rw [Array.all_eq_true] at h
  obtain ⟨hlt, hj⟩ := Array.getElem?_eq_some_iff.1 ho
  have h1 := h j hlt
  rw [hj] at h1
  constructor
  · intro cs b e; rw [e] at h1; cases h1
  · intro c e; rw [e] at h1; cases h1

theorem YS.wpOpIn {i : Nat} {o : Oper} {v : Value} {a : Act} (hn : noDS ops = true) (hi : ops[i]? = some o) (hy : YS P ops S o v a)
    {K : Act → World → Prop} {w : World} (hS : S w) (h : K (a.put o.dst v) w) : wpOpIn (FR r) n P ops Q i K a w := by
  unfold Go.wpOpIn
  simp only [hi]
  rcases hy with ⟨hw, hv⟩ | ⟨hw, rfl⟩
  · simp only [hw, if_true, Oper.wpIn]
    refine ⟨fun _ _ => trivial, ?_⟩
    rw [Oper.semAt_eq _ _ _ (noDS_spec hn hi).2, hv w hS]
    exact h
  · simp only [hw, Bool.false_eq_true, if_false]
    exact ⟨fun _ _ => trivial, h⟩

theorem wpOpIn_putS {i j : Nat} {oi oj : Oper} {v : Value} (hn : noDS ops = true) (hi : ops[i]? = some oi) (hj : ops[j]? = some oj) (hap : oi.apart ops oj = true)
    (hQ : ∀ c a w, Q (.panic c) (a.put oi.dst v) w → Q (.panic c) a w) {K : Act → World → Prop} {a : Act} {w : World}
    (hy : YS P ops S oi v a) (h : wpOpIn (FR r) n P ops Q j K (a.put oi.dst v) w) :
    wpOpIn (FR r) n P ops Q j (fun a' w' => YS P ops S oi v a' ∧ K (a'.put oi.dst v) w') a w := by
  obtain ⟨h1, h2, h3⟩ := Oper.apart_spec hap
  obtain ⟨hsi, _⟩ := noDS_spec hn hi
  obtain ⟨hsj, hdj⟩ := noDS_spec hn hj
  have keep : ∀ (a : Act), YS P ops S oi v a → ∀ u, YS P ops S oi v (a.put oj.dst u) := fun a hy u =>
    hy.of_same (execOp_put oi hsi a oj.dst u h3) (wanted_put oi a oj.dst u h3)
  have keepD : ∀ d, YS P ops S oi v { a with defers := d :: a.defers } := fun d => hy.of_same rfl rfl
  unfold wpOpIn at *
  simp only [hj] at *
  rw [wanted_put oj a oi.dst v h1] at h
  split
  · rename_i hw
    simp only [hw, if_true] at h
    unfold Oper.wpIn at *
    refine ⟨fun _ _ => trivial, ?_⟩
    have h := h.2
    rw [Oper.semAt_eq _ _ _ hdj, execOp_put oj hsj a oi.dst v h1] at h
    rw [Oper.semAt_eq _ _ _ hdj]
    generalize (execOp a.eval oj).run P w = r at *
    cases r with
    | ok x w' =>
      cases x <;> simp only [Oper.uponIn] at h ⊢
      case value u => exact ⟨keep a hy u, by rw [← Act.put_comm a v u h2]; exact h⟩
      case skip => exact ⟨keep a hy _, by rw [← Act.put_comm a v undef h2]; exact h⟩
      case defer d =>
        refine ⟨keep _ (keepD d) _, ?_⟩
        rw [← Act.put_comm _ v undef h2, ← Act.put_defers]
        exact h
      case enter f args =>
        refine ⟨h.1, CallsIn.mono h.2 fun e w'' he => ?_⟩
        cases e with
        | returned u => exact ⟨keep a hy u, by rw [← Act.put_comm a v u h2]; exact he⟩
        | panicked c => exact hQ _ _ _ he
        | outgrown => exact he
      case row row args => exact ⟨h.1, RowsIn.mono h.2 fun u w'' he => ⟨keep a hy u, by rw [← Act.put_comm a v u h2]; exact he⟩⟩
      case round l f tmps asg body =>
        refine ⟨h.1, RoundIn.mono h.2 fun e w'' he => ?_⟩
        cases e with
        | returned u => exact ⟨keep a hy u, by rw [← Act.put_comm a v u h2]; exact he⟩
        | panicked c => exact hQ _ _ _ he
        | outgrown => exact he
    | halt x w' =>
      cases x <;> simp only [Oper.uponIn] at h ⊢
      case panic u => exact hQ _ _ _ h
  · rename_i hw
    simp only [hw] at h
    exact ⟨fun _ _ => trivial, keep a hy _, by rw [← Act.put_comm a v undef h2]; exact h.2⟩

/-- j stands behind k -/
inductive TW (ops : Array Oper) (j : Nat) : Nat → Prop
  | one {k : Nat} {o : Oper} : ops[j]? = some o → waitsB o k = true → TW ops j k
  | more {m k : Nat} {o : Oper} : TW ops j m → ops[m]? = some o → waitsB o k = true → TW ops j k
/-- every load that was taken stands ahead of j, in every order -/
def bar (ld : Nat → Bool) (ops : Array Oper) (listed : Array Bool) (j : Nat) : Prop := ∀ k, listed.getD k false = true → ld k = true → k ≠ j → TW ops j k
def Closed (ops : Array Oper) (listed : Array Bool) : Prop := ∀ m o, listed.getD m false = true → ops[m]? = some o → ∀ k, waitsB o k = true → listed.getD k false = true

def AnyS (fre ld : Nat → Bool) (P : Program) (r : Option Nat) (n : Nat) (ops : Array Oper) (Q : Exit → Act → World → Prop) : (World → Prop) → Nat → Array Bool → Act → World → Prop
  | _, 0, listed, a, w => Region.ready .any ops listed = [] ∧ Q .normal a w
  | S, fuel + 1, listed, a, w =>
    (Region.ready .any ops listed = [] → Q .normal a w) ∧
    ∀ i ∈ Region.ready .any ops listed, wpOpIn (FR r) n P ops Q i (fun a' w' => ((cov fre ops i ∨ S w' ∨ w' = w) ∧ AnyS fre ld P r n ops Q S fuel (listed.setIfInBounds i true) a' w') ∨
      (bar ld ops listed i ∧ ∃ S', AnyS fre ld P r n ops Q S' fuel (listed.setIfInBounds i true) a' w')) a w

theorem AnyS.any : ∀ (S : World → Prop) (fuel : Nat) (listed : Array Bool) (a : Act) (w : World), AnyS fre ld P r n ops Q S fuel listed a w → wpAnyIn (FR r) n P .any ops Q fuel listed a w
  | _, 0, _, _, _, h => h
  | S, fuel + 1, _, _, _, h => ⟨h.1, fun i hi => wpOpIn_mono (fun a' w' h' => by
    rcases h' with h' | ⟨_, S', h'⟩
    · exact AnyS.any S fuel _ a' w' h'.2
    · exact AnyS.any S' fuel _ a' w' h') (h.2 i hi)⟩

theorem apartD_spec (h : apartD ops = true) {i j : Nat} {oi oj : Oper} (hi : ops[i]? = some oi) (hj : ops[j]? = some oj) (hne : i ≠ j) : oi.apart ops oj = true ∨ waitsB oj i = true ∨ waitsB oi j = true := by
  unfold apartD at h
  have hi' : i < ops.size := (Array.getElem?_eq_some_iff.1 hi).1
  have hj' : j < ops.size := (Array.getElem?_eq_some_iff.1 hj).1
  rw [List.all_eq_true] at h
  have h1 := h i (by simpa using hi')
  rw [List.all_eq_true] at h1
  have h2 := h1 j (by simpa using hj')
  rw [hi, hj] at h2
  simp only [Bool.or_eq_true, beq_iff_eq, hne, false_or] at h2
  rcases h2 with (h2 | h2) | h2
  · exact .inl h2
  · exact .inr (.inl h2)
  · exact .inr (.inr h2)
theorem waits_listed {j i : Nat} {oj : Oper} {listed : Array Bool} (hj : j ∈ Region.ready .any ops listed) (hoj : ops[j]? = some oj) (h : waitsB oj i = true) : listed.getD i false = true := by
  obtain ⟨_, o, ho, hall⟩ := mem_ready.1 hj
  rw [hoj] at ho
  cases ho
  unfold waitsB at h
  rw [Array.any_eq_true] at h
  obtain ⟨k, hk, he⟩ := h
  simp only [Bool.and_eq_true, beq_iff_eq] at he
  rw [← he.2]
  exact hall _ (Array.getElem_mem hk) he.1
theorem unlisted {i : Nat} {listed : Array Bool} (hi : i ∈ Region.ready .any ops listed) : listed.getD i true = false := (mem_ready.1 hi).1
theorem not_both {i : Nat} {listed : Array Bool} (h1 : listed.getD i false = true) (h2 : listed.getD i true = false) : False := by
  rcases Nat.lt_or_ge i listed.size with h | h
  · simp [h] at h1 h2
    rw [h1] at h2
    cases h2
  · simp [Array.getElem?_eq_none h] at h1

theorem getD_put {listed : Array Bool} {i k : Nat} (h : listed.getD k false = true) : (listed.setIfInBounds i true).getD k false = true := by
  have hk : k < listed.size := by
    rcases Nat.lt_or_ge k listed.size with hk | hk
    · exact hk
    · simp [Array.getElem?_eq_none hk] at h
  by_cases e : i = k
  · subst e; simp [hk]
  · simpa [Array.getElem?_setIfInBounds_ne e] using h
theorem getD_own {listed : Array Bool} {i : Nat} (h : listed.getD i true = false) : (listed.setIfInBounds i true).getD i false = true := by
  have hk : i < listed.size := by
    rcases Nat.lt_or_ge i listed.size with hk | hk
    · exact hk
    · simp [Array.getElem?_eq_none hk] at h
  simp [hk]
theorem getD_back {listed : Array Bool} {i k : Nat} (hne : i ≠ k) (h : (listed.setIfInBounds i true).getD k false = true) : listed.getD k false = true := by
  simpa [Array.getElem?_setIfInBounds_ne hne] using h
theorem Closed.add {i : Nat} {listed : Array Bool} (h : Closed ops listed) (hi : i ∈ Region.ready .any ops listed) : Closed ops (listed.setIfInBounds i true) := by
  intro m o hm ho k hk
  by_cases e : i = m
  · subst e
    exact getD_put (waits_listed hi ho hk)
  · exact getD_put (h m o (getD_back e hm) ho k hk)
theorem TW.listed {j k : Nat} {listed : Array Bool} (hc : Closed ops listed) (hj : j ∈ Region.ready .any ops listed) (h : TW ops j k) : listed.getD k false = true := by
  induction h with
  | one ho hw => exact waits_listed hj ho hw
  | more _ ho hw ih => exact hc _ _ ih ho _ hw

/-- What only reads may be taken first. -/
theorem AnyS.first {i : Nat} {oi : Oper} {v : Value} (hn : noDS ops = true) (hA : apartD ops = true) (hi : ops[i]? = some oi) (hfi : fre i = false) (hld : ld i = true) (hQ : ∀ c a w, Q (.panic c) (a.put oi.dst v) w → Q (.panic c) a w) :
    ∀ (fuel : Nat) (listed : Array Bool) (a : Act) (w : World), Closed ops listed → i ∈ Region.ready .any ops listed → YS P ops S oi v a → S w →
      AnyS fre ld P r n ops Q S fuel (listed.setIfInBounds i true) (a.put oi.dst v) w → AnyS fre ld P r n ops Q S (fuel + 1) listed a w := by
  intro fuel
  induction fuel with
  | zero =>
    intro listed a w hcl hr hy hS H
    refine ⟨fun h => (by rw [h] at hr; cases hr), fun j hj => ?_⟩
    by_cases hji : j = i
    · subst hji; exact hy.wpOpIn hn hi hS (.inl ⟨.inr (.inl hS), H⟩)
    · have := ready_mono hj hji
      rw [H.1] at this
      cases this
  | succ fuel ih =>
    intro listed a w hcl hr hy hS H
    refine ⟨fun h => (by rw [h] at hr; cases hr), fun j hj => ?_⟩
    by_cases hji : j = i
    · subst hji; exact hy.wpOpIn hn hi hS (.inl ⟨.inr (.inl hS), H⟩)
    · have h1 := H.2 j (ready_mono hj hji)
      obtain ⟨_, oj, hoj, _⟩ := mem_ready.1 hj
      have hap : oi.apart ops oj = true := by
        rcases apartD_spec hA hi hoj (Ne.symm hji) with h | h | h
        · exact h
        · exact (not_both (waits_listed hj hoj h) (unlisted hr)).elim
        · exact (not_both (waits_listed hr hi h) (unlisted hj)).elim
      have hcov : ¬ cov fre ops j := by
        intro hc
        have := hc oj hoj i (Array.getElem?_eq_some_iff.1 hi).1 (Ne.symm hji) hfi
        exact not_both (waits_listed hj hoj this) (unlisted hr)
      have hbar : ¬ bar ld ops (listed.setIfInBounds i true) j := by
        intro hb
        exact not_both (TW.listed hcl hj (hb i (getD_own (unlisted hr)) hld (Ne.symm hji))) (unlisted hr)
      have h2 := wpOpIn_putS hn hi hoj hap hQ hy h1
      refine wpOpIn_mono (fun a' w' h3 => ?_) h2
      obtain ⟨hy', h4⟩ := h3
      rcases h4 with ⟨hs', h4⟩ | ⟨hb, _⟩
      · have hs : S w' := by
          rcases hs'.resolve_left hcov with h | h
          · exact h
          · rw [h]; exact hS
        refine .inl ⟨.inr (.inl hs), ih (listed.setIfInBounds j true) a' w' (hcl.add hj) (ready_mono hr (Ne.symm hji)) hy' hs ?_⟩
        rw [Array.setIfInBounds_comm _ _ hji]
        exact h4
      · exact (hbar hb).elim
/-- What touches no memory may be taken first, whatever the world is. -/
theorem AnyS.firstF {i : Nat} {oi : Oper} {v : Value} (hn : noDS ops = true) (hA : apartD ops = true) (hi : ops[i]? = some oi) (hQ : ∀ c a w, Q (.panic c) (a.put oi.dst v) w → Q (.panic c) a w) :
    ∀ (fuel : Nat) (S : World → Prop) (listed : Array Bool) (a : Act) (w : World), i ∈ Region.ready .any ops listed → YS P ops (fun _ => True) oi v a →
      AnyS fre ld P r n ops Q S fuel (listed.setIfInBounds i true) (a.put oi.dst v) w → AnyS fre ld P r n ops Q S (fuel + 1) listed a w := by
  intro fuel
  induction fuel with
  | zero =>
    intro S listed a w hr hy H
    refine ⟨fun h => (by rw [h] at hr; cases hr), fun j hj => ?_⟩
    by_cases hji : j = i
    · subst hji; exact hy.wpOpIn hn hi trivial (.inl ⟨.inr (.inr rfl), H⟩)
    · have := ready_mono hj hji
      rw [H.1] at this
      cases this
  | succ fuel ih =>
    intro S listed a w hr hy H
    refine ⟨fun h => (by rw [h] at hr; cases hr), fun j hj => ?_⟩
    by_cases hji : j = i
    · subst hji; exact hy.wpOpIn hn hi trivial (.inl ⟨.inr (.inr rfl), H⟩)
    · have h1 := H.2 j (ready_mono hj hji)
      obtain ⟨_, oj, hoj, _⟩ := mem_ready.1 hj
      have hap : oi.apart ops oj = true := by
        rcases apartD_spec hA hi hoj (Ne.symm hji) with h | h | h
        · exact h
        · exact (not_both (waits_listed hj hoj h) (unlisted hr)).elim
        · exact (not_both (waits_listed hr hi h) (unlisted hj)).elim
      have h2 := wpOpIn_putS hn hi hoj hap hQ hy h1
      refine wpOpIn_mono (fun a' w' h3 => ?_) h2
      obtain ⟨hy', h4⟩ := h3
      rcases h4 with ⟨hs', h4⟩ | ⟨hb, S', h4⟩
      · refine .inl ⟨hs', ih S (listed.setIfInBounds j true) a' w' (ready_mono hr (Ne.symm hji)) hy' ?_⟩
        rw [Array.setIfInBounds_comm _ _ hji]
        exact h4
      · refine .inr ⟨fun k hk hl hne => hb k (getD_put hk) hl hne, S', ih S' (listed.setIfInBounds j true) a' w' (ready_mono hr (Ne.symm hji)) hy' ?_⟩
        rw [Array.setIfInBounds_comm _ _ hji]
        exact h4
theorem AnyS.done {listed : Array Bool} {a : Act} {w : World} (hr : Region.ready .any ops listed = []) (h : Q .normal a w) : ∀ (S : World → Prop) (fuel : Nat), AnyS fre ld P r n ops Q S fuel listed a w
  | _, 0 => ⟨hr, h⟩
  | _, _ + 1 => ⟨fun _ => h, by rw [hr]; simp⟩
end

end Go.RV
