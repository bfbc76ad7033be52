/- The executor: a function's contract from its body; loops. Conditions: none. -/
import Derived.Test.YtedoalnjdanebaaRvF
set_option linter.unusedVariables false
set_option linter.unusedSimpArgs false
namespace Go.RV
open Go

structure TakeN (r : Nat) (w : World) (K : World → Prop) : Prop where
  out : w.heap[r]? = some (.deferred (some [])) ∧ K { w with heap := w.heap.setIfInBounds r (.deferred none) }

def leaveK : List Deferred → World → (World → Prop) → Prop
  | [], w, K => K w
  | d :: ds, w, K => match d.target with
    | .collected r => TakeN r w fun w => leaveK ds w K
    | _ => Stk "deferred"

def resK (T : Tab) : List ResultVar → Fr → World → (List Value → Prop) → Prop
  | [], _, _, K => K []
  | .tmp t :: rs, fr, w, K => getK fr t fun v => resK T rs fr w fun vs => K (v :: vs)
  | .cell a t :: rs, fr, w, K => getK fr a fun av => match av with
    | .pointer (some a) => loadK T t a w fun v => resK T rs fr w fun vs => K (v :: vs)
    | _ => Stk "result"

def retK (T : Tab) (rs : List ResultVar) (fr : Fr) (w : World) (K : Value → Prop) : Prop :=
  resK T rs fr w fun vs => match vs with
    | [v] => K v
    | vs => K (.tuple vs.toArray)

def retQ (T : Tab) (rs : List ResultVar) (R : Value → World → Prop) : Post := fun e fr ds w =>
  match e with
  | .normal => leaveK ds w fun w => retK T rs fr w fun v => R v w
  | .ret => leaveK ds w fun w => retK T rs fr w fun v => R v w
  | _ => Stk "left"

section sound
variable {P : Program} {T : Tab} (hT : TabOk P T)

theorem run_takeDeferred {r : Nat} {w : World} (h : w.heap[r]? = some (.deferred (some []))) : (Instr.takeDeferred r).run P w = .ok [] { w with heap := w.heap.setIfInBounds r (.deferred none) } := by
  simp [Instr.takeDeferred, getObj, setObj, Sem.run, h]

theorem leaveK_ok {fn : Func} {tmps : Array Value} {R : Ending → World → Prop} {F : Fence} {n : Nat} : ∀ {ds : List Deferred} {w : World}, leaveK ds w (fun w => ∃ v, (results fn tmps).run P w = .ok v w ∧ R (.returned v) w) →
    LeavesInM F n P fn tmps R ds .returning w
  | [], w, h => by
    unfold leaveK at h
    exact h
  | d :: ds, w, h => by
    unfold leaveK at h
    refine ⟨by simp, ?_⟩
    split at h
    · rename_i r hr
      replace h := h.out
      obtain ⟨h1, h2⟩ := h
      exact .inl ⟨r, _, hr, run_takeDeferred h1, leaveK_ok h2⟩
    · exact h.elim
theorem leaveK_mono {K K' : World → Prop} (hk : ∀ w, K w → K' w) : ∀ {ds : List Deferred} {w : World}, leaveK ds w K → leaveK ds w K'
  | [], w, h => hk _ h
  | d :: ds, w, h => by
    unfold leaveK at h ⊢
    split at h
    · rename_i r hr
      exact ⟨⟨h.out.1, leaveK_mono hk h.out.2⟩⟩
    · exact h.elim

include hT in
theorem run_loadVar_same {t : Nat} {a : Addr} {w : World} {K : Value → Prop} (h : loadK T t a w K) : ∃ v, (loadVar t a).run P w = .ok v w ∧ K v := by
  have h1 := loadK_ok (P := P) hT (K := fun v w' => w' = w ∧ K v) (t := t) (a := a) (w := w) (by
    unfold loadK at h ⊢
    split at h
    · split at h
      · split at h
        · obtain ⟨vs, a, b, c⟩ := h.out
          exact ⟨⟨vs, a, b, rfl, c⟩⟩
        · exact h.elim
      · obtain ⟨v, a, b⟩ := h.out
        exact ⟨⟨v, a, rfl, b⟩⟩
    · exact h.elim)
  obtain ⟨v, w', hr, rfl, hk⟩ := h1.run
  exact ⟨v, hr, hk⟩

include hT in
theorem resK_ok {fr : Fr} {w : World} : ∀ {rs : List ResultVar} {K : List Value → Prop}, resK T rs fr w K →
    ∃ vs, (rs.mapM (fun
      | .tmp t => pure (fr.toArray.getD t undef)
      | .cell a t => do loadVar t (← asAddr (fr.toArray.getD a undef))) : Sem (List Value)).run P w = .ok vs w ∧ K vs
  | [], K, h => ⟨[], rfl, h⟩
  | .tmp t :: rs, K, h => by
    have h1 := getK_ok (K := fun v => resK T rs fr w fun vs => K (v :: vs)) h
    obtain ⟨vs, hr, hk⟩ := resK_ok h1
    refine ⟨_ :: vs, ?_, hk⟩
    simp only [List.mapM_cons, Sem.run_bind, Sem.run_pure, Result.andThen_ok, hr]
    simp
  | .cell a t :: rs, K, h => by
    have h1 := getK_ok (K := fun av => match av with
      | .pointer (some a) => loadK T t a w fun v => resK T rs fr w fun vs => K (v :: vs)
      | _ => Stk "result") h
    split at h1
    · rename_i ad hav
      obtain ⟨v, hr, h2⟩ := run_loadVar_same hT h1
      obtain ⟨vs, hr2, hk⟩ := resK_ok h2
      refine ⟨v :: vs, ?_, hk⟩
      have hav' : fr.toArray.getD a undef = .pointer (some ad) := by simpa using hav
      have ha : (asAddr (fr.toArray.getD a undef)).run P w = .ok ad w := by rw [hav']; rfl
      simp only [List.mapM_cons, Sem.run_bind, ha, Sem.run_pure, Result.andThen_ok, hr, hr2]
    · exact h1.elim

include hT in
theorem retK_ok {fn : Func} {fr : Fr} {w : World} {K : Value → Prop} (h : retK T fn.results.toList fr w K) : ∃ v, (results fn fr.toArray).run P w = .ok v w ∧ K v := by
  obtain ⟨vs, hr, hk⟩ := resK_ok (P := P) hT h
  have hm : (fn.results.mapM (fun
      | .tmp t => pure (fr.toArray.getD t undef)
      | .cell a t => do loadVar t (← asAddr (fr.toArray.getD a undef))) : Sem (Array Value)).run P w = .ok vs.toArray w := by
    rw [Array.mapM_eq_mapM_toList, Sem.run_map, hr]
    rfl
  refine ⟨(if h : vs.toArray.size = 1 then vs.toArray[0] else .tuple vs.toArray), ?_, ?_⟩
  · unfold results
    rw [Sem.run_bind]
    exact (congrArg (fun z => Result.andThen z _) hm).trans rfl
  · split at hk
    · exact hk
    · rename_i hne
      have : ¬ vs.toArray.size = 1 := by
        intro h1
        match vs, h1, hne with
        | [v], _, hne => exact hne v rfl
      rw [dif_neg this]
      exact hk

include hT in
/-- **A function's contract, from what its body reduces to.** -/
theorem calls_i {f : FuncId} {fn : Func} {c : Code} {args : List Value} {w : World} {R : Value → World → Prop} (hf : P.funcs[f]? = some fn) (hb : fn.body = some c)
    (hx : X T P none c (retQ T fn.results.toList R) (args ++ List.replicate (fn.ntmps - args.length) undef) [] w) :
    Calls P f args.toArray w fun e w' => ∃ v, e = .returned v ∧ R v w' := by
  refine callsIn_wide.1 (callsIn_of_wp_marks (n := 0) hf hb trivial ?_)
  have h1 := (X_ok hT none c hx).out 0
  have ht : args.toArray ++ Array.replicate (fn.ntmps - args.toArray.size) undef = (args ++ List.replicate (fn.ntmps - args.length) undef).toArray := by
    apply Array.ext'
    simp
  rw [ht]
  refine wpIn_mono h1 ?_
  rintro e a' w' ⟨fr, ds, rfl, hq⟩
  cases e with
  | normal => exact leaveK_ok (leaveK_mono (fun w hk => by obtain ⟨v, hr, hv⟩ := retK_ok (fn := fn) hT hk; exact ⟨v, hr, v, rfl, hv⟩) hq)
  | ret => exact leaveK_ok (leaveK_mono (fun w hk => by obtain ⟨v, hr, hv⟩ := retK_ok (fn := fn) hT hk; exact ⟨v, hr, v, rfl, hv⟩) hq)
  | _ => exact Stk.elim hq

theorem fc_of_calls {f : FuncId} {fn : Func} {c : Code} {args : List Value} {w : World} {R : Value → World → Prop} (hf : P.funcs[f]? = some fn) (hb : fn.body = some c) (hn : (fn.name == "runtime.NumGoroutine") = false)
    (h : Calls P f args.toArray w fun e w' => ∃ v, e = .returned v ∧ R v w') : Fc P f args w R := by
  refine ⟨?_⟩; unfold callFunc
  refine SemW.bind (SemW.program ?_)
  rw [hf]
  simp only [hn, Bool.false_eq_true, if_false, hb, Option.isNone_some]
  exact SemW.pure h

include hT in
theorem fc_i {f : FuncId} {fn : Func} {c : Code} {args : List Value} {w : World} {R : Value → World → Prop} (hf : P.funcs[f]? = some fn) (hb : fn.body = some c) (hn : (fn.name == "runtime.NumGoroutine") = false)
    (hx : X T P none c (retQ T fn.results.toList R) (args ++ List.replicate (fn.ntmps - args.length) undef) [] w) : Fc P f args w R :=
  fc_of_calls hf hb hn (calls_i hT hf hb hx)

theorem calls_of_fc {f : FuncId} {fn : Func} {c : Code} {args : List Value} {w : World} {R : Value → World → Prop} (hf : P.funcs[f]? = some fn) (hb : fn.body = some c) (hn : (fn.name == "runtime.NumGoroutine") = false)
    (h : Fc P f args w R) : Calls P f args.toArray w fun e w' => ∃ v, e = .returned v ∧ R v w' := by
  replace h := h.out
  unfold callFunc at h
  obtain ⟨x, w', hr, hx⟩ := h.run
  rw [Sem.run_bind] at hr
  have hp : (Go.program).run P w = .ok P w := rfl
  rw [hp] at hr
  simp only [Result.andThen_ok, hf, hn, Bool.false_eq_true, if_false, hb, Option.isNone_some] at hr
  have hr' : Result.ok (Next.enter f args.toArray) w = Result.ok x w' := hr
  cases hr'
  exact hx
end sound

/- loops -/
def memN : List Nat → Nat → Bool
  | [], _ => false
  | m :: ms, n => match Nat.beq m n with
    | true => true
    | false => memN ms n
def lkU : List (Nat × Value) → Nat → Option Value
  | [], _ => none
  | (m, v) :: ms, n => match Nat.beq m n with
    | true => some v
    | false => lkU ms n
def ovL (W : List Nat) (us : Nat → Value) (up : List (Nat × Value)) : Nat → Fr → Fr
  | _, [] => []
  | j, x :: xs => (match lkU up j with
    | some v => v
    | none => match memN W j with
      | true => us j
      | false => x) :: ovL W us up (j+1) xs
def ovK (W : List Nat) (us : Nat → Value) (up : List (Nat × Value)) : Nat → Fr → (Fr → Prop) → Prop
  | _, [], K => K []
  | j, x :: xs, K => match lkU up j with
    | some v => ovK W us up (j+1) xs fun ys => K (v :: ys)
    | none => match memN W j with
      | true => ovK W us up (j+1) xs fun ys => K (us j :: ys)
      | false => ovK W us up (j+1) xs fun ys => K (x :: ys)
theorem ovK_ok {W : List Nat} {us : Nat → Value} {up : List (Nat × Value)} : ∀ {fr : Fr} {j : Nat} {K : Fr → Prop}, ovK W us up j fr K → K (ovL W us up j fr)
  | [], _, _, h => h
  | x :: xs, j, K, h => by
    unfold ovK at h
    unfold ovL
    split at h
    · rename_i v hv
      exact ovK_ok (K := fun ys => K (v :: ys)) h
    · split at h
      · exact ovK_ok (K := fun ys => K (us j :: ys)) h
      · exact ovK_ok (K := fun ys => K (x :: ys)) h
def dsts : List Oper → List Nat
  | [] => []
  | o :: os => match o.dst with
    | some d => d :: dsts os
    | none => dsts os
def wrC : Code → List Nat
  | .region _ ops _ => dsts ops.toList
  | .seq a b => wrC a ++ wrC b
  | .cond _ a b => wrC a ++ wrC b
  | .block _ c => wrC c
  | .loop c => wrC c
  | .scope c => wrC c
  | _ => []

theorem least_of {p : Nat → Prop} : ∀ n, p n → ∃ m, p m ∧ ∀ k, p k → m ≤ k := by
  intro n
  induction n using Nat.strongRecOn with
  | _ n ih =>
    intro hn
    by_cases h : ∃ k, k < n ∧ p k
    · obtain ⟨k, hk, hp⟩ := h
      exact ih k hk hp
    · refine ⟨n, hn, fun k hk => ?_⟩
      rcases Nat.lt_or_ge k n with h1 | h1
      · exact absurd ⟨k, h1, hk⟩ h
      · exact h1

section loop
variable {P : Program} {T : Tab} (hT : TabOk P T)
include hT
/-- **A loop.** 'up s': what the slots hold at the head of a round in state s; 'us': what the other slots hold that the body writes. -/
theorem loop_i {r : Option Nat} {c : Code} {Q : Post} {fr : Fr} {ds : List Deferred} {w : World} {σ : Type} (up : σ → List (Nat × Value)) (I : σ → World → Prop) (μ : σ → Nat) (s0 : σ)
    (h0 : ovL (wrC c) (fun j => fr.getD j undef) (up s0) 0 fr = fr) (hI : I s0 w)
    (hr : ∀ s us w, I s w → ovK (wrC c) us (up s) 0 fr fun fr' => X T P r c (fun e fr'' ds' w' => match e with
      | .normal => ds' = ds ∧ ∃ s', ovL (wrC c) (fun j => fr''.getD j undef) (up s') 0 fr = fr'' ∧ I s' w' ∧ μ s' < μ s
      | e => Q e fr'' ds' w') fr' ds w) : Wp P r (.loop c) Q fr ds w := by
  refine .of fun n => ?_
  classical
  let p : Act → World → Nat → Prop := fun a w k => ∃ s us, a = ⟨(ovL (wrC c) us (up s) 0 fr).toArray, ds⟩ ∧ I s w ∧ μ s = k
  let J : Act → World → Prop := fun a w => ∃ k, p a w k
  let m : Act → World → Nat := fun a w => if h : ∃ k, p a w k then Classical.choose (least_of h.choose h.choose_spec) else 0
  have hm : ∀ a w, J a w → p a w (m a w) ∧ ∀ k, p a w k → m a w ≤ k := by
    intro a w h
    have e : m a w = Classical.choose (least_of h.choose h.choose_spec) := dif_pos h
    rw [e]
    exact Classical.choose_spec (least_of h.choose h.choose_spec)
  refine wpIn_loop J m ⟨μ s0, s0, fun j => fr.getD j undef, by rw [h0], hI, rfl⟩ ?_
  intro a w hJ
  obtain ⟨s, us, ha, hs, hk⟩ := (hm a w hJ).1
  have h1 := ovK_ok (hr s us w hs)
  subst ha
  refine wpIn_mono ((X_ok hT r c h1).out n) ?_
  rintro e a' w' ⟨fr'', ds', rfl, hq⟩
  cases e with
  | normal =>
    obtain ⟨rfl, s', hfr, hI', hlt⟩ := hq
    have hp : p ⟨fr''.toArray, ds'⟩ w' (μ s') := ⟨s', fun j => fr''.getD j undef, by rw [hfr], hI', rfl⟩
    refine ⟨⟨_, hp⟩, ?_⟩
    have := (hm _ _ ⟨_, hp⟩).2 _ hp
    omega
  | _ => exact ⟨fr'', ds', rfl, hq⟩
end loop

end Go.RV
