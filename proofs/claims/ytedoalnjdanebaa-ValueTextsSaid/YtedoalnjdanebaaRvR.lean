/- A range over a function: the statement, its rounds, the deferred mark. Conditions: none. -/
import Derived.Test.YtedoalnjdanebaaRvQ
import Derived.RangeFuncIn
import Derived.RangeFuncRecord
set_option linter.unusedVariables false
set_option linter.unusedSimpArgs false
namespace Go.RV
open Go Go.RowKit

/-- a round begins -/
structure BeginN (l : Nat) (w : World) (K : World → Prop) : Prop where
  out : ∃ r : Loop, w.heap[l]? = some (.loop r) ∧ r.state = .ready ∧ K (w.putObj l (.loop { r with state := .busy }))
/-- a round ends -/
structure EndN (l : Nat) (jump : Option Code) (w : World) (K : Value → World → Prop) : Prop where
  out : ∃ r : Loop, w.heap[l]? = some (.loop r) ∧ K (.bool jump.isNone) (w.putObj l (.loop { r with state := if jump.isNone then .ready else .done, pending := jump }))
def roundQ (l : Nat) (K : Value → World → Prop) : Post := fun e fr ds w => match e with
  | .normal => EndN l none w K
  | .ret => EndN l (some .ret) w K
  | .exit id => EndN l (some (.exit id)) w K
  | .goto t => EndN l (some (.goto t)) w K
  | _ => Stk "a round"
def beginQ (T : Tab) (P : Program) (l : Nat) (body : Code) (K : Value → World → Prop) : Post := fun e fr ds w => match e with
  | .normal => BeginN l w fun w => X T P (some l) body (roundQ l K) fr ds w
  | _ => Stk "a round's left sides"
/-- the function that was ranged over has returned -/
structure LoopEnd (P : Program) (r : Option Nat) (l : Nat) (Q : Post) (fr : Fr) (ds : List Deferred) (w : World) : Prop where
  out : ∃ rec : Loop, w.heap[l]? = some (.loop rec) ∧ rec.state ≠ .busy ∧ (match rec.pending with
    | none => Q .normal fr ds (w.putObj l (.loop { rec with state := .exhausted }))
    | some c => Wp P r c Q fr ds (w.putObj l (.loop { rec with state := .exhausted })))

section
variable {P : Program} {T : Tab} {w w0 : World} {M : List Nat} {F L : LM}

theorem run_callFunc_body {f : FuncId} {fn : Func} {c : Code} {args : Array Value} (hf : P.funcs[f]? = some fn) (hb : fn.body = some c) (hn : (fn.name == "runtime.NumGoroutine") = false) : (callFunc f args).run P w = .ok (.enter f args) w := by
  unfold callFunc
  rw [Sem.run_bind]
  have hp : (Go.program).run P w = .ok P w := rfl
  rw [hp]
  simp only [Result.andThen, hf, hn, hb, Option.isNone_some, Bool.false_eq_true, if_false]
  rfl
theorem yield_i (hT : TabOk P T) {l : Nat} {args : List Value} {rec : Loop} {fr0 : Fr} {K : Value → World → Prop} (hl : w.heap[l]? = some (.loop rec)) (hs : args.length = rec.params.size)
    (hfr : (rec.params.zip args.toArray).foldl (fun tmps (t, a) => tmps.setIfInBounds t a) rec.tmps = fr0.toArray) (h : X T P (some l) rec.assign (beginQ T P l rec.body K) fr0 [] w) :
    Cv P (.func (.yield l) #[] #[]) args w K := by
  refine ⟨SemW.of_run (w' := w) (a := .round l rec.fn fr0.toArray rec.assign rec.body) ?_ ?_⟩
  · have h1 := run_yield (P := P) (args := args.toArray) hl (by simpa using hs)
    rw [hfr] at h1
    simpa [Deferred.ofValue, invoke, Sem.run_bind, Result.andThen] using h1
  · refine roundIn_of_wpIn trivial ?_
    have h1 := (X_ok hT (some l) rec.assign h).out 0
    refine wpIn_mono h1 ?_
    rintro e a' w' ⟨fr, ds, rfl, hq⟩
    cases e with
    | normal =>
      obtain ⟨r, hr, hst, hk⟩ := hq.out
      refine ⟨_, run_beginRound hr hst, ?_⟩
      have h2 := (X_ok hT (some l) rec.body hk).out 0
      refine wpIn_mono h2 ?_
      rintro e a' w'' ⟨fr, ds, rfl, hq⟩
      cases e with
      | normal => obtain ⟨r, hr, hk⟩ := hq.out; exact ⟨_, _, run_endRound _ hr, _, rfl, hk⟩
      | ret => obtain ⟨r, hr, hk⟩ := hq.out; exact ⟨_, _, run_endRound _ hr, _, rfl, hk⟩
      | exit id => obtain ⟨r, hr, hk⟩ := hq.out; exact ⟨_, _, run_endRound _ hr, _, rfl, hk⟩
      | goto t => obtain ⟨r, hr, hk⟩ := hq.out; exact ⟨_, _, run_endRound _ hr, _, rfl, hk⟩
      | panic c => exact Stk.elim hq
      | outgrown => exact Stk.elim hq
    | _ => exact Stk.elim hq

theorem yield1_i (hT : TabOk P T) {l t : Nat} {a : Value} {rec : Loop} {K : Value → World → Prop} (hl : w.heap[l]? = some (.loop rec)) (hs : rec.params = #[t])
    (h : setK rec.tmps.toList t a fun fr0 => X T P (some l) rec.assign (beginQ T P l rec.body K) fr0 [] w) : Cv P (.func (.yield l) #[] #[]) [a] w K := by
  refine yield_i hT (fr0 := rec.tmps.toList.set t a) hl (by rw [hs]; rfl) ?_ (setK_ok h)
  rw [hs]
  apply Array.ext'
  simp
theorem yield0_i (hT : TabOk P T) {l : Nat} {rec : Loop} {K : Value → World → Prop} (hl : w.heap[l]? = some (.loop rec)) (hs : rec.params = #[])
    (h : X T P (some l) rec.assign (beginQ T P l rec.body K) rec.tmps.toList [] w) : Cv P (.func (.yield l) #[] #[]) [] w K := by
  refine yield_i hT (fr0 := rec.tmps.toList) hl (by rw [hs]; rfl) ?_ h
  rw [hs]
  simp
theorem yield2_i (hT : TabOk P T) {l t t' : Nat} {a a' : Value} {rec : Loop} {K : Value → World → Prop} (hl : w.heap[l]? = some (.loop rec)) (hs : rec.params = #[t, t'])
    (h : setK rec.tmps.toList t a fun fr0 => setK fr0 t' a' fun fr0 => X T P (some l) rec.assign (beginQ T P l rec.body K) fr0 [] w) : Cv P (.func (.yield l) #[] #[]) [a, a'] w K := by
  refine yield_i hT (fr0 := (rec.tmps.toList.set t a).set t' a') hl (by rw [hs]; rfl) ?_ (setK_ok (setK_ok h))
  rw [hs]
  apply Array.ext'
  simp

theorem range_i {g : Operand} {ps : Array Tmp} {assign body : Code} {Q : Post} {fr : Fr} {ds : List Deferred} {f : FuncId} {fn : Func} {c : Code} {first cap : Array Value} (hg : evL fr g = .func (.func f) first cap)
    (hf : P.funcs[f]? = some fn) (hb : fn.body = some c) (hn : (fn.name == "runtime.NumGoroutine") = false) (hS : Sf M w0 w F L)
    (h : ∀ fi bd l w1, Sf M w0 w1 F ((l, .loop { state := .ready, pending := none, fn := fi, tmps := fr.toArray, params := ps, assign := assign, body := body, defers := bd }) :: (bd, .deferred (some [])) :: L) →
      Fc P f (first.toList ++ ([.func (.yield l) #[] #[]] ++ cap.toList)) w1 fun v w3 => LoopEnd P none l Q fr ({ target := .collected bd, args := #[] } :: ds) w3) :
    Wp P none (.rangeFunc g ps assign body) Q fr ds w := by
  refine .of fun n => wpIn_rangeFunc fun fi _ => ?_
  have h1 : Nw w (.deferred (some [])) fun bd w' => Nw w' (.loop { state := .ready, pending := none, fn := fi, tmps := fr.toArray, params := ps, assign := assign, body := body, defers := bd }) fun l w1 => Fc P f (first.toList ++ ([.func (.yield l) #[] #[]] ++ cap.toList)) w1 fun v w3 => LoopEnd P none l Q fr ({ target := .collected bd, args := #[] } :: ds) w3 := by
    refine nw_f hS fun bd w' hS' => ?_
    refine nw_f hS' fun l w1 hS'' => ?_
    exact h fi bd l w1 hS''
  have h2 := h1.out.out
  have hsz : ({ w with heap := w.heap.push (.deferred (some [])) } : World).heap.size = w.heap.size + 1 := by simp
  rw [hsz] at h2
  have h3 := calls_of_fc hf hb hn h2
  have ev : (Act.mk fr.toArray ds).eval g = .func (.func f) first cap := by rw [eval_eq]; exact hg
  have ea : (first.toList ++ ([Value.func (.yield (w.heap.size + 1)) #[] #[]] ++ cap.toList)).toArray = first ++ #[.func (.yield (w.heap.size + 1)) #[] #[]] ++ cap := by
    apply Array.ext'
    simp
  rw [ea] at h3
  let W1 : World := (w.alloc (.deferred (some []))).alloc (.loop { state := .ready, pending := none, fn := fi, tmps := fr.toArray, params := ps, assign := assign, body := body, defers := w.heap.size })
  refine ⟨w.heap.size + 1, [{ target := .collected w.heap.size, args := #[] }], W1, { target := .fn (.func f) cap, args := first ++ #[.func (.yield (w.heap.size + 1)) #[] #[]] }, W1, f, first ++ #[.func (.yield (w.heap.size + 1)) #[] #[]] ++ cap, W1,
    run_enterLoop_outer fi fr.toArray ps assign body, ?_, fun _ _ => trivial, ?_, fun hd => by simp [FR_depth] at hd, ?_⟩
  · simp [resolve, rangeCall, ev, Deferred.ofValue]
    rfl
  · exact run_callFunc_body hf hb hn
  · refine FR_calls none _ (Calls.mono h3 ?_)
    rintro e w3 ⟨v, rfl, rec, hr, hst, hk⟩
    refine ⟨rec.pending, _, run_endLoop hr hst, ?_⟩
    revert hk
    cases rec.pending with
    | none => exact fun hk => ⟨fr, _, rfl, hk⟩
    | some c => exact fun hk => hk.out n

theorem take_f {r : Nat} {K : World → Prop} (hS : Sf M w0 w F L) (k : Nat) (hk : L[k]? = some (r, .deferred (some []))) (h : ∀ w', Sf M w0 w' F (L.set k (r, .deferred none)) → K w') : TakeN r w K := by
  have hb := hS.st.block (F.length + k) (hS.idx k hk)
  refine ⟨hb, h _ (hS.set k hk _ ⟨by simp, rfl, rfl, rfl⟩ ?_ ?_)⟩
  · have hlt : r < w.heap.size := (Array.getElem?_eq_some_iff.1 hb).1
    simp [hlt]
  · intro j hj
    simp [Array.getElem?_setIfInBounds, Ne.symm hj]
theorem Sf.putObj (hS : Sf M w0 w F L) (k : Nat) {b : Nat} {o : Obj} (hk : L[k]? = some (b, o)) (o' : Obj) : Sf M w0 (w.putObj b o') F (L.set k (b, o')) := by
  have hb := hS.st.block (F.length + k) (hS.idx k hk)
  have hlt : b < w.heap.size := (Array.getElem?_eq_some_iff.1 hb).1
  refine hS.set k hk _ ⟨by simp [World.putObj], rfl, rfl, rfl⟩ ?_ ?_
  · simp [World.putObj, hlt]
  · intro j hj
    simp [World.putObj, Array.getElem?_setIfInBounds, Ne.symm hj]
theorem begin_f {l : Nat} {r : Loop} {K : World → Prop} (hS : Sf M w0 w F L) (k : Nat) (hk : L[k]? = some (l, .loop r)) (hr : r.state = .ready) (h : ∀ w', Sf M w0 w' F (L.set k (l, .loop { r with state := .busy })) → K w') : BeginN l w K :=
  ⟨r, hS.st.block (F.length + k) (hS.idx k hk), hr, h _ (hS.putObj k hk _)⟩
theorem end_f {l : Nat} {r : Loop} {j : Option Code} {K : Value → World → Prop} (hS : Sf M w0 w F L) (k : Nat) (hk : L[k]? = some (l, .loop r)) (h : ∀ w', Sf M w0 w' F (L.set k (l, .loop { r with state := if j.isNone then .ready else .done, pending := j })) → K (.bool j.isNone) w') : EndN l j w K :=
  ⟨r, hS.st.block (F.length + k) (hS.idx k hk), h _ (hS.putObj k hk _)⟩
theorem loopEnd_f {l : Nat} {r : Loop} {rr : Option Nat} {Q : Post} {fr : Fr} {ds : List Deferred} (hS : Sf M w0 w F L) (k : Nat) (hk : L[k]? = some (l, .loop r)) (hr : r.state = .ready) (hp : r.pending = none) (h : ∀ w', Sf M w0 w' F (L.set k (l, .loop { r with state := .exhausted })) → Q .normal fr ds w') : LoopEnd P rr l Q fr ds w := by
  refine ⟨r, hS.st.block (F.length + k) (hS.idx k hk), by rw [hr]; decide, ?_⟩
  have h1 := h _ (hS.putObj k hk (.loop { r with state := .exhausted }))
  split
  · exact h1
  · rename_i e
    rw [hp] at e
    cases e
theorem Sf.obj (hS : Sf M w0 w F L) (k : Nat) {b : Nat} {o : Obj} (hk : L[k]? = some (b, o)) : w.heap[b]? = some o := hS.st.block (F.length + k) (hS.idx k hk)
end
end Go.RV
