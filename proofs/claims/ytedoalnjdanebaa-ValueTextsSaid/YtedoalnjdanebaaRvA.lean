/- A symbolic executor for loaded Go code, and its soundness: what it reduces to implies the model's own weakest precondition. Conditions: none. -/
import Derived.CallsIn
import Derived.RangeFuncIn
import Derived.RangeFuncCalls
import Derived.RangeFuncLeaves
import Derived.TacticsIn
import Derived.Laws.Sem
import Derived.Below
import Derived.KernelRfl
set_option linter.unusedVariables false
set_option linter.unusedSimpArgs false
namespace Go.RV
open Go

abbrev Fr := List Value
abbrev Post := Exit → Fr → List Deferred → World → Prop
abbrev Tab := Nat → Option TypeInfo

/- what cannot be carried out -/
structure Stk (s : String) : Prop where
  out : s ≠ s

theorem Stk.elim {s : String} {p : Prop} (h : Stk s) : p := by
  replace h := h.out
  exact absurd rfl h

/- frames -/
def getK : Fr → Nat → (Value → Prop) → Prop
  | [], _, K => K undef
  | x :: _, 0, K => K x
  | _ :: xs, n+1, K => getK xs n K
def setK : Fr → Nat → Value → (Fr → Prop) → Prop
  | [], _, _, k => k []
  | _ :: xs, 0, v, k => k (v :: xs)
  | x :: xs, n+1, v, k => setK xs n v (fun ys => k (x :: ys))
def evK (fr : Fr) (o : Operand) (K : Value → Prop) : Prop :=
  match o with
  | .tmp t => getK fr t K
  | .const v => K v
  | .global g => K (.pointer (some ⟨g,0,none⟩))
  | .func f => K (.func (.func f) #[] #[])
def evsK (fr : Fr) : List Operand → (List Value → Prop) → Prop
  | [], K => K []
  | o :: os, K => evK fr o fun v => evsK fr os fun vs => K (v :: vs)
def putK (fr : Fr) (d : Option Nat) (v : Value) (K : Fr → Prop) : Prop :=
  match d with
  | none => K fr
  | some d => setK fr d v K
def appK : List Value → List Value → (List Value → Prop) → Prop
  | [], ys, K => K ys
  | x :: xs, ys, K => appK xs ys fun zs => K (x :: zs)
def lkOp : List Oper → Nat → Option Oper
  | [], _ => none
  | o :: _, 0 => some o
  | _ :: os, n+1 => lkOp os n
def brK (b : Bool) (A B : Prop) : Prop := match b with | true => A | false => B

def evL (fr : Fr) : Operand → Value
  | .tmp t => fr.getD t undef
  | .const v => v
  | .global g => .pointer (some ⟨g, 0, none⟩)
  | .func f => .func (.func f) #[] #[]
def putL (fr : Fr) (d : Option Nat) (v : Value) : Fr := match d with | none => fr | some d => fr.set d v

theorem getK_ok {K : Value → Prop} : ∀ {fr : Fr} {n : Nat}, getK fr n K → K (fr.getD n undef)
  | [], _, h => h
  | _ :: _, 0, h => h
  | _ :: xs, n+1, h => getK_ok (fr := xs) (n := n) h
theorem setK_ok {v : Value} : ∀ {fr : Fr} {n : Nat} {K : Fr → Prop}, setK fr n v K → K (fr.set n v)
  | [], _, _, h => h
  | _ :: _, 0, _, h => h
  | _ :: xs, n+1, _, h => setK_ok (fr := xs) (n := n) h
theorem evK_ok {fr : Fr} {o : Operand} {K : Value → Prop} (h : evK fr o K) : K (evL fr o) := by
  cases o <;> first | exact getK_ok h | exact h
theorem evsK_ok {fr : Fr} : ∀ {os : List Operand} {K : List Value → Prop}, evsK fr os K → K (os.map (evL fr))
  | [], _, h => h
  | o :: os, K, h => by
    have h1 : evsK fr os fun vs => K (evL fr o :: vs) := evK_ok (K := fun v => evsK fr os fun vs => K (v :: vs)) h
    exact evsK_ok (K := fun vs => K (evL fr o :: vs)) h1
theorem putK_ok {fr : Fr} {d : Option Nat} {v : Value} {K : Fr → Prop} (h : putK fr d v K) : K (putL fr d v) := by
  cases d with
  | none => exact h
  | some d => exact setK_ok h
theorem appK_ok : ∀ {xs ys : List Value} {K : List Value → Prop}, appK xs ys K → K (xs ++ ys)
  | [], _, _, h => h
  | _ :: xs, _, _, h => appK_ok (xs := xs) h
theorem appK_i : ∀ {xs ys : List Value} {K : List Value → Prop}, K (xs ++ ys) → appK xs ys K
  | [], _, _, h => h
  | _ :: xs, _, _, h => appK_i (xs := xs) h
theorem lkOp_ok : ∀ {l : List Oper} {n : Nat}, lkOp l n = l[n]?
  | [], _ => rfl
  | _ :: _, 0 => rfl
  | _ :: os, n+1 => by simpa [lkOp] using lkOp_ok (l := os) (n := n)
theorem brK_ok {b : Bool} {A B C : Prop} (h : brK b A B) (h1 : b = true → A → C) (h2 : b = false → B → C) : C := by
  cases b
  · exact h2 rfl h
  · exact h1 rfl h
theorem br_i {b : Bool} {A B : Prop} (h1 : b = true → A) (h2 : b = false → B) : brK b A B := by cases b; exact h2 rfl; exact h1 rfl

theorem eval_eq (fr : Fr) (ds : List Deferred) : (Act.mk fr.toArray ds).eval = evL fr := by
  funext x
  cases x <;> simp [Act.eval, evL]
theorem put_eq (fr : Fr) (ds : List Deferred) (d : Option Nat) (v : Value) : (Act.mk fr.toArray ds).put d v = Act.mk (putL fr d v).toArray ds := by
  cases d <;> simp [Act.put, putL]

/- what a computation of the model comes to -/
def SemW (P : Program) {α : Type} (s : Sem α) (w : World) (K : α → World → Prop) : Prop :=
  match s.run P w with
  | .ok a w' => K a w'
  | .halt _ _ => False

section sem
variable {P : Program} {α β : Type} {w : World}
theorem SemW.of_run {s : Sem α} {K : α → World → Prop} {a : α} {w' : World} (h : s.run P w = .ok a w') (k : K a w') : SemW P s w K := by
  unfold SemW; rw [h]; exact k
theorem SemW.run {s : Sem α} {K : α → World → Prop} (h : SemW P s w K) : ∃ a w', s.run P w = .ok a w' ∧ K a w' := by
  unfold SemW at h
  cases hr : s.run P w with
  | ok a w' => rw [hr] at h; exact ⟨a, w', rfl, h⟩
  | halt x w' => rw [hr] at h; exact h.elim
theorem SemW.bind {s : Sem α} {f : α → Sem β} {K : β → World → Prop} (h : SemW P s w fun a w' => SemW P (f a) w' K) : SemW P (s >>= f) w K := by
  obtain ⟨a, w', hr, h⟩ := h.run
  unfold SemW at h ⊢
  rw [Sem.run_bind, hr]
  exact h
theorem SemW.mono {s : Sem α} {K K' : α → World → Prop} (h : SemW P s w K) (hk : ∀ a w', K a w' → K' a w') : SemW P s w K' := by
  obtain ⟨a, w', hr, h⟩ := h.run
  exact .of_run hr (hk _ _ h)
theorem SemW.pure {a : α} {K : α → World → Prop} (h : K a w) : SemW P (Pure.pure a) w K := h
theorem SemW.program {K : Program → World → Prop} (h : K P w) : SemW P Go.program w K := h
end sem

def NextW (P : Program) (K : Value → World → Prop) : Next → World → Prop
  | .value v, w => K v w
  | .skip, w => K undef w
  | .enter f args, w => Calls P f args w fun e w' => ∃ v, e = .returned v ∧ K v w'
  | .round l f tmps asg body, w => RoundIn Fence.wide 0 P l f tmps asg body w fun e w' => ∃ v, e = .returned v ∧ K v w'
  | _, _ => False

theorem NextW.mono {P : Program} {K K' : Value → World → Prop} {n : Next} {w : World} (h : NextW P K n w) (hk : ∀ v w', K v w' → K' v w') : NextW P K' n w := by
  cases n <;> simp only [NextW] at h ⊢ <;> first
    | exact hk _ _ h
    | exact h.mono fun e w' ⟨v, he, hv⟩ => ⟨v, he, hk _ _ hv⟩

def FR (r : Option Nat) : Fence := { Fence.wide with round := r }

theorem FR_calls {P : Program} {f : FuncId} {args : Array Value} {w : World} {R : Ending → World → Prop} (r : Option Nat) (n : Nat) (h : Calls P f args w R) : CallsIn (FR r) n P f args w R := by
  cases r with
  | none => exact callsIn_wide.2 h
  | some l => exact CallsIn.inRound l (callsIn_wide.2 h)
theorem FR_round {P : Program} {l : Nat} {f : FuncId} {tmps : Array Value} {asg body : Code} {w : World} {R : Ending → World → Prop} (r : Option Nat) (n m : Nat) (h : RoundIn Fence.wide m P l f tmps asg body w R) : RoundIn (FR r) n P l f tmps asg body w R :=
  ⟨trivial, fun c cs _ => h.2 c cs (room_wide _)⟩
theorem FR_depth (r : Option Nat) : (FR r).depth = none := rfl

/-- One operation, from what it comes to. -/
theorem wpIn_of_semW {P : Program} {o : Oper} {fr : Fr} {ds : List Deferred} {w : World} {next : Act → World → Prop} {Q : Exit → Act → World → Prop} (r : Option Nat) (n : Nat)
    (hd : ∀ c, o.op ≠ .defer c) (h : SemW P (execOp (evL fr) o) w (NextW P fun v w' => next ⟨(putL fr o.dst v).toArray, ds⟩ w')) :
    o.wpIn (FR r) n P ⟨fr.toArray, ds⟩ w next Q := by
  refine ⟨fun f _ => trivial, ?_⟩
  rw [eval_eq, Oper.semAt_eq _ _ _ hd]
  obtain ⟨x, w', hr, hx⟩ := h.run
  rw [hr]
  cases x <;> simp only [NextW] at hx <;> simp only [Oper.uponIn] <;> first
    | (rw [put_eq]; exact hx)
    | exact ⟨by simp [FR_depth], FR_calls r _ (hx.mono fun e w'' ⟨v, he, hv⟩ => by subst he; simp only [put_eq]; exact hv)⟩
    | exact ⟨by simp [FR_depth], FR_round r _ _ (hx.mono fun e w'' ⟨v, he, hv⟩ => by subst he; simp only [put_eq]; exact hv)⟩

/- the nodes: what is asked of whoever proves -/
structure Ld (w : World) (a : Addr) (K : Value → Prop) : Prop where
  out : ∃ v, w.cell? a = some v ∧ K v
structure LdN (w : World) (a : Addr) (n : Nat) (K : List Value → Prop) : Prop where
  out : ∃ vs : List Value, vs.length = n ∧ (∀ i, i < n → w.cell? (a.add i) = vs[i]?) ∧ K vs
structure StN (P : Program) (w : World) (a : Addr) (vs : List Value) (K : World → Prop) : Prop where
  out : SemW P (storeCells a vs) w fun _ w' => K w'
structure Nw (w : World) (o : Obj) (K : Nat → World → Prop) : Prop where
  out : K w.heap.size { w with heap := w.heap.push o }
structure SemN (P : Program) {α : Type} (s : Sem α) (w : World) (K : α → World → Prop) : Prop where
  out : SemW P s w K
structure Bd (p K : Prop) : Prop where
  intro ::
  out : p ∧ K
structure Fc (P : Program) (f : FuncId) (args : List Value) (w : World) (K : Value → World → Prop) : Prop where
  out : SemW P (callFunc f args.toArray) w (NextW P K)
structure Cv (P : Program) (v : Value) (args : List Value) (w : World) (K : Value → World → Prop) : Prop where
  out : SemW P (do let d ← Deferred.ofValue v args.toArray; invoke d.target d.args) w (NextW P K)

theorem Bd.mk {p K : Prop} (h : p) (k : K) : Bd p K := ⟨⟨h, k⟩⟩
theorem ld_i {w : World} {a : Addr} {K : Value → Prop} (v : Value) (h : w.cell? a = some v) (k : K v) : Ld w a K := by refine ⟨?_⟩; exact ⟨v, h, k⟩
theorem ldN_i {w : World} {a : Addr} {n : Nat} {K : List Value → Prop} (vs : List Value) (hl : vs.length = n) (h : ∀ i, i < n → w.cell? (a.add i) = vs[i]?) (k : K vs) : LdN w a n K := by
  refine ⟨?_⟩; exact ⟨vs, hl, h, k⟩
theorem Fc.mono {P : Program} {f : FuncId} {args : List Value} {w : World} {K K' : Value → World → Prop} (h : Fc P f args w K) (hk : ∀ v w', K v w' → K' v w') : Fc P f args w K' := by
  replace h := h.out
  refine ⟨?_⟩
  exact h.mono fun n w' hn => hn.mono hk
theorem Cv.mono {P : Program} {c : Value} {args : List Value} {w : World} {K K' : Value → World → Prop} (h : Cv P c args w K) (hk : ∀ v w', K v w' → K' v w') : Cv P c args w K' := by
  replace h := h.out
  refine ⟨?_⟩
  exact h.mono fun n w' hn => hn.mono hk
theorem Cv.of_fc {P : Program} {f : FuncId} {first cap : Array Value} {args : List Value} {w : World} {K : Value → World → Prop} (h : Fc P f (first.toList ++ (args ++ cap.toList)) w K) : Cv P (.func (.func f) first cap) args w K := by
  replace h := h.out
  refine ⟨?_⟩
  have e : (first.toList ++ (args ++ cap.toList)).toArray = first ++ args.toArray ++ cap := by
    apply Array.ext'
    simp
  rw [e] at h
  exact h
theorem Cv.to_fc {P : Program} {f : FuncId} {first cap : Array Value} {args : List Value} {w : World} {K : Value → World → Prop} (h : Cv P (.func (.func f) first cap) args w K) : Fc P f (first.toList ++ (args ++ cap.toList)) w K := by
  replace h := h.out
  refine ⟨?_⟩
  have e : (first.toList ++ (args ++ cap.toList)).toArray = first ++ args.toArray ++ cap := by
    apply Array.ext'
    simp
  rw [e]
  exact h

/- types -/
def TabOk (P : Program) (T : Tab) : Prop := ∀ t i, T t = some i → P.info? t = some i
def und (T : Tab) (t : Nat) : Option TypeDesc :=
  match T t with
  | none => none
  | some i => match i.desc with
    | .named _ u => match T u with
      | none => none
      | some j => some j.desc
    | d => some d
def tsz (T : Tab) (t : Nat) : Option Nat :=
  match T t with
  | none => none
  | some i => some i.size
def tzero (T : Tab) (t : Nat) : Option Value :=
  match T t with
  | none => none
  | some i => i.zero

section tab
variable {P : Program} {T : Tab} (hT : TabOk P T)
include hT
theorem und_ok {t : Nat} {d : TypeDesc} (h : und T t = some d) : P.underlying t = some d := by
  unfold und at h
  cases hi : T t with
  | none => rw [hi] at h; cases h
  | some i =>
    rw [hi] at h
    have h1 := hT t i hi
    unfold Program.underlying
    rw [h1]
    cases hd : i.desc with
    | named n u =>
      simp only [hd] at h
      obtain ⟨d0, _⟩ := i
      simp only at hd
      subst hd
      cases hj : T u with
      | none => rw [hj] at h; cases h
      | some j => rw [hj] at h; cases h; simp [hT u j hj]
    | _ =>
      simp only [hd] at h
      obtain ⟨d0, _⟩ := i
      simp only at hd
      subst hd
      exact h
theorem run_underlying_ok {t : Nat} {d : TypeDesc} (h : und T t = some d) (w : World) : (underlying t).run P w = .ok d w := by
  simp [underlying, Go.program, Sem.run, und_ok hT h, bind, Sem.bind]
theorem run_sizeOf_ok {t : Nat} {n : Nat} (h : tsz T t = some n) (w : World) : (sizeOf t).run P w = .ok n w := by
  unfold tsz at h
  cases hi : T t with
  | none => rw [hi] at h; cases h
  | some i =>
    rw [hi] at h
    cases h
    simp [sizeOf, typeInfo, Go.program, Sem.run, hT t i hi, bind, Sem.bind, pure]
theorem run_zero_ok {t : Nat} {v : Value} (h : tzero T t = some v) (w : World) : (zeroValue t).run P w = .ok v w := by
  unfold tzero at h
  cases hi : T t with
  | none => rw [hi] at h; cases h
  | some i =>
    rw [hi] at h
    simp [zeroValue, typeInfo, Go.program, Sem.run, hT t i hi, bind, Sem.bind, pure]
    simp only at h
    rw [h]
    rfl
end tab

end Go.RV
