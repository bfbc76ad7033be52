/- Texts of mine, packed for a claim (bundle.py). Conditions: none. -/
import Derived.CallsIn
import Derived.RangeFuncIn
import Derived.RangeFuncCalls
import Derived.RangeFuncLeaves
import Derived.TacticsIn
import Derived.Laws.Sem
import Derived.Below
import Derived.KernelRfl
import Derived.Laws.StructEq
import Derived.Laws.Small
import Derived.Laws.Entries
import Derived.Laws.Strings
import Derived.OrdersIn
import Derived.OrdersHeld
import Derived.Laws.AppendOwn
import Derived.Test.YtlebdkdjjegpgaaGreatProg
import Derived.Laws.IdiomStrings
import Derived.Laws.BytesArg
import Derived.Lib.ConvBytes
import Derived.RangeFuncRecord
namespace Go.RV
theorem sb9 {α : Type} {a b : List α} (h : List.Sublist a b := by repeat (first | exact List.Sublist.refl _ | apply List.Sublist.cons_cons | apply List.Sublist.cons)) : List.Sublist a b := h
theorem lb9 {a b : Nat} (h : Nat.ble a b = true) : a ≤ b := Nat.le_of_ble_eq_true h
end Go.RV
set_option linter.unusedVariables false
set_option linter.unusedSimpArgs false
namespace Go.RV
open Go

abbrev Fr := List Value
abbrev Post := Exit → Fr → List Deferred → World → Prop
abbrev Tab := Nat → Option TypeInfo

structure Stk (s : String) : Prop where
  out : s ≠ s

theorem Stk.elim {s : String} {p : Prop} (h : Stk s) : p := by
  replace h := h.out
  exact absurd rfl h

def getK : Fr → Nat → (Value → Prop) → Prop
  | [], _, K => K undef
  | x :: _, 0, K => K x
  | _ :: xs, n+1, K => getK xs n K
def setK : Fr → Nat → Value → (Fr → Prop) → Prop
  | [], _, _, k => k []
  | _ :: xs, 0, v, k => k (v :: xs)
  | x :: xs, n+1, v, k => setK xs n v (fun ys => k (x :: ys))
def evK (fr : Fr) (o : Operand) (K : Value → Prop) : Prop :=
  match o with
  | .tmp t => getK fr t K
  | .const v => K v
  | .global g => K (.pointer (some ⟨g,0,none⟩))
  | .func f => K (.func (.func f) #[] #[])
def evsK (fr : Fr) : List Operand → (List Value → Prop) → Prop
  | [], K => K []
  | o :: os, K => evK fr o fun v => evsK fr os fun vs => K (v :: vs)
def putK (fr : Fr) (d : Option Nat) (v : Value) (K : Fr → Prop) : Prop :=
  match d with
  | none => K fr
  | some d => setK fr d v K
def appK : List Value → List Value → (List Value → Prop) → Prop
  | [], ys, K => K ys
  | x :: xs, ys, K => appK xs ys fun zs => K (x :: zs)
def lkOp : List Oper → Nat → Option Oper
  | [], _ => none
  | o :: _, 0 => some o
  | _ :: os, n+1 => lkOp os n
def brK (b : Bool) (A B : Prop) : Prop := match b with | true => A | false => B

def evL (fr : Fr) : Operand → Value
  | .tmp t => fr.getD t undef
  | .const v => v
  | .global g => .pointer (some ⟨g, 0, none⟩)
  | .func f => .func (.func f) #[] #[]
def putL (fr : Fr) (d : Option Nat) (v : Value) : Fr := match d with | none => fr | some d => fr.set d v

theorem getK_ok {K : Value → Prop} : ∀ {fr : Fr} {n : Nat}, getK fr n K → K (fr.getD n undef)
  | [], _, h => h
  | _ :: _, 0, h => h
  | _ :: xs, n+1, h => getK_ok (fr := xs) (n := n) h
theorem setK_ok {v : Value} : ∀ {fr : Fr} {n : Nat} {K : Fr → Prop}, setK fr n v K → K (fr.set n v)
  | [], _, _, h => h
  | _ :: _, 0, _, h => h
  | _ :: xs, n+1, _, h => setK_ok (fr := xs) (n := n) h
theorem evK_ok {fr : Fr} {o : Operand} {K : Value → Prop} (h : evK fr o K) : K (evL fr o) := by
  cases o <;> first | exact getK_ok h | exact h
theorem evsK_ok {fr : Fr} : ∀ {os : List Operand} {K : List Value → Prop}, evsK fr os K → K (os.map (evL fr))
  | [], _, h => h
  | o :: os, K, h => by
    have h1 : evsK fr os fun vs => K (evL fr o :: vs) := evK_ok (K := fun v => evsK fr os fun vs => K (v :: vs)) h
    exact evsK_ok (K := fun vs => K (evL fr o :: vs)) h1
theorem putK_ok {fr : Fr} {d : Option Nat} {v : Value} {K : Fr → Prop} (h : putK fr d v K) : K (putL fr d v) := by
  cases d with
  | none => exact h
  | some d => exact setK_ok h
theorem appK_ok : ∀ {xs ys : List Value} {K : List Value → Prop}, appK xs ys K → K (xs ++ ys)
  | [], _, _, h => h
  | _ :: xs, _, _, h => appK_ok (xs := xs) h
theorem appK_i : ∀ {xs ys : List Value} {K : List Value → Prop}, K (xs ++ ys) → appK xs ys K
  | [], _, _, h => h
  | _ :: xs, _, _, h => appK_i (xs := xs) h
theorem lkOp_ok : ∀ {l : List Oper} {n : Nat}, lkOp l n = l[n]?
  | [], _ => rfl
  | _ :: _, 0 => rfl
  | _ :: os, n+1 => by simpa [lkOp] using lkOp_ok (l := os) (n := n)
theorem brK_ok {b : Bool} {A B C : Prop} (h : brK b A B) (h1 : b = true → A → C) (h2 : b = false → B → C) : C := by
  cases b
  · exact h2 rfl h
  · exact h1 rfl h
theorem br_i {b : Bool} {A B : Prop} (h1 : b = true → A) (h2 : b = false → B) : brK b A B := by cases b; exact h2 rfl; exact h1 rfl

theorem eval_eq (fr : Fr) (ds : List Deferred) : (Act.mk fr.toArray ds).eval = evL fr := by
  funext x
  cases x <;> simp [Act.eval, evL]
theorem put_eq (fr : Fr) (ds : List Deferred) (d : Option Nat) (v : Value) : (Act.mk fr.toArray ds).put d v = Act.mk (putL fr d v).toArray ds := by
  cases d <;> simp [Act.put, putL]

def SemW (P : Program) {α : Type} (s : Sem α) (w : World) (K : α → World → Prop) : Prop :=
  match s.run P w with
  | .ok a w' => K a w'
  | .halt _ _ => False

section sem
variable {P : Program} {α β : Type} {w : World}
theorem SemW.of_run {s : Sem α} {K : α → World → Prop} {a : α} {w' : World} (h : s.run P w = .ok a w') (k : K a w') : SemW P s w K := by
  unfold SemW; rw [h]; exact k
theorem SemW.run {s : Sem α} {K : α → World → Prop} (h : SemW P s w K) : ∃ a w', s.run P w = .ok a w' ∧ K a w' := by
  unfold SemW at h
  cases hr : s.run P w with
  | ok a w' => rw [hr] at h; exact ⟨a, w', rfl, h⟩
  | halt x w' => rw [hr] at h; exact h.elim
theorem SemW.bind {s : Sem α} {f : α → Sem β} {K : β → World → Prop} (h : SemW P s w fun a w' => SemW P (f a) w' K) : SemW P (s >>= f) w K := by
  obtain ⟨a, w', hr, h⟩ := h.run
  unfold SemW at h ⊢
  rw [Sem.run_bind, hr]
  exact h
theorem SemW.mono {s : Sem α} {K K' : α → World → Prop} (h : SemW P s w K) (hk : ∀ a w', K a w' → K' a w') : SemW P s w K' := by
  obtain ⟨a, w', hr, h⟩ := h.run
  exact .of_run hr (hk _ _ h)
theorem SemW.pure {a : α} {K : α → World → Prop} (h : K a w) : SemW P (Pure.pure a) w K := h
theorem SemW.program {K : Program → World → Prop} (h : K P w) : SemW P Go.program w K := h
end sem

def NextW (P : Program) (K : Value → World → Prop) : Next → World → Prop
  | .value v, w => K v w
  | .skip, w => K undef w
  | .enter f args, w => Calls P f args w fun e w' => ∃ v, e = .returned v ∧ K v w'
  | .round l f tmps asg body, w => RoundIn Fence.wide 0 P l f tmps asg body w fun e w' => ∃ v, e = .returned v ∧ K v w'
  | _, _ => False

theorem NextW.mono {P : Program} {K K' : Value → World → Prop} {n : Next} {w : World} (h : NextW P K n w) (hk : ∀ v w', K v w' → K' v w') : NextW P K' n w := by
  cases n <;> simp only [NextW] at h ⊢ <;> first
    | exact hk _ _ h
    | exact h.mono fun e w' ⟨v, he, hv⟩ => ⟨v, he, hk _ _ hv⟩

def FR (r : Option Nat) : Fence := { Fence.wide with round := r }

theorem FR_calls {P : Program} {f : FuncId} {args : Array Value} {w : World} {R : Ending → World → Prop} (r : Option Nat) (n : Nat) (h : Calls P f args w R) : CallsIn (FR r) n P f args w R := by
  cases r with
  | none => exact callsIn_wide.2 h
  | some l => exact CallsIn.inRound l (callsIn_wide.2 h)
theorem FR_round {P : Program} {l : Nat} {f : FuncId} {tmps : Array Value} {asg body : Code} {w : World} {R : Ending → World → Prop} (r : Option Nat) (n m : Nat) (h : RoundIn Fence.wide m P l f tmps asg body w R) : RoundIn (FR r) n P l f tmps asg body w R :=
  ⟨trivial, fun c cs _ => h.2 c cs (room_wide _)⟩
theorem FR_depth (r : Option Nat) : (FR r).depth = none := rfl

/-- One operation, from what it comes to. -/
theorem wpIn_of_semW {P : Program} {o : Oper} {fr : Fr} {ds : List Deferred} {w : World} {next : Act → World → Prop} {Q : Exit → Act → World → Prop} (r : Option Nat) (n : Nat)
    (hd : ∀ c, o.op ≠ .defer c) (h : SemW P (execOp (evL fr) o) w (NextW P fun v w' => next ⟨(putL fr o.dst v).toArray, ds⟩ w')) :
    o.wpIn (FR r) n P ⟨fr.toArray, ds⟩ w next Q := by
  refine ⟨fun f _ => trivial, ?_⟩
  rw [eval_eq, Oper.semAt_eq _ _ _ hd]
  obtain ⟨x, w', hr, hx⟩ := h.run
  rw [hr]
  cases x <;> simp only [NextW] at hx <;> simp only [Oper.uponIn] <;> first
    | (rw [put_eq]; exact hx)
    | exact ⟨by simp [FR_depth], FR_calls r _ (hx.mono fun e w'' ⟨v, he, hv⟩ => by subst he; simp only [put_eq]; exact hv)⟩
    | exact ⟨by simp [FR_depth], FR_round r _ _ (hx.mono fun e w'' ⟨v, he, hv⟩ => by subst he; simp only [put_eq]; exact hv)⟩

structure Ld (w : World) (a : Addr) (K : Value → Prop) : Prop where
  out : ∃ v, w.cell? a = some v ∧ K v
structure LdN (w : World) (a : Addr) (n : Nat) (K : List Value → Prop) : Prop where
  out : ∃ vs : List Value, vs.length = n ∧ (∀ i, i < n → w.cell? (a.add i) = vs[i]?) ∧ K vs
structure StN (P : Program) (w : World) (a : Addr) (vs : List Value) (K : World → Prop) : Prop where
  out : SemW P (storeCells a vs) w fun _ w' => K w'
structure Nw (w : World) (o : Obj) (K : Nat → World → Prop) : Prop where
  out : K w.heap.size { w with heap := w.heap.push o }
structure SemN (P : Program) {α : Type} (s : Sem α) (w : World) (K : α → World → Prop) : Prop where
  out : SemW P s w K
structure Bd (p K : Prop) : Prop where
  intro ::
  out : p ∧ K
structure Fc (P : Program) (f : FuncId) (args : List Value) (w : World) (K : Value → World → Prop) : Prop where
  out : SemW P (callFunc f args.toArray) w (NextW P K)
structure Cv (P : Program) (v : Value) (args : List Value) (w : World) (K : Value → World → Prop) : Prop where
  out : SemW P (do let d ← Deferred.ofValue v args.toArray; invoke d.target d.args) w (NextW P K)

theorem Bd.mk {p K : Prop} (h : p) (k : K) : Bd p K := ⟨⟨h, k⟩⟩
theorem ld_i {w : World} {a : Addr} {K : Value → Prop} (v : Value) (h : w.cell? a = some v) (k : K v) : Ld w a K := by refine ⟨?_⟩; exact ⟨v, h, k⟩
theorem ldN_i {w : World} {a : Addr} {n : Nat} {K : List Value → Prop} (vs : List Value) (hl : vs.length = n) (h : ∀ i, i < n → w.cell? (a.add i) = vs[i]?) (k : K vs) : LdN w a n K := by
  refine ⟨?_⟩; exact ⟨vs, hl, h, k⟩
theorem Fc.mono {P : Program} {f : FuncId} {args : List Value} {w : World} {K K' : Value → World → Prop} (h : Fc P f args w K) (hk : ∀ v w', K v w' → K' v w') : Fc P f args w K' := by
  replace h := h.out
  refine ⟨?_⟩
  exact h.mono fun n w' hn => hn.mono hk
theorem Cv.mono {P : Program} {c : Value} {args : List Value} {w : World} {K K' : Value → World → Prop} (h : Cv P c args w K) (hk : ∀ v w', K v w' → K' v w') : Cv P c args w K' := by
  replace h := h.out
  refine ⟨?_⟩
  exact h.mono fun n w' hn => hn.mono hk
theorem Cv.of_fc {P : Program} {f : FuncId} {first cap : Array Value} {args : List Value} {w : World} {K : Value → World → Prop} (h : Fc P f (first.toList ++ (args ++ cap.toList)) w K) : Cv P (.func (.func f) first cap) args w K := by
  replace h := h.out
  refine ⟨?_⟩
  have e : (first.toList ++ (args ++ cap.toList)).toArray = first ++ args.toArray ++ cap := by
    apply Array.ext'
    simp
  rw [e] at h
  exact h
theorem Cv.to_fc {P : Program} {f : FuncId} {first cap : Array Value} {args : List Value} {w : World} {K : Value → World → Prop} (h : Cv P (.func (.func f) first cap) args w K) : Fc P f (first.toList ++ (args ++ cap.toList)) w K := by
  replace h := h.out
  refine ⟨?_⟩
  have e : (first.toList ++ (args ++ cap.toList)).toArray = first ++ args.toArray ++ cap := by
    apply Array.ext'
    simp
  rw [e]
  exact h

def TabOk (P : Program) (T : Tab) : Prop := ∀ t i, T t = some i → P.info? t = some i
def und (T : Tab) (t : Nat) : Option TypeDesc :=
  match T t with
  | none => none
  | some i => match i.desc with
    | .named _ u => match T u with
      | none => none
      | some j => some j.desc
    | d => some d
def tsz (T : Tab) (t : Nat) : Option Nat :=
  match T t with
  | none => none
  | some i => some i.size
def tzero (T : Tab) (t : Nat) : Option Value :=
  match T t with
  | none => none
  | some i => i.zero

section tab
variable {P : Program} {T : Tab} (hT : TabOk P T)
include hT
theorem und_ok {t : Nat} {d : TypeDesc} (h : und T t = some d) : P.underlying t = some d := by
  unfold und at h
  cases hi : T t with
  | none => rw [hi] at h; cases h
  | some i =>
    rw [hi] at h
    have h1 := hT t i hi
    unfold Program.underlying
    rw [h1]
    cases hd : i.desc with
    | named n u =>
      simp only [hd] at h
      obtain ⟨d0, _⟩ := i
      simp only at hd
      subst hd
      cases hj : T u with
      | none => rw [hj] at h; cases h
      | some j => rw [hj] at h; cases h; simp [hT u j hj]
    | _ =>
      simp only [hd] at h
      obtain ⟨d0, _⟩ := i
      simp only at hd
      subst hd
      exact h
theorem run_underlying_ok {t : Nat} {d : TypeDesc} (h : und T t = some d) (w : World) : (underlying t).run P w = .ok d w := by
  simp [underlying, Go.program, Sem.run, und_ok hT h, bind, Sem.bind]
theorem run_sizeOf_ok {t : Nat} {n : Nat} (h : tsz T t = some n) (w : World) : (sizeOf t).run P w = .ok n w := by
  unfold tsz at h
  cases hi : T t with
  | none => rw [hi] at h; cases h
  | some i =>
    rw [hi] at h
    cases h
    simp [sizeOf, typeInfo, Go.program, Sem.run, hT t i hi, bind, Sem.bind, pure]
theorem run_zero_ok {t : Nat} {v : Value} (h : tzero T t = some v) (w : World) : (zeroValue t).run P w = .ok v w := by
  unfold tzero at h
  cases hi : T t with
  | none => rw [hi] at h; cases h
  | some i =>
    rw [hi] at h
    simp [zeroValue, typeInfo, Go.program, Sem.run, hT t i hi, bind, Sem.bind, pure]
    simp only at h
    rw [h]
    rfl
end tab

end Go.RV


set_option linter.unusedVariables false
set_option linter.unusedSimpArgs false
namespace Go.RV
open Go

/-- numbers -/
def bAnd (k : IntKind) (m n : Int) : Int := k.wrap ((BitVec.ofInt k.bits m &&& BitVec.ofInt k.bits n).toNat : Int)
def bOr (k : IntKind) (m n : Int) : Int := k.wrap ((BitVec.ofInt k.bits m ||| BitVec.ofInt k.bits n).toNat : Int)
def bXor (k : IntKind) (m n : Int) : Int := k.wrap ((BitVec.ofInt k.bits m ^^^ BitVec.ofInt k.bits n).toNat : Int)
def bAndNot (k : IntKind) (m n : Int) : Int := k.wrap ((BitVec.ofInt k.bits m &&& ~~~ BitVec.ofInt k.bits n).toNat : Int)
def bShl (k : IntKind) (m n : Int) : Int := k.wrap (m * 2 ^ (min n.toNat k.bits))
def bShr (k : IntKind) (m n : Int) : Int := m.fdiv (2 ^ (min n.toNat k.bits))
def keq (a b : IntKind) : Bool := decide (a = b)
theorem keq_ok {a b : IntKind} (h : keq a b = true) : a = b := by simpa [keq] using h
def byteAt (s : ByteArray) (i : Nat) : Int := ((s.data.toList.getD i 0).toNat : Int)
def streq (a b : ByteArray) : Bool := a.toList == b.toList

def arK (op : BinOp) (k : IntKind) (m n : Int) (K : Value → Prop) : Prop :=
  match op with
  | .add => K (.int k (k.wrap (m + n)))
  | .sub => K (.int k (k.wrap (m - n)))
  | .mul => K (.int k (k.wrap (m * n)))
  | .quo => Bd (n ≠ 0) (K (.int k (k.wrap (m.tdiv n))))
  | .rem => Bd (n ≠ 0) (K (.int k (m.tmod n)))
  | .and => K (.int k (bAnd k m n))
  | .or => K (.int k (bOr k m n))
  | .xor => K (.int k (bXor k m n))
  | .andNot => K (.int k (bAndNot k m n))
  | .eql => K (.bool (m == n))
  | .neq => K (.bool (m != n))
  | .lss => K (.bool (decide (m < n)))
  | .leq => K (.bool (decide (m ≤ n)))
  | .gtr => K (.bool (decide (n < m)))
  | .geq => K (.bool (decide (n ≤ m)))
  | .shl => Bd (0 ≤ n) (K (.int k (bShl k m n)))
  | .shr => Bd (0 ≤ n) (K (.int k (bShr k m n)))

def isShift : BinOp → Bool
  | .shl | .shr => true
  | _ => false

def strK (op : BinOp) (s t : ByteArray) (K : Value → Prop) : Prop :=
  match op with
  | .add => Bd (s.size + t.size ≤ 9223372036854775807) (K (.string (s ++ t)))
  | .eql => K (.bool (streq s t))
  | .neq => K (.bool (!streq s t))
  | .lss => K (.bool (Op.bytesLess s.toList t.toList))
  | .geq => K (.bool (!Op.bytesLess s.toList t.toList))
  | _ => Stk "a string operation"

theorem arK_ok {P : Program} {op : BinOp} {xt : Nat} {k k' : IntKind} {m n : Int} {w : World} {K : Value → World → Prop} (hk : isShift op = true ∨ k = k')
    (h : arK op k m n fun v => K v w) : SemW P (binOp op xt (.int k m) (.int k' n)) w K := by
  cases op <;> simp only [arK] at h <;> (try have hk : k = k' := by simpa [isShift] using hk) <;> (try subst hk) <;> (try simp only [binOp, ne_eq, not_true_eq_false, if_false, Op.intArith, Op.intCmp, Op.intBits, Op.intDiv, Op.shift])
  all_goals first
    | exact h
    | (obtain ⟨hn, h⟩ := h.out; simp only [hn, if_false]; exact h)
    | (obtain ⟨hn, h⟩ := h.out; simp only [show ¬ n < 0 by omega, if_false]; exact h)
theorem strK_ok {P : Program} {op : BinOp} {xt : Nat} {s t : ByteArray} {w : World} {K : Value → World → Prop}
    (h : strK op s t fun v => K v w) : SemW P (binOp op xt (.string s) (.string t)) w K := by
  cases op <;> simp only [strK] at h <;> first
    | exact h.elim
    | (simp only [binOp, Op.stringOp]; first | exact h | skip)
  obtain ⟨hn, h⟩ := h.out
  rw [if_neg (by simp only [IntKind.max, IntKind.bits]; simp [IntKind.signed]; omega)]
  exact h

/-- '==' where it is asked of what is no number and no string -/
def eqK (T : Tab) (xt : Nat) (cx : Bool) (a b : Value) (K : Bool → Prop) (E : Prop) : Prop :=
  match a, b with
  | .bool x, .bool y => match und T xt with | some .bool => K (x == y) | _ => Stk "=="
  | .pointer none, .pointer y => match und T xt with | some (.pointer _) => K y.isNone | _ => Stk "=="
  | .pointer (some _), .pointer none => match und T xt with | some (.pointer _) => K false | _ => Stk "=="
  | .nilIface, .nilIface => match cx with
    | true => (match und T xt with | some (.interface _) => K true | _ => Stk "==")
    | false => Stk "=="
  | .nilIface, .iface _ _ => match und T xt with | some (.interface _) => K false | _ => Stk "=="
  | .iface _ _, .nilIface => match und T xt with | some (.interface _) => K false | _ => Stk "=="
  | .slice none _ _, .slice y _ _ => match und T xt with | some (.slice _) => K y.isNone | _ => Stk "=="
  | .slice (some _) _ _, .slice none _ _ => match und T xt with | some (.slice _) => K false | _ => Stk "=="
  | .nilFunc, .nilFunc => match und T xt with | some (.func _ _ _) => K true | _ => Stk "=="
  | .func _ _ _, .nilFunc => match und T xt with | some (.func _ _ _) => K false | _ => Stk "=="
  | .nilFunc, .func _ _ _ => match und T xt with | some (.func _ _ _) => K false | _ => Stk "=="
  | _, _ => E

def isConstO : Operand → Bool
  | .const _ => true
  | _ => false

def binK (T : Tab) (P : Program) (op : BinOp) (xt : Nat) (x y : Operand) (a b : Value) (w : World) (K : Value → World → Prop) : Prop :=
  match a, b with
  | .int k m, .int k' n => match isShift op with
    | true => arK op k m n fun v => K v w
    | false => match keq k k' with
      | true => arK op k m n fun v => K v w
      | false => Stk "kinds"
  | .string s, .string t => strK op s t fun v => K v w
  | a, b => match op with
    | .eql => eqK T xt (isConstO x || isConstO y) a b (fun r => K (.bool r) w) (SemN P (do eqGuard .eql xt x y a b; binOp .eql xt a b) w K)
    | .neq => eqK T xt (isConstO x || isConstO y) a b (fun r => K (.bool (!r)) w) (SemN P (do eqGuard .neq xt x y a b; binOp .neq xt a b) w K)
    | op => SemN P (do eqGuard op xt x y a b; binOp op xt a b) w K

theorem run_equalIn_of {P : Program} {T : Tab} (hT : TabOk P T) {xt : Nat} {cx : Bool} {a b : Value} {w : World} {K : Bool → Prop} {E : Prop} (d : Nat) (h : eqK T xt cx a b K E) :
    E ∨ ∃ r, K r ∧ (Op.equalIn (d + 1) xt a b).run P w = .ok r w := by
  unfold eqK at h
  split at h <;> (try (exact .inl h)) <;> right
  all_goals first
    | (split at h <;> first | (exact h.elim) | (rename_i hu; refine ⟨_, h, ?_⟩; have hu' := run_underlying_ok hT hu w; simp only [Op.equalIn, Sem.run_bind, hu', Result.andThen_ok]; rfl))
    | (split at h
       · split at h
         · rename_i hu
           refine ⟨_, h, ?_⟩
           have hu' := run_underlying_ok hT hu w
           simp only [Op.equalIn, Sem.run_bind, hu', Result.andThen_ok]
           rfl
         · exact h.elim
       · exact h.elim)
theorem run_eqGuard_of {P : Program} {T : Tab} {xt : Nat} {x y : Operand} {a b : Value} {w : World} {K : Bool → Prop} {E : Prop} (op : BinOp) (h : eqK T xt (isConstO x || isConstO y) a b K E) :
    E ∨ (eqGuard op xt x y a b).run P w = .ok () w := by
  unfold eqK at h
  split at h <;> (try (exact .inl h)) <;> right
  all_goals first
    | (cases op <;> rfl)
    | skip
  split at h
  · rename_i hc
    cases x <;> cases y <;> simp only [isConstO, Bool.or_false, Bool.false_or, Bool.or_true, Bool.true_or, Bool.false_eq_true] at hc <;> cases op <;> rfl
  · exact h.elim
theorem run_equal_of {P : Program} {T : Tab} (hT : TabOk P T) {xt : Nat} {cx : Bool} {a b : Value} {w : World} {K : Bool → Prop} {E : Prop} (h : eqK T xt cx a b K E) :
    E ∨ ∃ r, K r ∧ (Op.equal xt a b).run P w = .ok r w := run_equalIn_of hT 9999 h
theorem run_bin_of {P : Program} {T : Tab} (hT : TabOk P T) {xt : Nat} {cx : Bool} {a b : Value} {w : World} {K : Bool → Prop} {E : Prop} (h : eqK T xt cx a b K E) :
    E ∨ ∃ r, K r ∧ (binOp .eql xt a b).run P w = .ok (.bool r) w ∧ (binOp .neq xt a b).run P w = .ok (.bool (!r)) w := by
  have h' := run_equal_of hT (w := w) h
  unfold eqK at h
  split at h <;> (try (exact .inl h)) <;> rcases h' with h' | ⟨r, hk, hr⟩ <;> first | exact .inl h' | exact .inr ⟨r, hk, by simp only [binOp, Sem.run_bind, hr, Result.andThen_ok]; rfl, by simp only [binOp, Sem.run_bind, hr, Result.andThen_ok]; rfl⟩

theorem binK_ok {P : Program} {T : Tab} (hT : TabOk P T) {op : BinOp} {xt : Nat} {x y : Operand} {a b : Value} {w : World} {K : Value → World → Prop}
    (h : binK T P op xt x y a b w K) : SemW P (do eqGuard op xt x y a b; binOp op xt a b) w K := by
  unfold binK at h
  split at h
  · rename_i k m k' n
    have hg : (eqGuard op xt x y (.int k m) (.int k' n)).run P w = .ok () w := by cases op <;> rfl
    refine SemW.bind (.of_run hg ?_)
    split at h
    · rename_i hs
      exact arK_ok (.inl hs) h
    · split at h
      · rename_i hk
        exact arK_ok (.inr (keq_ok hk)) h
      · exact h.elim
  · rename_i s t
    have hg : (eqGuard op xt x y (.string s) (.string t)).run P w = .ok () w := by cases op <;> rfl
    exact SemW.bind (.of_run hg (strK_ok h))
  · split at h
    · rcases run_bin_of hT (w := w) h with h1 | ⟨r, hk, hr, _⟩
      · replace h1 := h1.out; exact h1
      · rcases run_eqGuard_of (P := P) (w := w) .eql h with h1 | hg
        · replace h1 := h1.out; exact h1
        · exact SemW.bind (.of_run hg (.of_run hr hk))
    · rcases run_bin_of hT (w := w) h with h1 | ⟨r, hk, _, hr⟩
      · replace h1 := h1.out; exact h1
      · rcases run_eqGuard_of (P := P) (w := w) .neq h with h1 | hg
        · replace h1 := h1.out; exact h1
        · exact SemW.bind (.of_run hg (.of_run hr hk))
    · replace h := h.out; exact h

end Go.RV


set_option linter.unusedVariables false
set_option linter.unusedSimpArgs false
namespace Go.RV
open Go

/-- lists, forced -/
def lenK : List Value → Nat → Prop → Prop
  | [], 0, K => K
  | _ :: xs, n+1, K => lenK xs n K
  | _, _, _ => Stk "length"
def setsK : List Value → Nat → List Value → (List Value → Prop) → Prop
  | cells, _, [], K => K cells
  | cells, off, v :: vs, K => setK cells off v fun cells => setsK cells (off+1) vs K
def setsL : List Value → Nat → List Value → List Value
  | cells, _, [] => cells
  | cells, off, v :: vs => setsL (cells.set off v) (off+1) vs
def lkF : List Field → Nat → Option Field
  | [], _ => none
  | f :: _, 0 => some f
  | _ :: fs, n+1 => lkF fs n
def vcK (v : Value) (K : List Value → Prop) : Prop :=
  match v with
  | .agg cs => K cs.toList
  | v => K [v]
def leK : Nat → Nat → Prop → Prop   -- the first is at most the second
  | 0, _, K => K
  | n+1, m+1, K => leK n m K
  | _+1, 0, _ => Stk "size"
def repK : Nat → List Value → (List Value → Prop) → Prop
  | 0, _, K => K []
  | n+1, zs, K => repK n zs fun ys => appK zs ys K
def bldK (place : Nat → Option (Nat × Nat)) : List (Nat × Value) → List Value → (List Value → Prop) → Prop
  | [], cells, K => K cells
  | (i, v) :: rest, cells, K => match place i with
    | some (off, n) => vcK v fun cs => lenK cs n (leK (off + n) cells.length (setsK cells off cs fun cells => bldK place rest cells K))
    | none => Stk "no such part"
def lkP : List (Nat × Nat) → Nat → Option (Nat × Nat)
  | [], _ => none
  | f :: _, 0 => some f
  | _ :: fs, n+1 => lkP fs n
def placesK (T : Tab) : List Field → (List (Nat × Nat) → Prop) → Prop
  | [], K => K []
  | f :: fs, K => match tsz T f.type with
    | some n => placesK T fs fun ps => K ((f.offset, n) :: ps)
    | none => Stk "size"
def partsK (fr : Fr) : List (Nat × Operand) → (List (Nat × Value) → Prop) → Prop
  | [], K => K []
  | (i, o) :: os, K => evK fr o fun v => partsK fr os fun vs => K ((i, v) :: vs)

theorem lenK_ok {K : Prop} : ∀ {l : List Value} {n : Nat}, lenK l n K → l.length = n ∧ K
  | [], 0, h => ⟨rfl, h⟩
  | _ :: xs, n+1, h => by have := lenK_ok (l := xs) (n := n) h; exact ⟨by simp [this.1], this.2⟩
  | [], n+1, h => by unfold lenK at h; exact h.elim
  | _ :: _, 0, h => by unfold lenK at h; exact h.elim
theorem leK_ok {K : Prop} : ∀ {n m : Nat}, leK n m K → n ≤ m ∧ K
  | 0, _, h => ⟨Nat.zero_le _, by simpa [leK] using h⟩
  | n+1, m+1, h => by have := leK_ok (n := n) (m := m) h; exact ⟨by omega, this.2⟩
  | _+1, 0, h => by unfold leK at h; exact h.elim
theorem setK_i {v : Value} : ∀ {fr : Fr} {n : Nat} {K : Fr → Prop}, K (fr.set n v) → setK fr n v K
  | [], _, _, h => h
  | _ :: _, 0, _, h => h
  | _ :: xs, n+1, _, h => setK_i (fr := xs) (n := n) h
theorem setsK_ok {K : List Value → Prop} : ∀ {vs cells : List Value} {off : Nat}, setsK cells off vs K → K (setsL cells off vs)
  | [], _, _, h => by simpa [setsK, setsL] using h
  | v :: vs, cells, off, h => by
    have h1 : setsK (cells.set off v) (off+1) vs K := setK_ok (K := fun cells => setsK cells (off+1) vs K) (by simpa [setsK] using h)
    exact setsK_ok (vs := vs) (K := K) h1
theorem setsK_i {K : List Value → Prop} : ∀ {vs cells : List Value} {off : Nat}, K (setsL cells off vs) → setsK cells off vs K
  | [], _, _, h => by simpa [setsK, setsL] using h
  | v :: vs, cells, off, h => by
    simp only [setsK]
    exact setK_i (setsK_i h)
theorem lkF_ok : ∀ {l : List Field} {n : Nat}, lkF l n = l[n]?
  | [], _ => rfl
  | _ :: _, 0 => rfl
  | _ :: os, n+1 => by simpa [lkF] using lkF_ok (l := os) (n := n)
theorem lkP_ok : ∀ {l : List (Nat × Nat)} {n : Nat}, lkP l n = l[n]?
  | [], _ => rfl
  | _ :: _, 0 => rfl
  | _ :: os, n+1 => by simpa [lkP] using lkP_ok (l := os) (n := n)
theorem placesK_ok {P : Program} {T : Tab} (hT : TabOk P T) (w : World) : ∀ {fs : List Field} {K : List (Nat × Nat) → Prop}, placesK T fs K →
    ∃ ps, (fs.mapM (fun f : Field => do pure (f.offset, ← sizeOf f.type)) : Sem (List (Nat × Nat))).run P w = .ok ps w ∧ K ps
  | [], K, h => ⟨[], rfl, h⟩
  | f :: fs, K, h => by
    unfold placesK at h
    split at h
    · rename_i n hn
      obtain ⟨ps, hr, hk⟩ := placesK_ok hT w h
      refine ⟨(f.offset, n) :: ps, ?_, hk⟩
      simp only [List.mapM_cons, Sem.run_bind, run_sizeOf_ok hT hn, Result.andThen_ok, Sem.run_pure, hr]
    · exact h.elim
theorem vcK_ok {v : Value} {K : List Value → Prop} (h : vcK v K) : K v.cells.toList := by
  cases v <;> exact h
theorem repK_ok {zs : List Value} : ∀ {n : Nat} {K : List Value → Prop}, repK n zs K → K (List.replicate n zs).flatten
  | 0, _, h => by simpa [repK] using h
  | n+1, K, h => by
    have h1 := repK_ok (n := n) (K := fun ys => appK zs ys K) h
    have h2 := appK_ok h1
    simpa [List.replicate_succ] using h2
theorem foldl_sets (vs : List Value) : ∀ (k off : Nat) (cells : List Value),
    (vs.zipIdx k).foldl (fun (cs : Array Value) (x : Value × Nat) => cs.setIfInBounds (off + x.2) x.1) cells.toArray = (setsL cells (off + k) vs).toArray := by
  induction vs with
  | nil => intro k off cells; rfl
  | cons v vs ih =>
    intro k off cells
    simp only [List.zipIdx_cons, List.foldl_cons, List.setIfInBounds_toArray, setsL]
    rw [ih (k+1) off (cells.set (off + k) v)]
    rfl
theorem fill_ok {place : Nat → Option (Nat × Nat)} : ∀ {parts : List (Nat × Value)} {cells : List Value} {K : List Value → Prop}, bldK place parts cells K →
    ∃ out, Instr.fill place cells.toArray parts = some out.toArray ∧ K out
  | [], cells, K, h => ⟨cells, rfl, h⟩
  | (i, v) :: rest, cells, K, h => by
    unfold bldK at h
    cases hp : place i with
    | none => rw [hp] at h; exact h.elim
    | some x =>
      obtain ⟨off, n⟩ := x
      rw [hp] at h
      have h1 := vcK_ok h
      obtain ⟨hl, h2⟩ := lenK_ok h1
      obtain ⟨hle, h3⟩ := leK_ok h2
      have h4 := setsK_ok h3
      obtain ⟨out, ho, hk⟩ := fill_ok h4
      refine ⟨out, ?_, hk⟩
      unfold Instr.fill
      rw [hp]
      have hs : v.cells.size = n := by simpa using hl
      have hc : ¬ (v.cells.size ≠ n || decide (off + v.cells.size > cells.toArray.size)) = true := by
        simp only [hs, ne_eq, not_true_eq_false, decide_false, Bool.false_or, List.size_toArray, gt_iff_lt, decide_eq_true_eq]
        omega
      simp only [hc, if_false]
      have hf := foldl_sets v.cells.toList 0 off cells
      rw [← ho]
      congr 1
      rw [← Array.foldl_toList, Array.toList_zipIdx]
      have hf' : List.foldl (fun (cs : Array Value) (x : Value × Nat) => cs.setIfInBounds (off + x.2) x.1) cells.toArray v.cells.toList.zipIdx = (setsL cells off v.cells.toList).toArray := by simpa using hf
      exact congrArg (fun z => Instr.fill place z rest) hf'
theorem partsK_ok {fr : Fr} : ∀ {ps : List (Nat × Operand)} {K : List (Nat × Value) → Prop}, partsK fr ps K → K (ps.map fun (i, o) => (i, evL fr o))
  | [], _, h => h
  | (i, o) :: os, K, h => by
    have h1 : partsK fr os fun vs => K ((i, evL fr o) :: vs) := evK_ok (K := fun v => partsK fr os fun vs => K ((i, v) :: vs)) h
    exact partsK_ok (K := fun vs => K ((i, evL fr o) :: vs)) h1

end Go.RV


set_option linter.unusedVariables false
set_option linter.unusedSimpArgs false
namespace Go.RV
open Go

structure Ix (a : Option Addr) (K : Nat → Nat → Prop) : Prop where
  out : ∃ b off, a = some ⟨b, off, none⟩ ∧ K b off

/-- the address of a part of a slice -/
def sliA (a : Option Addr) (m l size : Nat) : Option Addr := if m = l then a else a.map (·.add (l * size))

theorem add_none (b off n : Nat) : (⟨b, off, none⟩ : Addr).add n = ⟨b, off + n, none⟩ := by
  unfold Addr.add
  split
  · rename_i h; subst h; rfl
  · rfl
theorem sliA_zero (a : Option Addr) (m n : Nat) : sliA a m 0 n = a := by
  unfold sliA
  split
  · rfl
  · cases a <;> simp [Addr.add]

/-- a bound of a slice expression -/
def bndK (fr : Fr) (x : Option Operand) (d y : Nat) (K : Nat → Prop) : Prop :=
  match x with
  | none => K d
  | some o => evK fr o fun v => match v with
    | .int _ i => Bd (0 ≤ i ∧ i ≤ y) (K i.toNat)
    | _ => Stk "a bound"

def isAggD : TypeDesc → Bool
  | .struct _ | .array _ _ => true
  | _ => false

def loadK (T : Tab) (t : Nat) (a : Addr) (w : World) (K : Value → Prop) : Prop :=
  match und T t with
  | some d => match isAggD d with
    | true => match tsz T t with
      | some n => LdN w a n fun cs => K (.agg cs.toArray)
      | none => Stk "size"
    | false => Ld w a K
  | none => Stk "type"

def fieldK (T : Tab) (f : Field) (cs : List Value) (K : Value → Prop) : Prop :=
  match und T f.type with
  | some d => match isAggD d with
    | true => match tsz T f.type with
      | some n => K (.agg ((cs.drop f.offset).take n).toArray)
      | none => Stk "size"
    | false => match cs[f.offset]? with
      | some v => K v
      | none => Stk "field"
  | none => Stk "type"

def cvK (P : Program) (fv : Value) (args : List Value) (w : World) (K : Value → World → Prop) : Prop :=
  match fv with
  | .func (.func g) first cap => appK args cap.toList fun xs => appK first.toList xs fun ys => Fc P g ys w K
  | fv => Cv P fv args w K
theorem cv_i {P : Program} {fv : Value} {args : List Value} {w : World} {K : Value → World → Prop} (h : Cv P fv args w K) : cvK P fv args w K := by
  unfold cvK
  split
  · exact appK_i (appK_i (Cv.to_fc h))
  · exact h

def callK (T : Tab) (P : Program) (o : Oper) (c : Call) (fr : Fr) (w : World) (K : Value → World → Prop) : Prop :=
  match c.callee with
  | .value f => evK fr f fun fv => evsK fr c.args.toList fun args => cvK P fv args w K
  | .builtin .len => evsK fr c.args.toList fun args => match args with
    | [.string s] => match (c.argTypes[0]?).bind (und T) with
      | some .string => K (.int .i64 s.size) w
      | _ => Stk "len"
    | [.slice _ n _] => match (c.argTypes[0]?).bind (und T) with
      | some (.slice _) => K (.int .i64 n) w
      | _ => Stk "len"
    | args => SemN P (Builtin.len_ c.argTypes o.type args.toArray) w K
  | .builtin .cap => evsK fr c.args.toList fun args => match args with
    | [.slice _ _ n] => match (c.argTypes[0]?).bind (und T) with
      | some (.slice _) => K (.int .i64 n) w
      | _ => Stk "cap"
    | args => SemN P (Builtin.cap_ c.argTypes o.type args.toArray) w K
  | .builtin .max => evsK fr c.args.toList fun args => match args with
    | [.int k a, .int _ b] => K (.int k (max a b)) w
    | args => SemN P (Builtin.max_ c.argTypes o.type args.toArray) w K
  | .builtin .min => evsK fr c.args.toList fun args => match args with
    | [.int k a, .int _ b] => K (.int k (min a b)) w
    | args => SemN P (Builtin.min_ c.argTypes o.type args.toArray) w K
  | .builtin .append => evsK fr c.args.toList fun args => SemN P (Builtin.append_ c.argTypes o.type args.toArray) w K
  | .builtin .copy => evsK fr c.args.toList fun args => SemN P (Builtin.copy_ c.argTypes o.type args.toArray) w K
  | _ => SemN P (execOp (evL fr) o) w (NextW P K)

/-- one operation -/
def xv (T : Tab) (P : Program) (o : Oper) (fr : Fr) (w : World) (K : Value → World → Prop) : Prop :=
  match o.op with
  | .move x => evK fr x fun v => K v w
  | .assign x => evK fr x fun v => K v w
  | .pick c a b => evK fr c fun cv => match cv with
    | .bool t => brK t (evK fr a fun v => K v w) (evK fr b fun v => K v w)
    | _ => Stk "pick"
  | .alloc e => match tzero T e with
    | some z => vcK z fun cs => Nw w (.cells cs.toArray e) fun b w => K (.pointer (some ⟨b, 0, none⟩)) w
    | none => Stk "zero"
  | .box e x => evK fr x fun v => vcK v fun cs => Nw w (.cells cs.toArray e) fun b w => K (.pointer (some ⟨b, 0, none⟩)) w
  | .build t parts => partsK fr parts.toList fun ps => match tzero T t with
    | some z => vcK z fun zs => match und T t with
      | some (.struct fs) => placesK T fs.toList fun pl => bldK (lkP pl) ps zs fun cs => K (.agg cs.toArray) w
      | some (.array _ e) => match tsz T e with
        | some n => bldK (fun i => some (i * n, n)) ps zs fun cs => K (.agg cs.toArray) w
        | none => Stk "size"
      | _ => Stk "build"
    | none => Stk "zero"
  | .buildSlice t len parts => partsK fr parts.toList fun ps => match und T t with
    | some (.slice e) => match tsz T e with
      | some n => match tzero T e with
        | some z => vcK z fun zs => lenK zs n (leK (len * n) 100000 (match n with
          | 0 => Stk "an element without cells"
          | _ => repK len zs fun cs => bldK (fun i => some (i * n, n)) ps cs fun cs => Nw w (.cells cs.toArray e) fun b w => K (.slice (some ⟨b, 0, none⟩) len len) w))
        | none => Stk "zero"
      | none => Stk "size"
    | _ => Stk "slice"
  | .load t a => evK fr a fun av => match av with
    | .pointer (some a) => loadK T t a w fun v => K v w
    | _ => Stk "load: no address"
  | .store t a x => evK fr a fun av => evK fr x fun v => match av with
    | .pointer (some a) => match tsz T t with
      | some n => vcK v fun cs => lenK cs n (StN P w a cs fun w => K undef w)
      | none => Stk "size"
    | _ => Stk "store: no address"
  | .nilCheck x => evK fr x fun v => match v with
    | .pointer (some a) => K (.pointer (some a)) w
    | v => SemN P (execOp (evL fr) o) w (NextW P K)
  | .binOp op xt x y _ => evK fr x fun a => evK fr y fun b => binK T P op xt x y a b w K
  | .unOp op _ x => evK fr x fun v => match op, v with
    | .not, .bool b => K (.bool (!b)) w
    | .neg, .int k n => K (.int k (k.wrap (0 - n))) w
    | op, v => SemN P (Op.unary op v) w K
  | .convert src dst x => evK fr x fun v => match v with
    | .int k n => match und T src, und T dst with
      | some (.int _), some (.int k') => K (.int k' (k'.wrap n)) w
      | _, _ => SemN P (convert src dst v) w K
    | v => SemN P (convert src dst v) w K
  | .makeFunc fn first cap => evsK fr first.toList fun xs => evsK fr cap.toList fun ys => K (.func fn xs.toArray ys.toArray) w
  | .slice t x lo hi mx => evK fr x fun v => match und T t, v with
    | some .string, .string s => match mx with
      | none => bndK fr hi s.size s.size fun h => bndK fr lo 0 h fun l => K (.string (s.extract l h)) w
      | some _ => Stk "slice"
    | some (.slice e), .slice a len cap => match tsz T e with
      | some n => match hi, mx with
        | none, some _ => Stk "slice"
        | _, _ => bndK fr mx cap cap fun m => bndK fr hi len m fun h => match lo with
          | none => K (.slice a h m) w
          | some lo => bndK fr (some lo) 0 h fun l => K (.slice (sliA a m l n) (h - l) (m - l)) w
      | none => Stk "size"
    | _, v => SemN P (execOp (evL fr) o) w (NextW P K)
  | .fieldAddr s x f => evK fr x fun v => match v with
    | .pointer (some ⟨b, off, none⟩) => match und T s with
      | some (.struct fs) => match lkF fs.toList f with
        | some fd => match tsz T fd.type with
          | some (_+1) => match fd.offset with
            | 0 => K (.pointer (some ⟨b, off, none⟩)) w
            | n+1 => K (.pointer (some ⟨b, off + (n+1), none⟩)) w
          | _ => Stk "fieldAddr: size"
        | none => Stk "fieldAddr: field"
      | _ => Stk "fieldAddr: struct"
    | _ => Stk "fieldAddr: no address"
  | .field t x f => evK fr x fun v => match v with
    | .agg cs => match und T t with
      | some (.struct fs) => match lkF fs.toList f with
        | some fd => fieldK T fd cs.toList fun v => K v w
        | none => Stk "field"
      | _ => Stk "field"
    | _ => Stk "field"
  | .indexAddr t x ix => evK fr x fun v => evK fr ix fun iv => match iv with
    | .int _ i => match und T t, v with
      | some (.array len e), .pointer (some ⟨b, off, none⟩) => match tsz T e with
        | some n => Bd (0 ≤ i ∧ i < len) (K (.pointer (some ⟨b, off + i.toNat * n, none⟩)) w)
        | none => Stk "size"
      | some (.slice e), .slice a len cap => match tsz T e with
        | some n => Bd (0 ≤ i ∧ i < len) (Ix a (fun b off => K (.pointer (some ⟨b, off + i.toNat * n, none⟩)) w))
        | none => Stk "size"
      | _, _ => Stk "indexAddr"
    | _ => Stk "index"
  | .index t x ix => evK fr x fun v => evK fr ix fun iv => match iv with
    | .int _ i => match und T t, v with
      | some .string, .string s => Bd (0 ≤ i ∧ i < s.size) (K (.int .u8 (byteAt s i.toNat)) w)
      | _, _ => SemN P (Instr.index t v iv) w K
    | _ => Stk "index"
  | .extract x i => evK fr x fun v => match v with
    | .tuple vs => match vs.toList[i]? with
      | some v => K v w
      | none => Stk "extract"
    | _ => Stk "extract"
  | .call c => callK T P o c fr w K
  | .defer _ => Stk "defer"
  | _ => SemN P (execOp (evL fr) o) w (NextW P K)

section sound
variable {P : Program} {T : Tab} (hT : TabOk P T)

theorem sv {w : World} {s : Sem Value} {K : Value → World → Prop} (h : SemW P s w K) : SemW P (do pure (Next.value (← s))) w (NextW P K) :=
  SemW.bind (h.mono fun a w' h => SemW.pure h)
theorem su {w : World} {s : Sem Unit} {K : Value → World → Prop} (h : SemW P s w fun _ w' => K undef w') : SemW P (do s; pure Next.skip) w (NextW P K) :=
  SemW.bind (h.mono fun a w' h => SemW.pure h)
theorem bndK_ok {fr : Fr} {x : Option Operand} {d y : Nat} {K : Nat → Prop} (h : bndK fr x d y K) :
    match x with | none => K d | some o => ∃ k i, evL fr o = .int k i ∧ 0 ≤ i ∧ i ≤ y ∧ K i.toNat := by
  cases x with
  | none => exact h
  | some o =>
    have h1 := evK_ok h
    simp only at h1 ⊢
    split at h1
    · rename_i k i he
      obtain ⟨⟨h2, h3⟩, h4⟩ := h1.out
      exact ⟨k, i, he, h2, h3, h4⟩
    · exact h1.elim
theorem run_sliceBound {w : World} {k : IntKind} {i : Int} {y : Nat} {c : BoundsCode} (h0 : 0 ≤ i) (h1 : i ≤ y) : (Instr.sliceBound (.int k i) y c).run P w = .ok i.toNat w := by
  simp [Instr.sliceBound, asIntOf, h0, h1]

include hT in
theorem run_isAgg_ok {t : Nat} {d : TypeDesc} (h : und T t = some d) (w : World) : (isAgg t).run P w = .ok (isAggD d) w := by
  unfold isAgg
  rw [Sem.run_bind, run_underlying_ok hT h]
  cases d <;> rfl

theorem run_load_ok {w : World} {a : Addr} {v : Value} (h : w.cell? a = some v) : (load a).run P w = .ok v w := by
  simp [load, Sem.run, h]
theorem run_loadCellsFrom {w : World} {a : Addr} : ∀ (vs : List Value) (i : Nat) (acc : Array Value), (∀ j, j < vs.length → w.cell? (a.add (i + j)) = vs[j]?) →
    (loadCellsFrom a i vs.length acc).run P w = .ok (acc ++ vs.toArray) w
  | [], i, acc, _ => by simp [loadCellsFrom]
  | v :: vs, i, acc, h => by
    have h0 : w.cell? (a.add i) = some v := by simpa using h 0 (by simp)
    have hr := run_loadCellsFrom vs (i+1) (acc.push v) (fun j hj => by have := h (j+1) (by simpa using hj); rw [show i + 1 + j = i + (j + 1) by omega]; simpa using this)
    simp only [List.length_cons, loadCellsFrom, Sem.run_bind, run_load_ok h0, Result.andThen_ok, hr]
    congr 1
    apply Array.ext'
    simp
include hT in
theorem loadK_ok {t : Nat} {a : Addr} {w : World} {K : Value → World → Prop} (h : loadK T t a w fun v => K v w) : SemW P (loadVar t a) w K := by
  unfold loadK at h
  split at h
  · rename_i d hd
    have hA := run_isAgg_ok hT hd w
    split at h
    · rename_i hag
      split at h
      · rename_i n hn
        replace h := h.out
        obtain ⟨vs, hl, hc, hk⟩ := h
        refine .of_run ?_ hk
        unfold loadVar
        rw [Sem.run_bind, hA, hag]
        simp only [Result.andThen_ok, if_true, Sem.run_bind, run_sizeOf_ok hT hn, loadCells]
        rw [← hl, run_loadCellsFrom vs 0 #[] (fun j hj => by rw [Nat.zero_add]; exact hc j (by omega))]
        simp
      · exact h.elim
    · rename_i hag
      replace h := h.out
      obtain ⟨v, hv, hk⟩ := h
      refine .of_run ?_ hk
      unfold loadVar
      rw [Sem.run_bind, hA, hag]
      simp only [Result.andThen_ok, Bool.false_eq_true, if_false]
      exact run_load_ok hv
  · exact h.elim
include hT in
theorem fieldK_ok {f : Field} {cs : Array Value} {w : World} {K : Value → World → Prop} (h : fieldK T f cs.toList fun v => K v w) : SemW P (part f.type cs f.offset) w K := by
  unfold fieldK at h
  split at h
  · rename_i d hd
    have hA := run_isAgg_ok hT hd w
    split at h
    · rename_i hag
      split at h
      · rename_i n hn
        refine .of_run ?_ h
        unfold part
        rw [Sem.run_bind, hA, hag]
        simp only [Result.andThen_ok, if_true, Sem.run_bind, run_sizeOf_ok hT hn, Sem.run_pure]
        congr 2
        apply Array.ext'
        simp [List.take_drop, Nat.add_comm]
      · exact h.elim
    · rename_i hag
      split at h
      · rename_i v hv
        refine .of_run ?_ h
        unfold part
        rw [Sem.run_bind, hA, hag]
        have hv' : cs[f.offset]? = some v := by simpa using hv
        simp [hv']
      · exact h.elim
  · exact h.elim
end sound

end Go.RV


set_option linter.unusedVariables false
set_option linter.unusedSimpArgs false
namespace Go.RV
open Go

section sound
variable {P : Program} {T : Tab} (hT : TabOk P T)

theorem map_evs {fr : Fr} (c : Array Operand) : (c.toList.map (evL fr)).toArray = c.map (evL fr) := by
  apply Array.ext'
  simp

include hT in
theorem callK_ok {o : Oper} {c : Call} (ho : o.op = .call c) {fr : Fr} {w : World} {K : Value → World → Prop} (h : callK T P o c fr w K) : SemW P (execOp (evL fr) o) w (NextW P K) := by
  have hfall : SemN P (execOp (evL fr) o) w (NextW P K) → SemW P (execOp (evL fr) o) w (NextW P K) := fun h => by replace h := h.out; exact h
  obtain ⟨callee, args, argTypes⟩ := c
  have hex : execOp (evL fr) o = (do let d ← resolve (evL fr) ⟨callee, args, argTypes⟩ o.type; invoke d.target d.args) := by
    unfold execOp; rw [ho]
  cases callee with
  | value f =>
    rw [hex]
    unfold callK at h
    simp only at h
    have h1 := evK_ok h
    have h2 := evsK_ok h1
    have key : Cv P (evL fr f) (args.toList.map (evL fr)) w K := by
      unfold cvK at h2
      split at h2
      · rename_i g first cap he
        rw [he]
        exact Cv.of_fc (appK_ok (appK_ok h2))
      · exact h2
    replace key := key.out
    rw [map_evs] at key
    exact key
  | invoke r m => exact hfall h
  | builtin b =>
    have hres : ∀ (w : World), (resolve (evL fr) ⟨.builtin b, args, argTypes⟩ o.type).run P w = .ok { target := .builtin b argTypes o.type (args.map fun | .const _ => true | _ => false), args := args.map (evL fr) } w := fun w => rfl
    have hb : ∀ {s : Sem Value}, builtin b argTypes o.type (args.map fun | .const _ => true | _ => false) (args.map (evL fr)) = (do pure (Next.value (← s))) → SemW P s w K → SemW P (execOp (evL fr) o) w (NextW P K) := by
      intro s hs hw
      rw [hex]
      refine SemW.bind (.of_run (hres w) ?_)
      show SemW P (builtin b argTypes o.type _ _) w _
      rw [hs]
      exact sv hw
    have toK : ∀ {s : Sem Value}, SemN P s w K → SemW P s w K := fun h => by replace h := h.out; exact h
    cases b with
    | len =>
      refine hb (s := Builtin.len_ argTypes o.type (args.map (evL fr))) rfl ?_
      unfold callK at h
      simp only at h
      have h2 := evsK_ok h
      rw [← map_evs]
      generalize args.toList.map (evL fr) = as9 at h2
      have aux : ∀ {d : TypeDesc}, (argTypes[0]?).bind (und T) = some d → ∃ t, argTypes[0]? = some t ∧ und T t = some d := by
        intro d hd
        cases ht : argTypes[0]? with
        | none => rw [ht] at hd; cases hd
        | some t => rw [ht] at hd; exact ⟨t, rfl, hd⟩
      split at h2
      · split at h2
        · rename_i hd
          obtain ⟨t, ht, hu⟩ := aux hd
          refine .of_run ?_ h2
          simp [Builtin.len_, ht, run_underlying_ok hT hu, goInt]
        · exact h2.elim
      · split at h2
        · rename_i hd
          obtain ⟨t, ht, hu⟩ := aux hd
          refine .of_run ?_ h2
          simp [Builtin.len_, ht, run_underlying_ok hT hu, goInt]
        · exact h2.elim
      · exact toK h2
    | cap =>
      refine hb (s := Builtin.cap_ argTypes o.type (args.map (evL fr))) rfl ?_
      unfold callK at h
      simp only at h
      have h2 := evsK_ok h
      rw [← map_evs]
      generalize args.toList.map (evL fr) = as9 at h2
      split at h2
      · split at h2
        · rename_i hd
          cases ht : argTypes[0]? with
          | none => rw [ht] at hd; cases hd
          | some t =>
            rw [ht] at hd
            refine .of_run ?_ h2
            simp [Builtin.cap_, ht, run_underlying_ok hT (t := t) hd, goInt]
        · exact h2.elim
      · exact toK h2
    | max =>
      refine hb (s := Builtin.max_ argTypes o.type (args.map (evL fr))) rfl ?_
      unfold callK at h
      simp only at h
      have h2 := evsK_ok h
      rw [← map_evs]
      generalize args.toList.map (evL fr) = as9 at h2
      split at h2
      · refine .of_run ?_ h2
        rename_i k a k' b
        simp only [Builtin.max_, List.foldlM_cons, List.foldlM_nil, Builtin.max2, Sem.run_bind, Sem.run_pure, Result.andThen_ok]
        congr 2
        rw [Int.max_def]
        split <;> split <;> omega
      · exact toK h2
    | min =>
      refine hb (s := Builtin.min_ argTypes o.type (args.map (evL fr))) rfl ?_
      unfold callK at h
      simp only at h
      have h2 := evsK_ok h
      rw [← map_evs]
      generalize args.toList.map (evL fr) = as9 at h2
      split at h2
      · refine .of_run ?_ h2
        rename_i k a k' b
        simp only [Builtin.min_, List.foldlM_cons, List.foldlM_nil, Builtin.min2, Sem.run_bind, Sem.run_pure, Result.andThen_ok]
        congr 2
        rw [Int.min_def]
        split <;> split <;> omega
      · exact toK h2
    | append =>
      refine hb (s := Builtin.append_ argTypes o.type (args.map (evL fr))) rfl ?_
      unfold callK at h
      simp only at h
      have h2 := evsK_ok h
      rw [← map_evs]
      exact toK h2
    | copy =>
      refine hb (s := Builtin.copy_ argTypes o.type (args.map (evL fr))) rfl ?_
      unfold callK at h
      simp only at h
      have h2 := evsK_ok h
      rw [← map_evs]
      exact toK h2
    | _ => exact hfall h

theorem nw_ok {w : World} {o : Obj} {K : Nat → World → Prop} (h : Nw w o K) : SemW P (newObj o) w K := by
  replace h := h.out; exact h
theorem flatten_cells (zs : List Value) (len : Nat) (n : Nat) (hz : zs.length = n + 1) :
    (Array.range (len * (n + 1))).map (fun i => zs.toArray[i % zs.toArray.size]!) = (List.replicate len zs).flatten.toArray := by
  apply Array.ext
  · simp [hz]
  · intro i h1 h2
    simp only [List.size_toArray, List.length_flatten, List.map_replicate, List.sum_replicate_nat, hz] at h2
    simp only [Array.getElem_map, Array.getElem_range, List.getElem_toArray, List.size_toArray, hz]
    have hlt : i % (n + 1) < zs.length := by rw [hz]; exact Nat.mod_lt _ (by omega)
    rw [getElem!_pos _ _ (by simpa using hlt)]
    have hgen : ∀ (len i : Nat) (h : i < (List.replicate len zs).flatten.length), (List.replicate len zs).flatten[i] = zs[i % (n+1)]'(by rw [hz]; exact Nat.mod_lt _ (by omega)) := by
      intro len
      induction len with
      | zero => intro i h; simp at h
      | succ len ih =>
        intro i h
        simp only [List.replicate_succ, List.flatten_cons]
        by_cases hi : i < n + 1
        · rw [List.getElem_append_left (by omega)]
          congr 1
          exact (Nat.mod_eq_of_lt hi).symm
        · rw [List.getElem_append_right (by omega)]
          simp only [hz]
          rw [ih]
          congr 1
          exact (Nat.mod_eq_sub_mod (by omega)).symm
    rw [hgen]
    simp

include hT in
/-- **One operation of the executor is sound.** -/
theorem xv_ok {o : Oper} {fr : Fr} {w : World} {K : Value → World → Prop} (h : xv T P o fr w K) :
    SemW P (execOp (evL fr) o) w (NextW P K) ∧ ∀ c, o.op ≠ .defer c := by
  have hfall : SemN P (execOp (evL fr) o) w (NextW P K) → SemW P (execOp (evL fr) o) w (NextW P K) := fun h => by replace h := h.out; exact h
  have toK : ∀ {s : Sem Value}, SemN P s w K → SemW P s w K := fun h => by replace h := h.out; exact h
  unfold xv at h
  split at h
  · -- move
    rename_i x ho
    refine ⟨?_, by rw [ho]; intro c hc; cases hc⟩
    unfold execOp; rw [ho]
    exact SemW.pure (evK_ok h)
  · rename_i x ho
    refine ⟨?_, by rw [ho]; intro c hc; cases hc⟩
    unfold execOp; rw [ho]
    exact SemW.pure (evK_ok h)
  · -- pick
    rename_i c a b ho
    refine ⟨?_, by rw [ho]; intro c hc; cases hc⟩
    have h1 := evK_ok h
    split at h1
    · rename_i t he
      unfold execOp; rw [ho]
      refine SemW.bind ?_
      rw [he]
      refine SemW.pure ?_
      refine SemW.pure ?_
      cases t
      · exact evK_ok h1
      · exact evK_ok h1
    · exact h1.elim
  · -- alloc
    rename_i e ho
    refine ⟨?_, by rw [ho]; intro c hc; cases hc⟩
    split at h
    · rename_i z hz
      have h1 := nw_ok (P := P) (vcK_ok h)
      unfold execOp; rw [ho]
      refine sv ?_
      unfold Instr.alloc
      refine SemW.bind (.of_run (run_zero_ok hT hz w) ?_)
      refine SemW.bind ?_
      unfold newVar newRow
      refine SemW.bind ?_
      simp only [Array.toArray_toList] at h1
      exact h1.mono fun b w' hk => SemW.pure (SemW.pure hk)
    · exact h.elim
  · -- box
    rename_i e x ho
    refine ⟨?_, by rw [ho]; intro c hc; cases hc⟩
    have h1 := nw_ok (P := P) (vcK_ok (evK_ok h))
    unfold execOp; rw [ho]
    refine sv ?_
    unfold Instr.box newVar newRow
    refine SemW.bind (SemW.bind ?_)
    simp only [Array.toArray_toList] at h1
    exact h1.mono fun b w' hk => SemW.pure (SemW.pure hk)
  · -- build
    rename_i t parts ho
    refine ⟨?_, by rw [ho]; intro c hc; cases hc⟩
    have h1 := partsK_ok h
    have hps : (parts.toList.map fun (i, x) => (i, evL fr x)) = (parts.map fun (i, x) => (i, evL fr x)).toList := by simp
    rw [hps] at h1
    unfold execOp; rw [ho]
    refine sv ?_
    generalize (parts.map fun (i, x) => (i, evL fr x)) = ps at h1
    split at h1
    · rename_i z hz
      have h2 := vcK_ok h1
      unfold Instr.build
      refine SemW.bind (.of_run (run_zero_ok hT hz w) ?_)
      split at h2
      · rename_i fs hu
        refine SemW.bind (.of_run (run_underlying_ok hT hu w) ?_)
        simp only
        obtain ⟨pl, hr, h3⟩ := placesK_ok hT w h2
        obtain ⟨out, hf, hk⟩ := fill_ok h3
        simp only [Array.toArray_toList] at hf
        have hm : (fs.mapM (fun f : Field => do pure (f.offset, ← sizeOf f.type)) : Sem (Array (Nat × Nat))).run P w = .ok pl.toArray w := by
          rw [Array.mapM_eq_mapM_toList, Sem.run_map, hr]
          rfl
        refine SemW.bind (.of_run hm ?_)
        have hpl : (fun x => pl.toArray[x]?) = lkP pl := by
          funext x
          rw [lkP_ok]
          simp
        simp only [hpl, hf]
        exact SemW.pure hk
      · rename_i e hu
        split at h2
        · rename_i n hn
          refine SemW.bind (.of_run (run_underlying_ok hT hu w) ?_)
          simp only
          refine SemW.bind (.of_run (run_sizeOf_ok hT hn w) ?_)
          obtain ⟨out, hf, hk⟩ := fill_ok h2
          simp only [Array.toArray_toList] at hf
          simp only [hf]
          exact SemW.pure hk
        · exact h2.elim
      · exact h2.elim
    · exact h1.elim
  · -- buildSlice
    rename_i t len parts ho
    refine ⟨?_, by rw [ho]; intro c hc; cases hc⟩
    have h1 := partsK_ok h
    have hps : (parts.toList.map fun (i, x) => (i, evL fr x)) = (parts.map fun (i, x) => (i, evL fr x)).toList := by simp
    rw [hps] at h1
    unfold execOp; rw [ho]
    refine sv ?_
    generalize (parts.map fun (i, x) => (i, evL fr x)) = ps at h1
    split at h1
    · rename_i e hu
      split at h1
      · rename_i n hn
        split at h1
        · rename_i z hz
          obtain ⟨hl, h2⟩ := lenK_ok (vcK_ok h1)
          obtain ⟨hle, h3⟩ := leK_ok h2
          cases n with
          | zero => exact h3.elim
          | succ n =>
            simp only at h3
            have h4 := repK_ok h3
            obtain ⟨out, hf, hk⟩ := fill_ok h4
            have hk' := nw_ok (P := P) hk
            unfold Instr.buildSlice
            refine SemW.bind (.of_run (run_underlying_ok hT hu w) ?_)
            simp only
            refine SemW.bind (.of_run (run_sizeOf_ok hT hn w) ?_)
            rw [if_neg (by omega)]
            have hcells : ∀ zero : Array Value, (len * (n + 1) = 0 ∨ zero = z.cells) → ((Array.range (len * (n + 1))).map (zero[· % zero.size]!)) = (List.replicate len z.cells.toList).flatten.toArray := by
              intro zero hzero
              rcases hzero with h0 | rfl
              · have : len = 0 := by
                  rcases Nat.mul_eq_zero.1 h0 with h | h
                  · exact h
                  · omega
                subst this
                simp
              · have := flatten_cells z.cells.toList len n hl
                simpa using this
            by_cases h0 : len * (n + 1) = 0
            · rw [if_pos h0]
              refine SemW.bind (SemW.pure ?_)
              rw [hcells #[] (.inl h0), hf]
              simp only
              refine SemW.bind ?_
              unfold newRow
              refine SemW.bind ?_
              exact hk'.mono fun b w' hk => SemW.pure (SemW.pure hk)
            · rw [if_neg h0]
              refine SemW.bind (.of_run (run_zero_ok hT hz w) ?_)
              refine SemW.bind (SemW.pure ?_)
              rw [hcells z.cells (.inr rfl), hf]
              simp only
              refine SemW.bind ?_
              unfold newRow
              refine SemW.bind ?_
              exact hk'.mono fun b w' hk => SemW.pure (SemW.pure hk)
        · exact h1.elim
      · exact h1.elim
    · exact h1.elim
  · -- load
    rename_i t a ho
    refine ⟨?_, by rw [ho]; intro c hc; cases hc⟩
    have h1 := evK_ok h
    unfold execOp; rw [ho]
    refine sv ?_
    split at h1
    · rename_i ad he
      rw [he]
      exact SemW.bind (.of_run (by rfl) (loadK_ok hT h1))
    · exact h1.elim
  · -- store
    rename_i t a x ho
    refine ⟨?_, by rw [ho]; intro c hc; cases hc⟩
    have h1 := evK_ok (evK_ok (K := fun av => evK fr x fun v => _) h)
    unfold execOp; rw [ho]
    refine su ?_
    split at h1
    · rename_i ad he
      split at h1
      · rename_i n hn
        obtain ⟨hl, h2⟩ := lenK_ok (vcK_ok h1)
        rw [he]
        refine SemW.bind (.of_run (by rfl) ?_)
        unfold storeVar
        refine SemW.bind (.of_run (run_sizeOf_ok hT hn w) ?_)
        rw [if_neg (by simpa using hl)]
        replace h2 := h2.out
        exact h2
      · exact h1.elim
    · exact h1.elim
  · -- nilCheck
    rename_i x ho
    refine ⟨?_, by rw [ho]; intro c hc; cases hc⟩
    have h1 := evK_ok h
    split at h1
    · rename_i a he
      unfold execOp; rw [ho]
      simp only [he]
      exact SemW.pure h1
    · exact hfall h1
  · -- binOp
    rename_i op xt x y yt ho
    refine ⟨?_, by rw [ho]; intro c hc; cases hc⟩
    have h1 := evK_ok (evK_ok (K := fun a => evK fr y fun b => _) h)
    unfold execOp; rw [ho]
    exact sv (binK_ok hT h1)
  · -- unOp
    rename_i op xt x ho
    refine ⟨?_, by rw [ho]; intro c hc; cases hc⟩
    have h1 := evK_ok h
    unfold execOp; rw [ho]
    refine sv ?_
    split at h1
    · rename_i b he
      rw [he]
      exact SemW.pure h1
    · rename_i k n he
      rw [he]
      exact SemW.pure h1
    · exact toK h1
  · -- convert
    rename_i src dst x ho
    refine ⟨?_, by rw [ho]; intro c hc; cases hc⟩
    have h1 := evK_ok h
    unfold execOp; rw [ho]
    refine sv ?_
    split at h1
    · rename_i k n he
      split at h1
      · rename_i k1 k2 hu1 hu2
        rw [he]
        refine .of_run ?_ h1
        unfold convert
        rw [Sem.run_bind, run_underlying_ok hT hu1, Result.andThen_ok, Sem.run_bind, run_underlying_ok hT hu2]
        rfl
      · exact toK h1
    · exact toK h1
  · -- makeFunc
    rename_i fn first cap ho
    refine ⟨?_, by rw [ho]; intro c hc; cases hc⟩
    have h1 := evsK_ok (evsK_ok (K := fun xs => evsK fr cap.toList fun ys => _) h)
    unfold execOp; rw [ho]
    refine sv ?_
    rw [map_evs, map_evs] at h1
    exact SemW.pure h1
  · -- slice
    rename_i t x lo hi mx ho
    refine ⟨?_, by rw [ho]; intro c hc; cases hc⟩
    have h1 := evK_ok h
    have hex : execOp (evL fr) o = (do pure (Next.value (← Instr.sliceAt t (evL fr x) (lo.map (evL fr)) (hi.map (evL fr)) (mx.map (evL fr))))) := by
      unfold execOp; rw [ho]
    split at h1
    · rename_i s hu he
      split at h1
      · rw [hex]
        refine sv ?_
        rw [he]
        unfold Instr.sliceAt
        refine SemW.bind (.of_run (run_underlying_ok hT hu w) ?_)
        simp only
        unfold Instr.slice
        refine SemW.bind (.of_run (run_underlying_ok hT hu w) ?_)
        simp only [Option.map_none, Option.isSome_none, Bool.false_eq_true, if_false]
        have h2 := bndK_ok h1
        have h3 : ∃ l h, l ≤ h ∧ (Instr.sliceBounds false s.size s.size (lo.map (evL fr)) (hi.map (evL fr)) none).run P w = .ok (l, h, s.size) w ∧ K (.string (s.extract l h)) w := by
          cases hi with
          | none =>
            have h4 := bndK_ok h2
            cases lo with
            | none => exact ⟨0, s.size, by omega, rfl, h4⟩
            | some lo =>
              obtain ⟨k, i, hv, hi0, hi1, hk⟩ := h4
              refine ⟨i.toNat, s.size, by omega, ?_, hk⟩
              simp [Instr.sliceBounds, hv, run_sliceBound hi0 hi1]
          | some hi =>
            obtain ⟨k, i, hv, hi0, hi1, h4⟩ := h2
            have h5 := bndK_ok h4
            cases lo with
            | none =>
              refine ⟨0, i.toNat, by omega, ?_, h5⟩
              simp [Instr.sliceBounds, hv, run_sliceBound hi0 hi1]
            | some lo =>
              obtain ⟨k', i', hv', hi0', hi1', hk⟩ := h5
              refine ⟨i'.toNat, i.toNat, by omega, ?_, hk⟩
              simp [Instr.sliceBounds, hv, hv', run_sliceBound hi0 hi1, run_sliceBound hi0' hi1']
        obtain ⟨l, hh, hle, hr, hk⟩ := h3
        exact SemW.bind (.of_run hr (SemW.pure hk))
      · exact h1.elim
    · rename_i e a len cap hu he
      split at h1
      · rename_i n hn
        have h3 : ∃ m hh l, (Instr.sliceBounds true len cap (lo.map (evL fr)) (hi.map (evL fr)) (mx.map (evL fr))).run P w = .ok (l, hh, m) w ∧ K (.slice (sliA a m l n) (hh - l) (m - l)) w := by
          cases hi with
          | none =>
            cases mx with
            | some mx => exact h1.elim
            | none =>
              have h4 := bndK_ok (bndK_ok h1)
              cases lo with
              | none => exact ⟨cap, len, 0, rfl, by simpa [sliA_zero] using h4⟩
              | some lo =>
                obtain ⟨k', i', hv', hi0', hi1', hk⟩ := bndK_ok h4
                refine ⟨cap, len, i'.toNat, ?_, hk⟩
                simp [Instr.sliceBounds, hv', run_sliceBound hi0' hi1']
          | some hi =>
            cases mx with
            | none =>
              obtain ⟨k, i, hv, hi0, hi1, h4⟩ := bndK_ok (bndK_ok h1)
              cases lo with
              | none =>
                refine ⟨cap, i.toNat, 0, ?_, by simpa [sliA_zero] using h4⟩
                simp [Instr.sliceBounds, hv, run_sliceBound hi0 hi1]
              | some lo =>
                obtain ⟨k', i', hv', hi0', hi1', hk⟩ := bndK_ok h4
                refine ⟨cap, i.toNat, i'.toNat, ?_, hk⟩
                simp [Instr.sliceBounds, hv, hv', run_sliceBound hi0 hi1, run_sliceBound hi0' hi1']
            | some mx =>
              obtain ⟨k2, i2, hv2, hi02, hi12, h6⟩ := bndK_ok h1
              obtain ⟨k, i, hv, hi0, hi1, h4⟩ := bndK_ok h6
              cases lo with
              | none =>
                refine ⟨i2.toNat, i.toNat, 0, ?_, by simpa [sliA_zero] using h4⟩
                simp [Instr.sliceBounds, hv, hv2, run_sliceBound hi0 hi1, run_sliceBound hi02 hi12]
              | some lo =>
                obtain ⟨k', i', hv', hi0', hi1', hk⟩ := bndK_ok h4
                refine ⟨i2.toNat, i.toNat, i'.toNat, ?_, hk⟩
                simp [Instr.sliceBounds, hv, hv', hv2, run_sliceBound hi0 hi1, run_sliceBound hi0' hi1', run_sliceBound hi02 hi12]
        obtain ⟨m, hh, l, hr, hk⟩ := h3
        rw [hex]
        refine sv ?_
        rw [he]
        unfold Instr.sliceAt
        refine SemW.bind (.of_run (run_underlying_ok hT hu w) ?_)
        simp only
        unfold Instr.slice
        refine SemW.bind (.of_run (run_underlying_ok hT hu w) ?_)
        simp only
        refine SemW.bind (.of_run hr ?_)
        simp only
        refine SemW.bind (.of_run (run_sizeOf_ok hT hn w) ?_)
        exact SemW.pure hk
      · exact h1.elim
    · exact hfall h1
  · -- fieldAddr
    rename_i s x f ho
    refine ⟨?_, by rw [ho]; intro c hc; cases hc⟩
    have h1 := evK_ok h
    unfold execOp; rw [ho]
    refine sv ?_
    split at h1
    · rename_i ab aoff he
      rw [he]
      split at h1
      · rename_i fs hu
        split at h1
        · rename_i fd hf
          split at h1
          · rename_i m hm
            unfold Instr.fieldAt
            refine SemW.bind (.of_run (run_underlying_ok hT hu w) ?_)
            simp only
            have hf' : fs[f]? = some fd := by
              rw [lkF_ok] at hf
              simpa using hf
            simp only [hf']
            refine SemW.bind (.of_run (by rfl) ?_)
            refine SemW.bind ?_
            unfold fieldPlace
            refine SemW.bind (.of_run (run_sizeOf_ok hT hm w) ?_)
            rw [if_neg (by omega)]
            refine SemW.pure (SemW.pure ?_)
            rw [add_none]
            split at h1
            · rename_i h0
              rw [h0]
              exact h1
            · rename_i k h0
              rw [h0]
              exact h1
          · exact h1.elim
        · exact h1.elim
      · exact h1.elim
    · exact h1.elim
  · -- field
    rename_i t x f ho
    refine ⟨?_, by rw [ho]; intro c hc; cases hc⟩
    have h1 := evK_ok h
    unfold execOp; rw [ho]
    refine sv ?_
    split at h1
    · rename_i cs he
      rw [he]
      split at h1
      · rename_i fs hu
        split at h1
        · rename_i fd hf
          unfold Instr.field
          refine SemW.bind (.of_run (run_underlying_ok hT hu w) ?_)
          simp only
          have hf' : fs[f]? = some fd := by
            rw [lkF_ok] at hf
            simpa using hf
          simp only [hf']
          exact SemW.bind (.of_run (by rfl) (fieldK_ok hT h1))
        · exact h1.elim
      · exact h1.elim
    · exact h1.elim
  · -- indexAddr
    rename_i t x ix ho
    refine ⟨?_, by rw [ho]; intro c hc; cases hc⟩
    have h1 := evK_ok (evK_ok (K := fun v => evK fr ix fun iv => _) h)
    unfold execOp; rw [ho]
    refine sv ?_
    split at h1
    · rename_i k i hi
      split at h1
      · rename_i len e ab aoff hu he
        split at h1
        · rename_i n hn
          obtain ⟨hb, hk⟩ := h1.out
          rw [hi, he]
          refine .of_run ?_ hk
          unfold Instr.indexAt
          simp only [asIntOf, Sem.run_bind, Sem.run_pure, Result.andThen_ok, run_underlying_ok hT hu, Instr.sureAddr]
          rw [if_pos hb]
          simp [run_sizeOf_ok hT hn, add_none]
        · exact h1.elim
      · rename_i e a len cap hu he
        split at h1
        · rename_i n hn
          obtain ⟨hb, hk⟩ := h1.out
          replace hk := hk.out
          obtain ⟨b, off, rfl, hk⟩ := hk
          rw [hi, he]
          refine .of_run ?_ hk
          unfold Instr.indexAt
          simp only [asIntOf, Sem.run_bind, Sem.run_pure, Result.andThen_ok, run_underlying_ok hT hu]
          rw [if_pos hb]
          simp [run_sizeOf_ok hT hn, add_none]
        · exact h1.elim
      · exact h1.elim
    · exact h1.elim
  · -- index
    rename_i t x ix ho
    refine ⟨?_, by rw [ho]; intro c hc; cases hc⟩
    have h1 := evK_ok (evK_ok (K := fun v => evK fr ix fun iv => _) h)
    unfold execOp; rw [ho]
    refine sv ?_
    split at h1
    · rename_i k i hi
      split at h1
      · rename_i s hu he
        obtain ⟨hb, hk⟩ := h1.out
        rw [hi, he]
        refine .of_run ?_ hk
        unfold Instr.index
        simp only [asIntOf, Sem.run_bind, Sem.run_pure, Result.andThen_ok, run_underlying_ok hT hu]
        rw [if_pos hb.1]
        have hlt : i.toNat < s.size := by omega
        have hg : s[i.toNat]? = some (s[i.toNat]'hlt) := by simp [hlt]
        rw [hg]
        simp only [Sem.run_pure, byteAt]
        congr 3
        have hlt' : i.toNat < s.data.toList.length := by simpa using hlt
        rw [List.getD_eq_getElem?_getD, List.getElem?_eq_getElem hlt']
        rfl
      · exact toK h1
    · exact h1.elim
  · -- extract
    rename_i x i ho
    refine ⟨?_, by rw [ho]; intro c hc; cases hc⟩
    have h1 := evK_ok h
    unfold execOp; rw [ho]
    refine sv ?_
    split at h1
    · rename_i vs he
      rw [he]
      split at h1
      · rename_i v hv
        have hv' : vs[i]? = some v := by simpa using hv
        unfold Instr.extract
        simp only [hv']
        exact SemW.pure h1
      · exact h1.elim
    · exact h1.elim
  · -- call
    rename_i c ho
    exact ⟨callK_ok hT ho h, by rw [ho]; intro c hc; cases hc⟩
  · exact h.elim
  · rename_i h1 h2
    refine ⟨hfall h, ?_⟩
    intro c hc
    exact h2 c hc
end sound

end Go.RV


set_option linter.unusedVariables false
set_option linter.unusedSimpArgs false
namespace Go.RV
open Go

theorem stepR_scope {P : Program} {b : Frame} {a : Act} {k : List Item} {cs : List Frame} {w : World} {c : Code} : step P (lone (b.atR a (.code (.scope c) :: k)) cs w) = .next (lone (b.atR a (.code c :: .inScope c :: k)) cs w) :=
  step_lone_go (by simp [stepG, stepG.exec, Frame.atR])
theorem stepR_inScope {P : Program} {b : Frame} {a : Act} {k : List Item} {cs : List Frame} {w : World} {c : Code} : step P (lone (b.atR a (.inScope c :: k)) cs w) = .next (lone (b.atR a k) cs w) :=
  step_lone_go (by simp [stepG, stepG.exec, Frame.atR])
def noGotoQ (Q : Exit → Act → World → Prop) : Exit → Act → World → Prop
  | .goto _, _, _ => False
  | e, a, w => Q e a w
theorem wpIn_scope {F : Fence} {n : Nat} {P : Program} {Q : Exit → Act → World → Prop} {a : Act} {w : World} {c : Code} (h : c.wpIn F n P (noGotoQ Q) a w) : (Code.scope c).wpIn F n P Q a w := by
  intro b k cs hro hb hr
  have h0 : (lone (b.atR a (.code (.scope c) :: k)) cs w).fenced P F := fenced_calm hb hr rfl
  obtain ⟨e, a₁, w₁, hq, harr⟩ := h b (.inScope c :: k) cs hro hb hr
  cases e with
  | normal => exact ⟨.normal, a₁, w₁, hq, .head h0 stepR_scope (StepsIn.trans harr (.one (fenced_calm hb hr rfl) stepR_inScope))⟩
  | exit id =>
    have hx : exitTo id (.inScope c :: k) = exitTo id k := by simp [exitTo]
    exact ⟨.exit id, a₁, w₁, hq, fun k' hk => .head h0 stepR_scope (harr.1 k' (by rw [hx]; exact hk)),
      fun hr' hk => let ⟨k₁, h1, h2⟩ := harr.2 hr' (by rw [hx]; exact hk); ⟨k₁, h1, .head h0 stepR_scope h2⟩⟩
  | goto l => exact hq.elim
  | ret => exact ⟨_, a₁, w₁, hq, .of_steps (.one h0 stepR_scope) harr⟩
  | panic ch => exact ⟨_, a₁, w₁, hq, .of_steps (.one h0 stepR_scope) harr⟩
  | outgrown => exact ⟨_, a₁, w₁, hq, .of_steps (.one h0 stepR_scope) harr⟩
/-- an operation's guard: whether it runs -/
def guK (all : List Oper) (fr : Fr) (g : Option (Nat × Bool)) (A B : Fr → Prop) : Prop :=
  match g with
  | none => A fr
  | some (j, want) => match lkOp all j with
    | some oj => match oj.dst with
      | some d => getK fr d fun v => match v with
        | .bool b => brK b
            (setK fr d (.bool true) fun fr => match want with | true => A fr | false => B fr)
            (setK fr d (.bool false) fun fr => match want with | true => B fr | false => A fr)
        | _ => B fr
      | none => Stk "guard"
    | none => Stk "guard"

noncomputable def xops (T : Tab) (P : Program) (all : List Oper) (os : List Oper) : Fr → World → (Fr → World → Prop) → Prop :=
  List.rec (motive := fun _ => Fr → World → (Fr → World → Prop) → Prop) (fun fr w K => K fr w)
    (fun o _ ih fr w K => guK all fr o.guard
      (fun fr => xv T P o fr w fun v w => putK fr o.dst v fun fr => ih fr w K)
      (fun fr => putK fr o.dst undef fun fr => ih fr w K)) os
theorem xops_cons (T : Tab) (P : Program) (all : List Oper) (o : Oper) (os : List Oper) (fr : Fr) (w : World) (K : Fr → World → Prop) : xops T P all (o :: os) fr w K = guK all fr o.guard
      (fun fr => xv T P o fr w fun v w => putK fr o.dst v fun fr => xops T P all os fr w K)
      (fun fr => putK fr o.dst undef fun fr => xops T P all os fr w K) := rfl

def liftQ (Q : Post) : Exit → Act → World → Prop := fun e a w => ∃ fr ds, a = ⟨fr.toArray, ds⟩ ∧ Q e fr ds w

/-- a piece of code, in the model's own words -/
structure Wp (P : Program) (r : Option Nat) (c : Code) (Q : Post) (fr : Fr) (ds : List Deferred) (w : World) : Prop where
  out : ∀ n, c.wpIn (FR r) n P (liftQ Q) ⟨fr.toArray, ds⟩ w

theorem Wp.of {P : Program} {r : Option Nat} {c : Code} {Q : Post} {fr : Fr} {ds : List Deferred} {w : World} (h : ∀ n, c.wpIn (FR r) n P (liftQ Q) ⟨fr.toArray, ds⟩ w) : Wp P r c Q fr ds w := by
  refine ⟨?_⟩; exact h

def thenQ (K : Fr → List Deferred → World → Prop) (Q : Post) : Post := fun e fr ds w => match e with
  | .normal => K fr ds w
  | e => Q e fr ds w
def scopeQ (Q : Post) : Post := fun e fr ds w => match e with
  | .goto _ => Stk "goto"
  | e => Q e fr ds w
def blockQ (id : Nat) (Q : Post) : Post := fun e fr ds w => match e with
  | .normal => Q .normal fr ds w
  | .exit j => match Nat.beq j id with
    | true => Q .normal fr ds w
    | false => Q (.exit j) fr ds w
  | e => Q e fr ds w
def condX (fr : Fr) (c : Operand) (A B : Fr → Prop) : Prop :=
  match c with
  | .tmp t => getK fr t fun v => match v with
    | .bool t' => brK t' (setK fr t (.bool true) A) (setK fr t (.bool false) B)
    | _ => Stk "cond"
  | .const v => match v with
    | .bool t' => brK t' (A fr) (B fr)
    | _ => Stk "cond"
  | _ => Stk "cond"
noncomputable def X (T : Tab) (P : Program) (r : Option Nat) (c : Code) : Post → Fr → List Deferred → World → Prop :=
  Code.rec (motive := fun _ => Post → Fr → List Deferred → World → Prop)
    (fun Q fr ds w => Q .normal fr ds w)
    (fun id ops draw Q fr ds w => match draw with
      | false => xops T P ops.toList ops.toList fr w fun fr w => Q .normal fr ds w
      | true => Wp P r (.region id ops true) Q fr ds w)
    (fun _ _ iha ihb Q fr ds w => iha (thenQ (fun fr ds w => ihb Q fr ds w) Q) fr ds w)
    (fun c _ _ iha ihb Q fr ds w => condX fr c (fun fr => iha Q fr ds w) (fun fr => ihb Q fr ds w))
    (fun id _ ih Q fr ds w => ih (blockQ id Q) fr ds w)
    (fun c _ Q fr ds w => Wp P r (.loop c) Q fr ds w)
    (fun g ps asg body _ _ Q fr ds w => Wp P r (.rangeFunc g ps asg body) Q fr ds w)
    (fun id Q fr ds w => Q (.exit id) fr ds w)
    (fun _ ih Q fr ds w => ih (scopeQ Q) fr ds w)
    (fun _ Q fr ds w => Q .normal fr ds w)
    (fun l Q fr ds w => Q (.goto l) fr ds w)
    (fun Q fr ds w => Q .ret fr ds w)
    (fun _ _ _ _ _ => Stk "refused") c

theorem set_same {fr : Fr} {d : Nat} {v : Value} (h : fr.getD d undef = v) (hv : v ≠ undef) : fr.set d v = fr := by
  apply List.ext_getElem?
  intro i
  rw [List.getElem?_set]
  split
  · rename_i e
    subst e
    rw [List.getD_eq_getElem?_getD] at h
    cases hg : fr[d]? with
    | none => rw [hg] at h; exact absurd h.symm hv
    | some u =>
      rw [hg] at h
      simp only [Option.getD_some] at h
      have : d < fr.length := by
        rcases Nat.lt_or_ge d fr.length with h | h
        · exact h
        · simp [List.getElem?_eq_none h] at hg
      simp [this, h]
  · rfl

theorem bool_ne_undef (b : Bool) : Value.bool b ≠ undef := by
  unfold undef
  intro h
  cases h

theorem guK_ok {all : List Oper} {fr : Fr} {o : Oper} {A B : Fr → Prop} (h : guK all fr o.guard A B) :
    (Region.wanted o (yielded all.toArray fr.toArray) = true ∧ A fr) ∨ (Region.wanted o (yielded all.toArray fr.toArray) = false ∧ B fr) := by
  unfold guK at h
  unfold Region.wanted
  cases hg : o.guard with
  | none => rw [hg] at h; exact .inl ⟨rfl, h⟩
  | some x =>
    obtain ⟨j, want⟩ := x
    rw [hg] at h
    simp only at h ⊢
    split at h
    · rename_i oj hj
      split at h
      · rename_i d hd
        have h1 := getK_ok h
        split at h1
        · rename_i b hb
          have hy : yielded all.toArray fr.toArray j = some b := by
            unfold yielded
            rw [lkOp_ok] at hj
            have hb' : fr[d]? = some (.bool b) := by
              rw [List.getD_eq_getElem?_getD] at hb
              cases hx : fr[d]? with
              | none => rw [hx] at hb; exact absurd hb.symm (bool_ne_undef b)
              | some u => rw [hx] at hb; simpa using hb
            simp [hj, hd, hb']
          rw [hy]
          refine brK_ok h1 ?_ ?_
          · intro hbt h2
            subst hbt
            have h3 := setK_ok h2
            rw [set_same hb (bool_ne_undef _)] at h3
            cases want
            · exact .inr ⟨rfl, h3⟩
            · exact .inl ⟨rfl, h3⟩
          · intro hbt h2
            subst hbt
            have h3 := setK_ok h2
            rw [set_same hb (bool_ne_undef _)] at h3
            cases want
            · exact .inl ⟨rfl, h3⟩
            · exact .inr ⟨rfl, h3⟩
        · rename_i hne
          refine .inr ⟨?_, h1⟩
          have hy : yielded all.toArray fr.toArray j = none := by
            unfold yielded
            rw [lkOp_ok] at hj
            have hall : all.toArray[j]? = some oj := by simpa using hj
            simp only [hall, Option.bind_some, hd]
            split
            · rename_i b hb
              exfalso
              refine hne b ?_
              have hb' : fr[d]? = some (.bool b) := by simpa using hb
              rw [List.getD_eq_getElem?_getD, hb']
              rfl
            · rfl
          rw [hy]
          rfl
      · exact h.elim
    · exact h.elim

section sound
variable {P : Program} {T : Tab} (hT : TabOk P T)
include hT
theorem xops_ok {all : List Oper} {ds : List Deferred} {Q : Exit → Act → World → Prop} (r : Option Nat) (n : Nat) : ∀ {os : List Oper} {fr : Fr} {w : World} {K : Fr → World → Prop}, xops T P all os fr w K →
    (∀ fr w, K fr w → Q .normal ⟨fr.toArray, ds⟩ w) → wpListIn (FR r) n P all.toArray Q os ⟨fr.toArray, ds⟩ w
  | [], fr, w, K, h, hq => hq _ _ h
  | o :: os, fr, w, K, h, hq => by
    rw [xops_cons] at h
    unfold wpListIn
    rcases guK_ok h with ⟨hw, h1⟩ | ⟨hw, h1⟩
    · simp only [hw, if_true]
      obtain ⟨h2, hd⟩ := xv_ok hT h1
      refine wpIn_of_semW r n hd (h2.mono fun x w' hx => hx.mono fun v w'' hv => ?_)
      exact xops_ok r n (putK_ok hv) hq
    · simp only [hw, Bool.false_eq_true, if_false]
      refine ⟨fun f _ => trivial, ?_⟩
      rw [put_eq]
      exact xops_ok r n (putK_ok h1) hq

/-- **The executor is sound.** -/
theorem X_ok (r : Option Nat) : ∀ (c : Code) {Q : Post} {fr : Fr} {ds : List Deferred} {w : World}, X T P r c Q fr ds w → Wp P r c Q fr ds w := by
  intro c
  induction c with
  | skip => intro Q fr ds w h; exact .of fun n => wpIn_skip ⟨fr, ds, rfl, h⟩
  | region id ops draw =>
    intro Q fr ds w h
    cases draw with
    | true => exact h
    | false =>
      refine .of fun n => wpIn_region_list ?_
      have h1 : xops T P ops.toList ops.toList fr w fun fr w => Q .normal fr ds w := h
      have h2 := xops_ok (ds := ds) (Q := liftQ Q) hT r n h1 (fun fr w hk => ⟨fr, ds, rfl, hk⟩)
      simpa using h2
  | seq a b iha ihb =>
    intro Q fr ds w h
    refine .of fun n => wpIn_seq ?_
    have h0 : X T P r a (thenQ (fun fr ds w => X T P r b Q fr ds w) Q) fr ds w := h
    have h1 := (iha h0).out n
    refine wpIn_mono h1 ?_
    rintro e a' w' ⟨fr', ds', rfl, hq⟩
    cases e with
    | normal => exact (ihb hq).out n
    | _ => exact ⟨fr', ds', rfl, hq⟩
  | cond c a b iha ihb =>
    intro Q fr ds w h
    replace h : condX fr c (fun fr => X T P r a Q fr ds w) (fun fr => X T P r b Q fr ds w) := h
    unfold condX at h
    cases c with
    | tmp t =>
      have h2 := getK_ok h
      split at h2
      · rename_i t' ht
        have hev : (Act.mk fr.toArray ds).eval (.tmp t) = .bool t' := by rw [eval_eq]; exact ht
        refine brK_ok h2 ?_ ?_
        · intro hb h3
          subst hb
          have h4 := setK_ok h3
          rw [set_same ht (bool_ne_undef _)] at h4
          exact .of fun n => wpIn_cond_true hev ((iha h4).out n)
        · intro hb h3
          subst hb
          have h4 := setK_ok h3
          rw [set_same ht (bool_ne_undef _)] at h4
          exact .of fun n => wpIn_cond_false hev ((ihb h4).out n)
      · exact h2.elim
    | const v =>
      simp only at h
      split at h
      · refine brK_ok h ?_ ?_
        · intro hb h3
          subst hb
          exact .of fun n => wpIn_cond_true rfl ((iha h3).out n)
        · intro hb h3
          subst hb
          exact .of fun n => wpIn_cond_false rfl ((ihb h3).out n)
      · exact h.elim
    | global g => exact Stk.elim h
    | func f => exact Stk.elim h
  | block id c ih =>
    intro Q fr ds w h
    refine .of fun n => wpIn_block ?_
    have h0 : X T P r c (blockQ id Q) fr ds w := h
    refine wpIn_mono ((ih h0).out n) ?_
    rintro e a' w' ⟨fr', ds', rfl, hq⟩
    cases e with
    | normal => exact ⟨fr', ds', rfl, hq⟩
    | exit j =>
      simp only [Exit.inBlock]
      simp only [blockQ] at hq
      split at hq
      · rename_i hb
        rw [if_pos (Nat.eq_of_beq_eq_true hb)]
        exact ⟨fr', ds', rfl, hq⟩
      · rename_i hb
        rw [if_neg (Nat.ne_of_beq_eq_false hb)]
        exact ⟨fr', ds', rfl, hq⟩
    | _ => exact ⟨fr', ds', rfl, hq⟩
  | loop c ih => intro Q fr ds w h; exact h
  | rangeFunc g ps asg body iha ihb => intro Q fr ds w h; exact h
  | exit id => intro Q fr ds w h; exact .of fun n => wpIn_exit ⟨fr, ds, rfl, h⟩
  | scope c ih =>
    intro Q fr ds w h
    refine .of fun n => wpIn_scope ?_
    have h0 : X T P r c (scopeQ Q) fr ds w := h
    refine wpIn_mono ((ih h0).out n) ?_
    rintro e a' w' ⟨fr', ds', rfl, hq⟩
    cases e with
    | goto l => exact Stk.elim hq
    | _ => exact ⟨fr', ds', rfl, hq⟩
  | label l => intro Q fr ds w h; exact .of fun n => wpIn_label ⟨fr, ds, rfl, h⟩
  | goto l => intro Q fr ds w h; exact .of fun n => wpIn_goto ⟨fr, ds, rfl, h⟩
  | ret => intro Q fr ds w h; exact .of fun n => wpIn_ret ⟨fr, ds, rfl, h⟩
  | refuse why => intro Q fr ds w h; exact Stk.elim h
end sound

end Go.RV


set_option linter.unusedVariables false
set_option linter.unusedSimpArgs false
namespace Go.RV
open Go

structure TakeN (r : Nat) (w : World) (K : World → Prop) : Prop where
  out : w.heap[r]? = some (.deferred (some [])) ∧ K { w with heap := w.heap.setIfInBounds r (.deferred none) }

def leaveK : List Deferred → World → (World → Prop) → Prop
  | [], w, K => K w
  | d :: ds, w, K => match d.target with
    | .collected r => TakeN r w fun w => leaveK ds w K
    | _ => Stk "deferred"

def resK (T : Tab) : List ResultVar → Fr → World → (List Value → Prop) → Prop
  | [], _, _, K => K []
  | .tmp t :: rs, fr, w, K => getK fr t fun v => resK T rs fr w fun vs => K (v :: vs)
  | .cell a t :: rs, fr, w, K => getK fr a fun av => match av with
    | .pointer (some a) => loadK T t a w fun v => resK T rs fr w fun vs => K (v :: vs)
    | _ => Stk "result"

def retK (T : Tab) (rs : List ResultVar) (fr : Fr) (w : World) (K : Value → Prop) : Prop :=
  resK T rs fr w fun vs => match vs with
    | [v] => K v
    | vs => K (.tuple vs.toArray)

def retQ (T : Tab) (rs : List ResultVar) (R : Value → World → Prop) : Post := fun e fr ds w =>
  match e with
  | .normal => leaveK ds w fun w => retK T rs fr w fun v => R v w
  | .ret => leaveK ds w fun w => retK T rs fr w fun v => R v w
  | _ => Stk "left"

section sound
variable {P : Program} {T : Tab} (hT : TabOk P T)

theorem run_takeDeferred {r : Nat} {w : World} (h : w.heap[r]? = some (.deferred (some []))) : (Instr.takeDeferred r).run P w = .ok [] { w with heap := w.heap.setIfInBounds r (.deferred none) } := by
  simp [Instr.takeDeferred, getObj, setObj, Sem.run, h]

theorem leaveK_ok {fn : Func} {tmps : Array Value} {R : Ending → World → Prop} {F : Fence} {n : Nat} : ∀ {ds : List Deferred} {w : World}, leaveK ds w (fun w => ∃ v, (results fn tmps).run P w = .ok v w ∧ R (.returned v) w) →
    LeavesInM F n P fn tmps R ds .returning w
  | [], w, h => by
    unfold leaveK at h
    exact h
  | d :: ds, w, h => by
    unfold leaveK at h
    refine ⟨by simp, ?_⟩
    split at h
    · rename_i r hr
      replace h := h.out
      obtain ⟨h1, h2⟩ := h
      exact .inl ⟨r, _, hr, run_takeDeferred h1, leaveK_ok h2⟩
    · exact h.elim
theorem leaveK_mono {K K' : World → Prop} (hk : ∀ w, K w → K' w) : ∀ {ds : List Deferred} {w : World}, leaveK ds w K → leaveK ds w K'
  | [], w, h => hk _ h
  | d :: ds, w, h => by
    unfold leaveK at h ⊢
    split at h
    · rename_i r hr
      exact ⟨⟨h.out.1, leaveK_mono hk h.out.2⟩⟩
    · exact h.elim

include hT in
theorem run_loadVar_same {t : Nat} {a : Addr} {w : World} {K : Value → Prop} (h : loadK T t a w K) : ∃ v, (loadVar t a).run P w = .ok v w ∧ K v := by
  have h1 := loadK_ok (P := P) hT (K := fun v w' => w' = w ∧ K v) (t := t) (a := a) (w := w) (by
    unfold loadK at h ⊢
    split at h
    · split at h
      · split at h
        · obtain ⟨vs, a, b, c⟩ := h.out
          exact ⟨⟨vs, a, b, rfl, c⟩⟩
        · exact h.elim
      · obtain ⟨v, a, b⟩ := h.out
        exact ⟨⟨v, a, rfl, b⟩⟩
    · exact h.elim)
  obtain ⟨v, w', hr, rfl, hk⟩ := h1.run
  exact ⟨v, hr, hk⟩

include hT in
theorem resK_ok {fr : Fr} {w : World} : ∀ {rs : List ResultVar} {K : List Value → Prop}, resK T rs fr w K →
    ∃ vs, (rs.mapM (fun
      | .tmp t => pure (fr.toArray.getD t undef)
      | .cell a t => do loadVar t (← asAddr (fr.toArray.getD a undef))) : Sem (List Value)).run P w = .ok vs w ∧ K vs
  | [], K, h => ⟨[], rfl, h⟩
  | .tmp t :: rs, K, h => by
    have h1 := getK_ok (K := fun v => resK T rs fr w fun vs => K (v :: vs)) h
    obtain ⟨vs, hr, hk⟩ := resK_ok h1
    refine ⟨_ :: vs, ?_, hk⟩
    simp only [List.mapM_cons, Sem.run_bind, Sem.run_pure, Result.andThen_ok, hr]
    simp
  | .cell a t :: rs, K, h => by
    have h1 := getK_ok (K := fun av => match av with
      | .pointer (some a) => loadK T t a w fun v => resK T rs fr w fun vs => K (v :: vs)
      | _ => Stk "result") h
    split at h1
    · rename_i ad hav
      obtain ⟨v, hr, h2⟩ := run_loadVar_same hT h1
      obtain ⟨vs, hr2, hk⟩ := resK_ok h2
      refine ⟨v :: vs, ?_, hk⟩
      have hav' : fr.toArray.getD a undef = .pointer (some ad) := by simpa using hav
      have ha : (asAddr (fr.toArray.getD a undef)).run P w = .ok ad w := by rw [hav']; rfl
      simp only [List.mapM_cons, Sem.run_bind, ha, Sem.run_pure, Result.andThen_ok, hr, hr2]
    · exact h1.elim

include hT in
theorem retK_ok {fn : Func} {fr : Fr} {w : World} {K : Value → Prop} (h : retK T fn.results.toList fr w K) : ∃ v, (results fn fr.toArray).run P w = .ok v w ∧ K v := by
  obtain ⟨vs, hr, hk⟩ := resK_ok (P := P) hT h
  have hm : (fn.results.mapM (fun
      | .tmp t => pure (fr.toArray.getD t undef)
      | .cell a t => do loadVar t (← asAddr (fr.toArray.getD a undef))) : Sem (Array Value)).run P w = .ok vs.toArray w := by
    rw [Array.mapM_eq_mapM_toList, Sem.run_map, hr]
    rfl
  refine ⟨(if h : vs.toArray.size = 1 then vs.toArray[0] else .tuple vs.toArray), ?_, ?_⟩
  · unfold results
    rw [Sem.run_bind]
    exact (congrArg (fun z => Result.andThen z _) hm).trans rfl
  · split at hk
    · exact hk
    · rename_i hne
      have : ¬ vs.toArray.size = 1 := by
        intro h1
        match vs, h1, hne with
        | [v], _, hne => exact hne v rfl
      rw [dif_neg this]
      exact hk

include hT in
/-- **A function's contract, from what its body reduces to.** -/
theorem calls_i {f : FuncId} {fn : Func} {c : Code} {args : List Value} {w : World} {R : Value → World → Prop} (hf : P.funcs[f]? = some fn) (hb : fn.body = some c)
    (hx : X T P none c (retQ T fn.results.toList R) (args ++ List.replicate (fn.ntmps - args.length) undef) [] w) :
    Calls P f args.toArray w fun e w' => ∃ v, e = .returned v ∧ R v w' := by
  refine callsIn_wide.1 (callsIn_of_wp_marks (n := 0) hf hb trivial ?_)
  have h1 := (X_ok hT none c hx).out 0
  have ht : args.toArray ++ Array.replicate (fn.ntmps - args.toArray.size) undef = (args ++ List.replicate (fn.ntmps - args.length) undef).toArray := by
    apply Array.ext'
    simp
  rw [ht]
  refine wpIn_mono h1 ?_
  rintro e a' w' ⟨fr, ds, rfl, hq⟩
  cases e with
  | normal => exact leaveK_ok (leaveK_mono (fun w hk => by obtain ⟨v, hr, hv⟩ := retK_ok (fn := fn) hT hk; exact ⟨v, hr, v, rfl, hv⟩) hq)
  | ret => exact leaveK_ok (leaveK_mono (fun w hk => by obtain ⟨v, hr, hv⟩ := retK_ok (fn := fn) hT hk; exact ⟨v, hr, v, rfl, hv⟩) hq)
  | _ => exact Stk.elim hq

theorem fc_of_calls {f : FuncId} {fn : Func} {c : Code} {args : List Value} {w : World} {R : Value → World → Prop} (hf : P.funcs[f]? = some fn) (hb : fn.body = some c) (hn : (fn.name == "runtime.NumGoroutine") = false)
    (h : Calls P f args.toArray w fun e w' => ∃ v, e = .returned v ∧ R v w') : Fc P f args w R := by
  refine ⟨?_⟩; unfold callFunc
  refine SemW.bind (SemW.program ?_)
  rw [hf]
  simp only [hn, Bool.false_eq_true, if_false, hb, Option.isNone_some]
  exact SemW.pure h

include hT in
theorem fc_i {f : FuncId} {fn : Func} {c : Code} {args : List Value} {w : World} {R : Value → World → Prop} (hf : P.funcs[f]? = some fn) (hb : fn.body = some c) (hn : (fn.name == "runtime.NumGoroutine") = false)
    (hx : X T P none c (retQ T fn.results.toList R) (args ++ List.replicate (fn.ntmps - args.length) undef) [] w) : Fc P f args w R :=
  fc_of_calls hf hb hn (calls_i hT hf hb hx)

theorem calls_of_fc {f : FuncId} {fn : Func} {c : Code} {args : List Value} {w : World} {R : Value → World → Prop} (hf : P.funcs[f]? = some fn) (hb : fn.body = some c) (hn : (fn.name == "runtime.NumGoroutine") = false)
    (h : Fc P f args w R) : Calls P f args.toArray w fun e w' => ∃ v, e = .returned v ∧ R v w' := by
  replace h := h.out
  unfold callFunc at h
  obtain ⟨x, w', hr, hx⟩ := h.run
  rw [Sem.run_bind] at hr
  have hp : (Go.program).run P w = .ok P w := rfl
  rw [hp] at hr
  simp only [Result.andThen_ok, hf, hn, Bool.false_eq_true, if_false, hb, Option.isNone_some] at hr
  have hr' : Result.ok (Next.enter f args.toArray) w = Result.ok x w' := hr
  cases hr'
  exact hx
end sound

def memN : List Nat → Nat → Bool
  | [], _ => false
  | m :: ms, n => match Nat.beq m n with
    | true => true
    | false => memN ms n
def lkU : List (Nat × Value) → Nat → Option Value
  | [], _ => none
  | (m, v) :: ms, n => match Nat.beq m n with
    | true => some v
    | false => lkU ms n
def ovL (W : List Nat) (us : Nat → Value) (up : List (Nat × Value)) : Nat → Fr → Fr
  | _, [] => []
  | j, x :: xs => (match lkU up j with
    | some v => v
    | none => match memN W j with
      | true => us j
      | false => x) :: ovL W us up (j+1) xs
def ovK (W : List Nat) (us : Nat → Value) (up : List (Nat × Value)) : Nat → Fr → (Fr → Prop) → Prop
  | _, [], K => K []
  | j, x :: xs, K => match lkU up j with
    | some v => ovK W us up (j+1) xs fun ys => K (v :: ys)
    | none => match memN W j with
      | true => ovK W us up (j+1) xs fun ys => K (us j :: ys)
      | false => ovK W us up (j+1) xs fun ys => K (x :: ys)
theorem ovK_ok {W : List Nat} {us : Nat → Value} {up : List (Nat × Value)} : ∀ {fr : Fr} {j : Nat} {K : Fr → Prop}, ovK W us up j fr K → K (ovL W us up j fr)
  | [], _, _, h => h
  | x :: xs, j, K, h => by
    unfold ovK at h
    unfold ovL
    split at h
    · rename_i v hv
      exact ovK_ok (K := fun ys => K (v :: ys)) h
    · split at h
      · exact ovK_ok (K := fun ys => K (us j :: ys)) h
      · exact ovK_ok (K := fun ys => K (x :: ys)) h
def dsts : List Oper → List Nat
  | [] => []
  | o :: os => match o.dst with
    | some d => d :: dsts os
    | none => dsts os
def wrC : Code → List Nat
  | .region _ ops _ => dsts ops.toList
  | .seq a b => wrC a ++ wrC b
  | .cond _ a b => wrC a ++ wrC b
  | .block _ c => wrC c
  | .loop c => wrC c
  | .scope c => wrC c
  | _ => []

theorem least_of {p : Nat → Prop} : ∀ n, p n → ∃ m, p m ∧ ∀ k, p k → m ≤ k := by
  intro n
  induction n using Nat.strongRecOn with
  | _ n ih =>
    intro hn
    by_cases h : ∃ k, k < n ∧ p k
    · obtain ⟨k, hk, hp⟩ := h
      exact ih k hk hp
    · refine ⟨n, hn, fun k hk => ?_⟩
      rcases Nat.lt_or_ge k n with h1 | h1
      · exact absurd ⟨k, h1, hk⟩ h
      · exact h1

section loop
variable {P : Program} {T : Tab} (hT : TabOk P T)
include hT
/-- **A loop.** 'up s': what the slots hold at the head of a round in state s; 'us': what the other slots hold that the body writes. -/
theorem loop_i {r : Option Nat} {c : Code} {Q : Post} {fr : Fr} {ds : List Deferred} {w : World} {σ : Type} (up : σ → List (Nat × Value)) (I : σ → World → Prop) (μ : σ → Nat) (s0 : σ)
    (h0 : ovL (wrC c) (fun j => fr.getD j undef) (up s0) 0 fr = fr) (hI : I s0 w)
    (hr : ∀ s us w, I s w → ovK (wrC c) us (up s) 0 fr fun fr' => X T P r c (fun e fr'' ds' w' => match e with
      | .normal => ds' = ds ∧ ∃ s', ovL (wrC c) (fun j => fr''.getD j undef) (up s') 0 fr = fr'' ∧ I s' w' ∧ μ s' < μ s
      | e => Q e fr'' ds' w') fr' ds w) : Wp P r (.loop c) Q fr ds w := by
  refine .of fun n => ?_
  classical
  let p : Act → World → Nat → Prop := fun a w k => ∃ s us, a = ⟨(ovL (wrC c) us (up s) 0 fr).toArray, ds⟩ ∧ I s w ∧ μ s = k
  let J : Act → World → Prop := fun a w => ∃ k, p a w k
  let m : Act → World → Nat := fun a w => if h : ∃ k, p a w k then Classical.choose (least_of h.choose h.choose_spec) else 0
  have hm : ∀ a w, J a w → p a w (m a w) ∧ ∀ k, p a w k → m a w ≤ k := by
    intro a w h
    have e : m a w = Classical.choose (least_of h.choose h.choose_spec) := dif_pos h
    rw [e]
    exact Classical.choose_spec (least_of h.choose h.choose_spec)
  refine wpIn_loop J m ⟨μ s0, s0, fun j => fr.getD j undef, by rw [h0], hI, rfl⟩ ?_
  intro a w hJ
  obtain ⟨s, us, ha, hs, hk⟩ := (hm a w hJ).1
  have h1 := ovK_ok (hr s us w hs)
  subst ha
  refine wpIn_mono ((X_ok hT r c h1).out n) ?_
  rintro e a' w' ⟨fr'', ds', rfl, hq⟩
  cases e with
  | normal =>
    obtain ⟨rfl, s', hfr, hI', hlt⟩ := hq
    have hp : p ⟨fr''.toArray, ds'⟩ w' (μ s') := ⟨s', fun j => fr''.getD j undef, by rw [hfr], hI', rfl⟩
    refine ⟨⟨_, hp⟩, ?_⟩
    have := (hm _ _ ⟨_, hp⟩).2 _ hp
    omega
  | _ => exact ⟨fr'', ds', rfl, hq⟩
end loop

end Go.RV


set_option linter.unusedVariables false
set_option linter.unusedSimpArgs false
namespace Go.RV
open Go Go.RowKit

abbrev LM := List (Nat × Obj)

/-- From w0 to w: of what lay there only the blocks of M may have turned; L tells blocks of M or new ones. -/
structure St (M : List Nat) (w0 w : World) (L : LM) : Prop where
  os : w.os = w0.os
  tape : w.tape = w0.tape
  output : w.output = w0.output
  size : w0.heap.size ≤ w.heap.size
  old : ∀ k, k < w0.heap.size → k ∉ M → w.heap[k]? = w0.heap[k]?
  own : ∀ b o, (b, o) ∈ L → w.heap[b]? = some o
  new : ∀ b o, (b, o) ∈ L → w0.heap.size ≤ b ∨ b ∈ M
  nod : (L.map (·.1)).Nodup

theorem St.refl (w : World) : St [] w w [] :=
  ⟨rfl, rfl, rfl, Nat.le_refl _, fun _ _ _ => rfl, fun _ _ h => (nomatch h), fun _ _ h => (nomatch h), by simp⟩
section st
variable {M : List Nat} {w0 w w' : World} {L L' : LM}

theorem St.below (h : St [] w0 w L) : Below w0.heap.size w0 w :=
  ⟨h.os, h.tape, h.output, h.size, fun k hk => h.old k hk (by simp)⟩
theorem St.lt (h : St M w0 w L) {b : Nat} {o : Obj} (hb : (b, o) ∈ L) : b < w.heap.size := by
  have := h.own b o hb
  rcases Nat.lt_or_ge b w.heap.size with h1 | h1
  · exact h1
  · simp [Array.getElem?_eq_none h1] at this
theorem St.block (h : St M w0 w L) (k : Nat) {b : Nat} {o : Obj} (hk : L[k]? = some (b, o)) : w.heap[b]? = some o :=
  h.own b o (List.mem_of_getElem? hk)
theorem St.ge (h : St [] w0 w L) (k : Nat) {b : Nat} {o : Obj} (hk : L[k]? = some (b, o)) : w0.heap.size ≤ b := by
  rcases h.new b o (List.mem_of_getElem? hk) with h1 | h1
  · exact h1
  · cases h1

theorem St.sub (h : St M w0 w L) (hs : L'.Sublist L) : St M w0 w L' :=
  ⟨h.os, h.tape, h.output, h.size, h.old, fun b o hb => h.own b o (hs.subset hb), fun b o hb => h.new b o (hs.subset hb), List.Nodup.sublist (hs.map _) h.nod⟩
theorem St.perm (h : St M w0 w L) (hs : L'.Perm L) : St M w0 w L' :=
  ⟨h.os, h.tape, h.output, h.size, h.old, fun b o hb => h.own b o (hs.subset hb), fun b o hb => h.new b o (hs.subset hb), (hs.map _).nodup_iff.2 h.nod⟩
theorem St.nil (h : St M w0 w L) : St M w0 w [] := h.sub (List.nil_sublist _)

theorem St.alloc (h : St M w0 w L) (o : Obj) : St M w0 { w with heap := w.heap.push o } ((w.heap.size, o) :: L) where
  os := h.os
  tape := h.tape
  output := h.output
  size := by have := h.size; simp; omega
  old := fun k hk hM => by rw [← h.old k hk hM]; have := h.size; simp only [Array.getElem?_push]; rw [if_neg (by omega)]
  own := fun b o' hb => by
    rcases List.mem_cons.1 hb with e | hb
    · cases e; simp
    · have h1 := h.lt hb
      simp only [Array.getElem?_push]
      rw [if_neg (by omega)]
      exact h.own b o' hb
  new := fun b o' hb => by
    rcases List.mem_cons.1 hb with e | hb
    · cases e; exact .inl h.size
    · exact h.new b o' hb
  nod := by
    simp only [List.map_cons, List.nodup_cons]
    refine ⟨?_, h.nod⟩
    intro hm
    obtain ⟨⟨b, o'⟩, hb, e⟩ := List.mem_map.1 hm
    have h1 := h.lt hb
    simp only at e
    omega

/-- another object in a block that is told -/
theorem St.put (h : St M w0 w L) (k : Nat) {b : Nat} {o : Obj} (hk : L[k]? = some (b, o)) (o' : Obj) (hw : w'.heap.size = w.heap.size ∧ w'.os = w.os ∧ w'.tape = w.tape ∧ w'.output = w.output)
    (h1 : w'.heap[b]? = some o') (h2 : ∀ j, j ≠ b → w'.heap[j]? = w.heap[j]?) : St M w0 w' (L.set k (b, o')) where
  os := hw.2.1.trans h.os
  tape := hw.2.2.1.trans h.tape
  output := hw.2.2.2.trans h.output
  size := by rw [hw.1]; exact h.size
  old := fun j hj hM => by
    rw [h2 j ?_]
    · exact h.old j hj hM
    · intro e
      subst e
      rcases h.new j o (List.mem_of_getElem? hk) with h3 | h3
      · omega
      · exact hM h3
  own := fun b' o'' hb => by
    obtain ⟨j, hj⟩ := List.getElem?_of_mem hb
    rw [List.getElem?_set] at hj
    by_cases hjk : k = j
    · subst hjk
      rw [if_pos rfl] at hj
      split at hj
      · cases hj; exact h1
      · cases hj
    · rw [if_neg hjk] at hj
      have hne : b' ≠ b := by
        intro e
        subst e
        have hn := h.nod
        have e1 : (L.map (·.1))[j]? = some b' := by simp [hj]
        have e2 : (L.map (·.1))[k]? = some b' := by simp [hk]
        have hl : k < (L.map (·.1)).length := by
          rcases Nat.lt_or_ge k (L.map (·.1)).length with h | h
          · exact h
          · simp [List.getElem?_eq_none h] at e2
        exact hjk ((List.getElem?_inj hl hn).1 (e2.trans e1.symm))
      rw [h2 b' hne]
      exact h.own b' o'' (List.mem_of_getElem? hj)
  new := fun b' o'' hb => by
    obtain ⟨j, hj⟩ := List.getElem?_of_mem hb
    rw [List.getElem?_set] at hj
    split at hj
    · split at hj
      · cases hj; exact h.new b o (List.mem_of_getElem? hk)
      · cases hj
    · exact h.new b' o'' (List.mem_of_getElem? hj)
  nod := by
    have e : (L.set k (b, o')).map (·.1) = L.map (·.1) := by
      rw [List.map_set]
      apply List.ext_getElem?
      intro i
      rw [List.getElem?_set]
      split
      · rename_i hki
        subst hki
        split
        · simp [hk]
        · rename_i hlt
          simp only [List.length_map, Nat.not_lt] at hlt
          simp [List.getElem?_eq_none hlt]
      · rfl
    rw [e]
    exact h.nod

theorem St.cell (h : St M w0 w L) (k : Nat) {b off : Nat} {cs : Array Value} {e : TypeId} {fz : Nat × Nat} {v : Value} (hk : L[k]? = some (b, .cells cs e fz)) (hv : cs.toList[off]? = some v) : w.cell? ⟨b, off, none⟩ = some v := by
  have h1 := h.block k hk
  simp only [World.cell?, h1]
  simpa using hv
theorem St.frozen (h : St M w0 w L) (k : Nat) {b off : Nat} {cs : Array Value} {e : TypeId} {lo hi : Nat} (hk : L[k]? = some (b, .cells cs e (lo, hi))) : w.frozen? ⟨b, off, none⟩ = (lo ≤ off && off < hi) := by
  have h1 := h.block k hk
  simp only [World.frozen?, h1]

theorem setCell_heap_same {w : World} {b off : Nat} {cs : Array Value} {e : TypeId} {fz : Nat × Nat} (v : Value) (h : w.heap[b]? = some (.cells cs e fz)) :
    (w.setCell ⟨b, off, none⟩ v).heap[b]? = some (.cells (cs.setIfInBounds off v) e fz) := by
  simp only [World.setCell, Array.getElem?_modify, h]
  simp
theorem setCell_heap_ne {w : World} {b off j : Nat} (v : Value) (h : j ≠ b) : (w.setCell ⟨b, off, none⟩ v).heap[j]? = w.heap[j]? := by
  simp only [World.setCell, Array.getElem?_modify]
  rw [if_neg (fun e => h e.symm)]

theorem St.setCell (h : St M w0 w L) (k : Nat) {b : Nat} (off : Nat) {cs : Array Value} {e : TypeId} {fz : Nat × Nat} (v : Value) (hk : L[k]? = some (b, .cells cs e fz)) :
    St M w0 (w.setCell ⟨b, off, none⟩ v) (L.set k (b, .cells (cs.toList.set off v).toArray e fz)) := by
  have h1 := setCell_heap_same (off := off) v (h.block k hk)
  have e1 : cs.setIfInBounds off v = (cs.toList.set off v).toArray := by
    apply Array.ext'
    simp
  rw [e1] at h1
  exact h.put k hk _ ⟨by simp [World.setCell], rfl, rfl, rfl⟩ h1 (fun j hj => setCell_heap_ne v hj)

/-- a call that changes nothing that was there -/
theorem St.call (h : St M w0 w L) (h' : St [] w w' L') : St M w0 w' (L' ++ L) where
  os := h'.os.trans h.os
  tape := h'.tape.trans h.tape
  output := h'.output.trans h.output
  size := Nat.le_trans h.size h'.size
  old := fun k hk hM => (h'.old k (Nat.lt_of_lt_of_le hk h.size) (by simp)).trans (h.old k hk hM)
  own := fun b o hb => by
    rcases List.mem_append.1 hb with hb | hb
    · exact h'.own b o hb
    · rw [h'.old b (h.lt hb) (by simp)]; exact h.own b o hb
  new := fun b o hb => by
    rcases List.mem_append.1 hb with hb | hb
    · rcases h'.new b o hb with h1 | h1
      · exact .inl (Nat.le_trans h.size h1)
      · cases h1
    · exact h.new b o hb
  nod := by
    rw [List.map_append, List.nodup_append]
    refine ⟨h'.nod, h.nod, ?_⟩
    intro a ha b hb e
    subst e
    obtain ⟨⟨a1, o1⟩, h1, rfl⟩ := List.mem_map.1 ha
    obtain ⟨⟨a2, o2⟩, h2, e2⟩ := List.mem_map.1 hb
    simp only at e2
    subst e2
    rcases h'.new _ _ h1 with h3 | h3
    · have := h.lt h2; omega
    · cases h3

/-- a call that may change the blocks of M', all of which are told; the others stay -/
theorem St.callM {M' : List Nat} {Lk : LM} (h : St M w0 w L) (h' : St M' w w' L') (hM : ∀ b ∈ M', ∃ o, (b, o) ∈ L) (hs : Lk.Sublist L) (hk : ∀ x ∈ Lk, x.1 ∉ M') : St M w0 w' (L' ++ Lk) where
  os := h'.os.trans h.os
  tape := h'.tape.trans h.tape
  output := h'.output.trans h.output
  size := Nat.le_trans h.size h'.size
  old := fun k hk' hMk => by
    refine (h'.old k (Nat.lt_of_lt_of_le hk' h.size) ?_).trans (h.old k hk' hMk)
    intro hm
    obtain ⟨o, ho⟩ := hM k hm
    rcases h.new k o ho with h1 | h1
    · omega
    · exact hMk h1
  own := fun b o hb => by
    rcases List.mem_append.1 hb with hb | hb
    · exact h'.own b o hb
    · rw [h'.old b (h.lt (hs.subset hb)) (hk _ hb)]; exact h.own b o (hs.subset hb)
  new := fun b o hb => by
    rcases List.mem_append.1 hb with hb | hb
    · rcases h'.new b o hb with h1 | h1
      · exact .inl (Nat.le_trans h.size h1)
      · obtain ⟨o', ho'⟩ := hM b h1
        exact h.new b o' ho'
    · exact h.new b o (hs.subset hb)
  nod := by
    rw [List.map_append, List.nodup_append]
    refine ⟨h'.nod, List.Nodup.sublist (hs.map _) h.nod, ?_⟩
    intro a ha b hb e
    subst e
    obtain ⟨⟨a1, o1⟩, h1, rfl⟩ := List.mem_map.1 ha
    obtain ⟨⟨a2, o2⟩, h2, e2⟩ := List.mem_map.1 hb
    simp only at e2
    subst e2
    rcases h'.new _ _ h1 with h3 | h3
    · have := h.lt (hs.subset h2); omega
    · exact hk _ h2 h3

/-- a draw of an answer turns no block -/
theorem St.drew (h : St M w0 w L) (n : Nat) : St M w0 { w with drawn := n } L := ⟨h.os, h.tape, h.output, h.size, h.old, h.own, h.new, h.nod⟩

def setLK (L : LM) (k : Nat) (x : Nat × Obj) (K : LM → Prop) : Prop :=
  match L, k with
  | [], _ => K []
  | _ :: L, 0 => K (x :: L)
  | y :: L, k+1 => setLK L k x fun L => K (y :: L)
theorem setLK_ok {x : Nat × Obj} : ∀ {L : LM} {k : Nat} {K : LM → Prop}, setLK L k x K → K (L.set k x)
  | [], _, _, h => by simpa [setLK] using h
  | _ :: L, 0, _, h => by simpa [setLK] using h
  | y :: L, k+1, K, h => by
    have h1 : setLK L k x fun L => K (y :: L) := by simpa [setLK] using h
    have h2 := setLK_ok (K := fun L => K (y :: L)) h1
    simpa using h2
theorem nw_s {o : Obj} {K : Nat → World → Prop} (hS : St M w0 w L) (h : ∀ b w', St M w0 w' ((b, o) :: L) → K b w') : Nw w o K := by
  refine ⟨?_⟩; exact h _ _ (hS.alloc o)
theorem ldN_s {b off n : Nat} {cs : Array Value} {e : TypeId} {fz : Nat × Nat} {K : List Value → Prop} (hS : St M w0 w L) (k : Nat) (hk : L[k]? = some (b, .cells cs e fz)) (hn : off + n ≤ cs.toList.length) (h : K ((cs.toList.drop off).take n)) : LdN w ⟨b, off, none⟩ n K := by
  refine ldN_i _ (by simp only [List.length_take, List.length_drop]; omega) ?_ h
  intro i hi
  rw [add_none, List.getElem?_take, if_pos hi, List.getElem?_drop]
  have hlt : off + i < cs.toList.length := by omega
  rw [List.getElem?_eq_getElem hlt]
  exact hS.cell k hk (List.getElem?_eq_getElem hlt)
/-- a whole block -/
theorem ldA_s {b n : Nat} {cs : Array Value} {e : TypeId} {fz : Nat × Nat} {K : List Value → Prop} (hS : St M w0 w L) (k : Nat) (hk : L[k]? = some (b, .cells cs e fz)) (hn : n = cs.toList.length) (h : K cs.toList) : LdN w ⟨b, 0, none⟩ n K := by
  refine ldN_s hS k hk (by omega) ?_
  subst hn
  rw [List.drop_zero, List.take_length]
  exact h
def one (v : Value) : Bool := match v with | .agg _ => false | .tuple _ => false | _ => true
theorem run_store {P : Program} {a : Addr} {v u : Value} (ho : one v = true) (hc : w.cell? a = some u) (hf : w.frozen? a = false) : (store a v).run P w = .ok () (w.setCell a v) := by
  cases v <;> first | (simp [one] at ho; done) | simp [store, Sem.run, hc, hf]
theorem stN_s {P : Program} {b off : Nat} {cs : Array Value} {e : TypeId} {lo hi : Nat} {v : Value} {K : World → Prop} (hS : St M w0 w L) (k : Nat) (hk : L[k]? = some (b, .cells cs e (lo, hi))) (hlt : off < cs.toList.length) (hfz : (decide (lo ≤ off) && decide (off < hi)) = false) (ho : one v = true)
    (h : setK cs.toList off v fun l => setLK L k (b, .cells l.toArray e (lo, hi)) fun L' => ∀ w', St M w0 w' L' → K w') : StN P w ⟨b, off, none⟩ [v] K := by
  have h1 := setLK_ok (setK_ok h)
  have h2 := hS.setCell k off v hk
  have hc : w.cell? ⟨b, off, none⟩ = some (cs.toList[off]'hlt) := hS.cell k hk (List.getElem?_eq_getElem hlt)
  have hf : w.frozen? ⟨b, off, none⟩ = false := (hS.frozen k hk).trans hfz
  refine ⟨?_⟩
  refine .of_run (w' := w.setCell ⟨b, off, none⟩ v) (a := ()) ?_ (h1 _ h2)
  simp only [storeCells, add_none, Nat.add_zero, Sem.run_bind]
  rw [run_store ho hc hf]
  rfl
end st

end Go.RV


set_option linter.unusedVariables false
set_option linter.unusedSimpArgs false
namespace Go.RV
open Go

def noDS (ops : Array Oper) : Bool := ops.all fun o => match o.op with | .select .. => false | .defer _ => false | _ => true
def waitsB (o : Oper) (i : Nat) : Bool := o.after.any fun e => Region.binds .any e && e.on == i
def apartD (ops : Array Oper) : Bool :=
  (List.range ops.size).all fun i => (List.range ops.size).all fun j => i == j ||
    (match ops[i]?, ops[j]? with
     | some oi, some oj => oi.apart ops oj || waitsB oj i || waitsB oi j
     | _, _ => false)
def cov (fr : Nat → Bool) (ops : Array Oper) (j : Nat) : Prop := ∀ oj, ops[j]? = some oj → ∀ k, k < ops.size → k ≠ j → fr k = false → waitsB oj k = true

section
variable {P : Program} {ops : Array Oper} {Q : Exit → Act → World → Prop} {S : World → Prop} {r : Option Nat} {n : Nat} {fre ld : Nat → Bool}

/-- in every world that meets S the operation leaves v, and does nothing else -/
def YS (P : Program) (ops : Array Oper) (S : World → Prop) (o : Oper) (v : Value) (a : Act) : Prop :=
  (Region.wanted o (yielded ops a.tmps) = true ∧ ∀ w, S w → (execOp a.eval o).run P w = .ok (.value v) w) ∨
  (Region.wanted o (yielded ops a.tmps) = false ∧ v = undef)

theorem YS.of_same {o : Oper} {v : Value} {a a' : Act} (hy : YS P ops S o v a) (he : execOp a'.eval o = execOp a.eval o)
    (hw : Region.wanted o (yielded ops a'.tmps) = Region.wanted o (yielded ops a.tmps)) : YS P ops S o v a' := by
  unfold YS at *
  rw [he, hw]
  exact hy

theorem noDS_spec (h : noDS ops = true) {j : Nat} {o : Oper} (ho : ops[j]? = some o) : (∀ cs b, o.op ≠ .select cs b) ∧ ∀ c, o.op ≠ .defer c := by
  unfold noDS at h
  rw [Array.all_eq_true] at h
  obtain ⟨hlt, hj⟩ := Array.getElem?_eq_some_iff.1 ho
  have h1 := h j hlt
  rw [hj] at h1
  constructor
  · intro cs b e; rw [e] at h1; cases h1
  · intro c e; rw [e] at h1; cases h1

theorem YS.wpOpIn {i : Nat} {o : Oper} {v : Value} {a : Act} (hn : noDS ops = true) (hi : ops[i]? = some o) (hy : YS P ops S o v a)
    {K : Act → World → Prop} {w : World} (hS : S w) (h : K (a.put o.dst v) w) : wpOpIn (FR r) n P ops Q i K a w := by
  unfold Go.wpOpIn
  simp only [hi]
  rcases hy with ⟨hw, hv⟩ | ⟨hw, rfl⟩
  · simp only [hw, if_true, Oper.wpIn]
    refine ⟨fun _ _ => trivial, ?_⟩
    rw [Oper.semAt_eq _ _ _ (noDS_spec hn hi).2, hv w hS]
    exact h
  · simp only [hw, Bool.false_eq_true, if_false]
    exact ⟨fun _ _ => trivial, h⟩

theorem wpOpIn_putS {i j : Nat} {oi oj : Oper} {v : Value} (hn : noDS ops = true) (hi : ops[i]? = some oi) (hj : ops[j]? = some oj) (hap : oi.apart ops oj = true)
    (hQ : ∀ c a w, Q (.panic c) (a.put oi.dst v) w → Q (.panic c) a w) {K : Act → World → Prop} {a : Act} {w : World}
    (hy : YS P ops S oi v a) (h : wpOpIn (FR r) n P ops Q j K (a.put oi.dst v) w) :
    wpOpIn (FR r) n P ops Q j (fun a' w' => YS P ops S oi v a' ∧ K (a'.put oi.dst v) w') a w := by
  obtain ⟨h1, h2, h3⟩ := Oper.apart_spec hap
  obtain ⟨hsi, _⟩ := noDS_spec hn hi
  obtain ⟨hsj, hdj⟩ := noDS_spec hn hj
  have keep : ∀ (a : Act), YS P ops S oi v a → ∀ u, YS P ops S oi v (a.put oj.dst u) := fun a hy u =>
    hy.of_same (execOp_put oi hsi a oj.dst u h3) (wanted_put oi a oj.dst u h3)
  have keepD : ∀ d, YS P ops S oi v { a with defers := d :: a.defers } := fun d => hy.of_same rfl rfl
  unfold wpOpIn at *
  simp only [hj] at *
  rw [wanted_put oj a oi.dst v h1] at h
  split
  · rename_i hw
    simp only [hw, if_true] at h
    unfold Oper.wpIn at *
    refine ⟨fun _ _ => trivial, ?_⟩
    have h := h.2
    rw [Oper.semAt_eq _ _ _ hdj, execOp_put oj hsj a oi.dst v h1] at h
    rw [Oper.semAt_eq _ _ _ hdj]
    generalize (execOp a.eval oj).run P w = r at *
    cases r with
    | ok x w' =>
      cases x <;> simp only [Oper.uponIn] at h ⊢
      case value u => exact ⟨keep a hy u, by rw [← Act.put_comm a v u h2]; exact h⟩
      case skip => exact ⟨keep a hy _, by rw [← Act.put_comm a v undef h2]; exact h⟩
      case defer d =>
        refine ⟨keep _ (keepD d) _, ?_⟩
        rw [← Act.put_comm _ v undef h2, ← Act.put_defers]
        exact h
      case enter f args =>
        refine ⟨h.1, CallsIn.mono h.2 fun e w'' he => ?_⟩
        cases e with
        | returned u => exact ⟨keep a hy u, by rw [← Act.put_comm a v u h2]; exact he⟩
        | panicked c => exact hQ _ _ _ he
        | outgrown => exact he
      case row row args => exact ⟨h.1, RowsIn.mono h.2 fun u w'' he => ⟨keep a hy u, by rw [← Act.put_comm a v u h2]; exact he⟩⟩
      case round l f tmps asg body =>
        refine ⟨h.1, RoundIn.mono h.2 fun e w'' he => ?_⟩
        cases e with
        | returned u => exact ⟨keep a hy u, by rw [← Act.put_comm a v u h2]; exact he⟩
        | panicked c => exact hQ _ _ _ he
        | outgrown => exact he
    | halt x w' =>
      cases x <;> simp only [Oper.uponIn] at h ⊢
      case panic u => exact hQ _ _ _ h
  · rename_i hw
    simp only [hw] at h
    exact ⟨fun _ _ => trivial, keep a hy _, by rw [← Act.put_comm a v undef h2]; exact h.2⟩

/-- j stands behind k -/
inductive TW (ops : Array Oper) (j : Nat) : Nat → Prop
  | one {k : Nat} {o : Oper} : ops[j]? = some o → waitsB o k = true → TW ops j k
  | more {m k : Nat} {o : Oper} : TW ops j m → ops[m]? = some o → waitsB o k = true → TW ops j k
/-- every load that was taken stands ahead of j, in every order -/
def bar (ld : Nat → Bool) (ops : Array Oper) (listed : Array Bool) (j : Nat) : Prop := ∀ k, listed.getD k false = true → ld k = true → k ≠ j → TW ops j k
def Closed (ops : Array Oper) (listed : Array Bool) : Prop := ∀ m o, listed.getD m false = true → ops[m]? = some o → ∀ k, waitsB o k = true → listed.getD k false = true

def AnyS (fre ld : Nat → Bool) (P : Program) (r : Option Nat) (n : Nat) (ops : Array Oper) (Q : Exit → Act → World → Prop) : (World → Prop) → Nat → Array Bool → Act → World → Prop
  | _, 0, listed, a, w => Region.ready .any ops listed = [] ∧ Q .normal a w
  | S, fuel + 1, listed, a, w =>
    (Region.ready .any ops listed = [] → Q .normal a w) ∧
    ∀ i ∈ Region.ready .any ops listed, wpOpIn (FR r) n P ops Q i (fun a' w' => ((cov fre ops i ∨ S w' ∨ w' = w) ∧ AnyS fre ld P r n ops Q S fuel (listed.setIfInBounds i true) a' w') ∨
      (bar ld ops listed i ∧ ∃ S', AnyS fre ld P r n ops Q S' fuel (listed.setIfInBounds i true) a' w')) a w

theorem AnyS.any : ∀ (S : World → Prop) (fuel : Nat) (listed : Array Bool) (a : Act) (w : World), AnyS fre ld P r n ops Q S fuel listed a w → wpAnyIn (FR r) n P .any ops Q fuel listed a w
  | _, 0, _, _, _, h => h
  | S, fuel + 1, _, _, _, h => ⟨h.1, fun i hi => wpOpIn_mono (fun a' w' h' => by
    rcases h' with h' | ⟨_, S', h'⟩
    · exact AnyS.any S fuel _ a' w' h'.2
    · exact AnyS.any S' fuel _ a' w' h') (h.2 i hi)⟩

theorem apartD_spec (h : apartD ops = true) {i j : Nat} {oi oj : Oper} (hi : ops[i]? = some oi) (hj : ops[j]? = some oj) (hne : i ≠ j) : oi.apart ops oj = true ∨ waitsB oj i = true ∨ waitsB oi j = true := by
  unfold apartD at h
  have hi' : i < ops.size := (Array.getElem?_eq_some_iff.1 hi).1
  have hj' : j < ops.size := (Array.getElem?_eq_some_iff.1 hj).1
  rw [List.all_eq_true] at h
  have h1 := h i (by simpa using hi')
  rw [List.all_eq_true] at h1
  have h2 := h1 j (by simpa using hj')
  rw [hi, hj] at h2
  simp only [Bool.or_eq_true, beq_iff_eq, hne, false_or] at h2
  rcases h2 with (h2 | h2) | h2
  · exact .inl h2
  · exact .inr (.inl h2)
  · exact .inr (.inr h2)
theorem waits_listed {j i : Nat} {oj : Oper} {listed : Array Bool} (hj : j ∈ Region.ready .any ops listed) (hoj : ops[j]? = some oj) (h : waitsB oj i = true) : listed.getD i false = true := by
  obtain ⟨_, o, ho, hall⟩ := mem_ready.1 hj
  rw [hoj] at ho
  cases ho
  unfold waitsB at h
  rw [Array.any_eq_true] at h
  obtain ⟨k, hk, he⟩ := h
  simp only [Bool.and_eq_true, beq_iff_eq] at he
  rw [← he.2]
  exact hall _ (Array.getElem_mem hk) he.1
theorem unlisted {i : Nat} {listed : Array Bool} (hi : i ∈ Region.ready .any ops listed) : listed.getD i true = false := (mem_ready.1 hi).1
theorem not_both {i : Nat} {listed : Array Bool} (h1 : listed.getD i false = true) (h2 : listed.getD i true = false) : False := by
  rcases Nat.lt_or_ge i listed.size with h | h
  · simp [h] at h1 h2
    rw [h1] at h2
    cases h2
  · simp [Array.getElem?_eq_none h] at h1

theorem getD_put {listed : Array Bool} {i k : Nat} (h : listed.getD k false = true) : (listed.setIfInBounds i true).getD k false = true := by
  have hk : k < listed.size := by
    rcases Nat.lt_or_ge k listed.size with hk | hk
    · exact hk
    · simp [Array.getElem?_eq_none hk] at h
  by_cases e : i = k
  · subst e; simp [hk]
  · simpa [Array.getElem?_setIfInBounds_ne e] using h
theorem getD_own {listed : Array Bool} {i : Nat} (h : listed.getD i true = false) : (listed.setIfInBounds i true).getD i false = true := by
  have hk : i < listed.size := by
    rcases Nat.lt_or_ge i listed.size with hk | hk
    · exact hk
    · simp [Array.getElem?_eq_none hk] at h
  simp [hk]
theorem getD_back {listed : Array Bool} {i k : Nat} (hne : i ≠ k) (h : (listed.setIfInBounds i true).getD k false = true) : listed.getD k false = true := by
  simpa [Array.getElem?_setIfInBounds_ne hne] using h
theorem Closed.add {i : Nat} {listed : Array Bool} (h : Closed ops listed) (hi : i ∈ Region.ready .any ops listed) : Closed ops (listed.setIfInBounds i true) := by
  intro m o hm ho k hk
  by_cases e : i = m
  · subst e
    exact getD_put (waits_listed hi ho hk)
  · exact getD_put (h m o (getD_back e hm) ho k hk)
theorem TW.listed {j k : Nat} {listed : Array Bool} (hc : Closed ops listed) (hj : j ∈ Region.ready .any ops listed) (h : TW ops j k) : listed.getD k false = true := by
  induction h with
  | one ho hw => exact waits_listed hj ho hw
  | more _ ho hw ih => exact hc _ _ ih ho _ hw

/-- What only reads may be taken first. -/
theorem AnyS.first {i : Nat} {oi : Oper} {v : Value} (hn : noDS ops = true) (hA : apartD ops = true) (hi : ops[i]? = some oi) (hfi : fre i = false) (hld : ld i = true) (hQ : ∀ c a w, Q (.panic c) (a.put oi.dst v) w → Q (.panic c) a w) :
    ∀ (fuel : Nat) (listed : Array Bool) (a : Act) (w : World), Closed ops listed → i ∈ Region.ready .any ops listed → YS P ops S oi v a → S w →
      AnyS fre ld P r n ops Q S fuel (listed.setIfInBounds i true) (a.put oi.dst v) w → AnyS fre ld P r n ops Q S (fuel + 1) listed a w := by
  intro fuel
  induction fuel with
  | zero =>
    intro listed a w hcl hr hy hS H
    refine ⟨fun h => (by rw [h] at hr; cases hr), fun j hj => ?_⟩
    by_cases hji : j = i
    · subst hji; exact hy.wpOpIn hn hi hS (.inl ⟨.inr (.inl hS), H⟩)
    · have := ready_mono hj hji
      rw [H.1] at this
      cases this
  | succ fuel ih =>
    intro listed a w hcl hr hy hS H
    refine ⟨fun h => (by rw [h] at hr; cases hr), fun j hj => ?_⟩
    by_cases hji : j = i
    · subst hji; exact hy.wpOpIn hn hi hS (.inl ⟨.inr (.inl hS), H⟩)
    · have h1 := H.2 j (ready_mono hj hji)
      obtain ⟨_, oj, hoj, _⟩ := mem_ready.1 hj
      have hap : oi.apart ops oj = true := by
        rcases apartD_spec hA hi hoj (Ne.symm hji) with h | h | h
        · exact h
        · exact (not_both (waits_listed hj hoj h) (unlisted hr)).elim
        · exact (not_both (waits_listed hr hi h) (unlisted hj)).elim
      have hcov : ¬ cov fre ops j := by
        intro hc
        have := hc oj hoj i (Array.getElem?_eq_some_iff.1 hi).1 (Ne.symm hji) hfi
        exact not_both (waits_listed hj hoj this) (unlisted hr)
      have hbar : ¬ bar ld ops (listed.setIfInBounds i true) j := by
        intro hb
        exact not_both (TW.listed hcl hj (hb i (getD_own (unlisted hr)) hld (Ne.symm hji))) (unlisted hr)
      have h2 := wpOpIn_putS hn hi hoj hap hQ hy h1
      refine wpOpIn_mono (fun a' w' h3 => ?_) h2
      obtain ⟨hy', h4⟩ := h3
      rcases h4 with ⟨hs', h4⟩ | ⟨hb, _⟩
      · have hs : S w' := by
          rcases hs'.resolve_left hcov with h | h
          · exact h
          · rw [h]; exact hS
        refine .inl ⟨.inr (.inl hs), ih (listed.setIfInBounds j true) a' w' (hcl.add hj) (ready_mono hr (Ne.symm hji)) hy' hs ?_⟩
        rw [Array.setIfInBounds_comm _ _ hji]
        exact h4
      · exact (hbar hb).elim
/-- What touches no memory may be taken first, whatever the world is. -/
theorem AnyS.firstF {i : Nat} {oi : Oper} {v : Value} (hn : noDS ops = true) (hA : apartD ops = true) (hi : ops[i]? = some oi) (hQ : ∀ c a w, Q (.panic c) (a.put oi.dst v) w → Q (.panic c) a w) :
    ∀ (fuel : Nat) (S : World → Prop) (listed : Array Bool) (a : Act) (w : World), i ∈ Region.ready .any ops listed → YS P ops (fun _ => True) oi v a →
      AnyS fre ld P r n ops Q S fuel (listed.setIfInBounds i true) (a.put oi.dst v) w → AnyS fre ld P r n ops Q S (fuel + 1) listed a w := by
  intro fuel
  induction fuel with
  | zero =>
    intro S listed a w hr hy H
    refine ⟨fun h => (by rw [h] at hr; cases hr), fun j hj => ?_⟩
    by_cases hji : j = i
    · subst hji; exact hy.wpOpIn hn hi trivial (.inl ⟨.inr (.inr rfl), H⟩)
    · have := ready_mono hj hji
      rw [H.1] at this
      cases this
  | succ fuel ih =>
    intro S listed a w hr hy H
    refine ⟨fun h => (by rw [h] at hr; cases hr), fun j hj => ?_⟩
    by_cases hji : j = i
    · subst hji; exact hy.wpOpIn hn hi trivial (.inl ⟨.inr (.inr rfl), H⟩)
    · have h1 := H.2 j (ready_mono hj hji)
      obtain ⟨_, oj, hoj, _⟩ := mem_ready.1 hj
      have hap : oi.apart ops oj = true := by
        rcases apartD_spec hA hi hoj (Ne.symm hji) with h | h | h
        · exact h
        · exact (not_both (waits_listed hj hoj h) (unlisted hr)).elim
        · exact (not_both (waits_listed hr hi h) (unlisted hj)).elim
      have h2 := wpOpIn_putS hn hi hoj hap hQ hy h1
      refine wpOpIn_mono (fun a' w' h3 => ?_) h2
      obtain ⟨hy', h4⟩ := h3
      rcases h4 with ⟨hs', h4⟩ | ⟨hb, S', h4⟩
      · refine .inl ⟨hs', ih S (listed.setIfInBounds j true) a' w' (ready_mono hr (Ne.symm hji)) hy' ?_⟩
        rw [Array.setIfInBounds_comm _ _ hji]
        exact h4
      · refine .inr ⟨fun k hk hl hne => hb k (getD_put hk) hl hne, S', ih S' (listed.setIfInBounds j true) a' w' (ready_mono hr (Ne.symm hji)) hy' ?_⟩
        rw [Array.setIfInBounds_comm _ _ hji]
        exact h4
theorem AnyS.done {listed : Array Bool} {a : Act} {w : World} (hr : Region.ready .any ops listed = []) (h : Q .normal a w) : ∀ (S : World → Prop) (fuel : Nat), AnyS fre ld P r n ops Q S fuel listed a w
  | _, 0 => ⟨hr, h⟩
  | _, _ + 1 => ⟨fun _ => h, by rw [hr]; simp⟩
end

end Go.RV


set_option linter.unusedVariables false
set_option linter.unusedSimpArgs false
namespace Go.RV
open Go

structure Qn (T : Tab) (P : Program) (S : World → Prop) (o : Oper) (fr : Fr) (K : Value → Prop) : Prop where
  out : ∃ v, (∀ w, S w → xv T P o fr w fun v' w' => v' = v ∧ w' = w) ∧ K v
structure BarS (F : (World → Prop) → Prop) (w : World) : Prop where
  intro ::
  out : ∃ S, S w ∧ F S
structure AndS (A B : Prop) : Prop where
  intro ::
  left : A
  right : B

def lkB : List Bool → Nat → Bool
  | [], _ => false
  | b :: _, 0 => b
  | _ :: bs, n+1 => lkB bs n
def setB : List Bool → Nat → List Bool
  | [], _ => []
  | _ :: bs, 0 => true :: bs
  | b :: bs, n+1 => b :: setB bs n
def edgeOk (ls : List Bool) (e : Edge) : Bool :=
  match e.ground with
  | .textOnly _ => true
  | .gcOnly _ => true
  | _ => lkB ls e.on
def allE (ls : List Bool) : List Edge → Bool
  | [] => true
  | e :: es => match edgeOk ls e with
    | true => allE ls es
    | false => false
def isQ : Op → Bool
  | .move _ | .assign _ | .nilCheck _ | .pick .. | .binOp .. | .unOp .. | .fieldAddr .. | .field .. | .indexAddr .. | .index .. | .extract .. | .makeFunc .. | .slice .. | .load .. | .build .. => true
  | .call { callee := .builtin .len, .. } | .call { callee := .builtin .cap, .. } | .call { callee := .builtin .max, .. } | .call { callee := .builtin .min, .. } => true
  | _ => false
def isQT (T : Tab) : Op → Bool
  | .convert _ d _ => match und T d with
    | some (.int _) => true
    | _ => false
  | o => isQ o
/-- what only reads, and no memory -/
def isFT (T : Tab) : Op → Bool
  | .load _ _ => false
  | o => isQT T o
def findQ (T : Tab) (ls0 : List Bool) : List Oper → List Bool → Nat → Option (Nat × Oper)
  | o :: os, b :: bs, i => match b with
    | true => findQ T ls0 os bs (i+1)
    | false => match allE ls0 o.after.toList with
      | true => match isQT T o.op with
        | true => some (i, o)
        | false => findQ T ls0 os bs (i+1)
      | false => findQ T ls0 os bs (i+1)
  | _, _, _ => none
def rdyF (ls0 : List Bool) : List Oper → List Bool → Nat → List (Nat × Oper)
  | o :: os, b :: bs, i => match b with
    | true => rdyF ls0 os bs (i+1)
    | false => match allE ls0 o.after.toList with
      | true => (i, o) :: rdyF ls0 os bs (i+1)
      | false => rdyF ls0 os bs (i+1)
  | _, _, _ => []
def hasE (es : List Edge) (k : Nat) : Bool :=
  match es with
  | [] => false
  | e :: es => match edgeOk [] e with
    | true => hasE es k
    | false => match Nat.beq e.on k with
      | true => true
      | false => hasE es k
def covB (o : Oper) (i : Nat) : Nat → Bool
  | 0 => true
  | k+1 => match Nat.beq k i with
    | true => covB o i k
    | false => match hasE o.after.toList k with
      | true => covB o i k
      | false => false
def covFB (T : Tab) (o : Oper) (i : Nat) : List Oper → Nat → Bool
  | [], _ => true
  | p :: ps, k => match Nat.beq k i with
    | true => covFB T o i ps (k+1)
    | false => match isFT T p.op with
      | true => covFB T o i ps (k+1)
      | false => match hasE o.after.toList k with
        | true => covFB T o i ps (k+1)
        | false => false
def conjK {α : Type} : List α → (α → Prop) → Prop
  | [], _ => True
  | [x], F => F x
  | x :: xs, F => F x ∧ conjK xs F

def markE : List Edge → List Bool → List Bool
  | [], st => st
  | e :: es, st => match edgeOk [] e with
    | true => markE es st
    | false => markE es (setB st e.on)
/-- the operations that those of st stand behind -/
def clo : List Oper → Nat → List Bool → List Bool
  | [], _, st => st
  | o :: os, i, st => match lkB (clo os (i+1) st) i with
    | true => markE o.after.toList (clo os (i+1) st)
    | false => clo os (i+1) st
def isLd (T : Tab) (o : Op) : Bool := match isFT T o with
  | true => false
  | false => isQT T o
def barF (T : Tab) (i : Nat) (st : List Bool) : List Oper → List Bool → Nat → Bool
  | o :: os, b :: bs, k => match b with
    | false => barF T i st os bs (k+1)
    | true => match isLd T o.op with
      | false => barF T i st os bs (k+1)
      | true => match Nat.beq k i with
        | true => barF T i st os bs (k+1)
        | false => match lkB st k with
          | true => barF T i st os bs (k+1)
          | false => false
  | _, _, _ => true
def barB (T : Tab) (all : List Oper) (ls : List Bool) (i : Nat) : Bool := barF T i (clo all 0 (setB (List.replicate all.length false) i)) all ls 0

def stepD (T : Tab) (P : Program) (all : List Oper) (K : Fr → World → Prop) (ih : (World → Prop) → List Bool → Fr → World → Prop) (S : World → Prop) (ls : List Bool) (fr : Fr) (w : World) : Prop :=
  match findQ T ls all ls 0 with
  | some (i, o) => match isFT T o.op with
    | true => guK all fr o.guard
      (fun fr => Qn T P (fun _ => True) o fr fun v => putK fr o.dst v fun fr => ih S (setB ls i) fr w)
      (fun fr => putK fr o.dst undef fun fr => ih S (setB ls i) fr w)
    | false => guK all fr o.guard
      (fun fr => Qn T P S o fr fun v => putK fr o.dst v fun fr => ih S (setB ls i) fr w)
      (fun fr => putK fr o.dst undef fun fr => ih S (setB ls i) fr w)
  | none => match rdyF ls all ls 0 with
    | [] => K fr w
    | x :: xs => conjK (x :: xs) fun io => guK all fr io.2.guard
      (fun fr => xv T P io.2 fr w fun v w' => putK fr io.2.dst v fun fr => match covB io.2 io.1 all.length with
        | true => K fr w'
        | false => match covFB T io.2 io.1 all 0 with
          | true => ih S (setB ls io.1) fr w'
          | false => match barB T all ls io.1 with
            | true => BarS (fun S => ih S (setB ls io.1) fr w') w'
            | false => AndS (S w') (ih S (setB ls io.1) fr w'))
      (fun fr => putK fr io.2.dst undef fun fr => match covB io.2 io.1 all.length with
        | true => K fr w
        | false => ih S (setB ls io.1) fr w)
noncomputable def XD (T : Tab) (P : Program) (S : World → Prop) (all : List Oper) (K : Fr → World → Prop) (n : Nat) : List Bool → Fr → World → Prop :=
  Nat.rec (motive := fun _ => (World → Prop) → List Bool → Fr → World → Prop)
    (fun _ ls fr w => match rdyF ls all ls 0 with
      | [] => K fr w
      | _ :: _ => Stk "open")
    (fun _ ih S ls fr w => stepD T P all K ih S ls fr w) n S

theorem lkB_ok : ∀ {ls : List Bool} {i : Nat}, lkB ls i = ls.toArray.getD i false
  | [], i => by simp [lkB]
  | b :: _, 0 => by simp [lkB]
  | b :: bs, n+1 => by have := lkB_ok (ls := bs) (i := n); simp [lkB, this]
theorem setB_ok : ∀ {ls : List Bool} {i : Nat}, (setB ls i).toArray = ls.toArray.setIfInBounds i true
  | [], i => by simp [setB]
  | b :: bs, 0 => by simp [setB]
  | b :: bs, n+1 => by have := setB_ok (ls := bs) (i := n); simp [setB] at this ⊢; exact this
theorem edgeOk_ok {ls : List Bool} {e : Edge} : edgeOk ls e = true ↔ (Region.binds .any e = true → ls.toArray.getD e.on false = true) := by
  unfold edgeOk Region.binds
  rw [← lkB_ok]
  cases e.ground <;> simp
theorem allE_ok {ls : List Bool} : ∀ {es : List Edge}, allE ls es = true ↔ ∀ e ∈ es, Region.binds .any e = true → ls.toArray.getD e.on false = true
  | [] => by simp [allE]
  | e :: es => by
    have := allE_ok (ls := ls) (es := es)
    unfold allE
    cases h : edgeOk ls e with
    | true => simp only [this, List.mem_cons, forall_eq_or_imp, edgeOk_ok.1 h]; exact ⟨fun h' => ⟨edgeOk_ok.1 h, h'⟩, fun h' => h'.2⟩
    | false =>
      simp only [List.mem_cons, forall_eq_or_imp, Bool.false_eq_true, false_iff]
      intro h'
      rw [edgeOk_ok.2 h'.1] at h
      cases h
theorem rdyF_cons (ls0 : List Bool) (o : Oper) (os : List Oper) (b : Bool) (bs : List Bool) (i : Nat) : rdyF ls0 (o :: os) (b :: bs) i = (match b with
    | true => rdyF ls0 os bs (i+1)
    | false => match allE ls0 o.after.toList with
      | true => (i, o) :: rdyF ls0 os bs (i+1)
      | false => rdyF ls0 os bs (i+1)) := by
  cases b <;> rfl
theorem rdyF_mem {ls0 : List Bool} : ∀ {os : List Oper} {bs : List Bool} {k i : Nat} {o : Oper}, (i, o) ∈ rdyF ls0 os bs k ↔ ∃ j, i = k + j ∧ os[j]? = some o ∧ bs[j]? = some false ∧ allE ls0 o.after.toList = true
  | [], bs, k, i, o => by simp [rdyF]
  | o' :: os, [], k, i, o => by simp [rdyF]
  | o' :: os, b :: bs, k, i, o => by
    have ih := rdyF_mem (ls0 := ls0) (os := os) (bs := bs) (k := k+1) (i := i) (o := o)
    have tail : (∃ j, i = k + 1 + j ∧ os[j]? = some o ∧ bs[j]? = some false ∧ allE ls0 o.after.toList = true) ↔ ∃ j, i = k + (j+1) ∧ (o' :: os)[j+1]? = some o ∧ (b :: bs)[j+1]? = some false ∧ allE ls0 o.after.toList = true := by
      constructor
      · rintro ⟨j, rfl, h⟩; exact ⟨j, by omega, by simpa using h⟩
      · rintro ⟨j, rfl, h⟩; exact ⟨j, by omega, by simpa using h⟩
    have split : (∃ j, i = k + j ∧ (o' :: os)[j]? = some o ∧ (b :: bs)[j]? = some false ∧ allE ls0 o.after.toList = true) ↔
        (i = k ∧ o' = o ∧ b = false ∧ allE ls0 o.after.toList = true) ∨ ∃ j, i = k + (j+1) ∧ (o' :: os)[j+1]? = some o ∧ (b :: bs)[j+1]? = some false ∧ allE ls0 o.after.toList = true := by
      constructor
      · rintro ⟨j, h1, h2, h3, h4⟩
        cases j with
        | zero => exact .inl ⟨by omega, by simpa using h2, by simpa using h3, h4⟩
        | succ j => exact .inr ⟨j, h1, h2, h3, h4⟩
      · rintro (⟨h1, h2, h3, h4⟩ | ⟨j, h⟩)
        · exact ⟨0, by omega, by simpa using h2, by simpa using h3, h4⟩
        · exact ⟨j+1, h⟩
    rw [split, ← tail, ← ih, rdyF_cons]
    cases b with
    | true => simp
    | false =>
      cases ha : allE ls0 o'.after.toList with
      | true =>
        simp only [List.mem_cons, Prod.mk.injEq]
        constructor
        · rintro (⟨rfl, rfl⟩ | h)
          · exact .inl ⟨rfl, rfl, trivial, ha⟩
          · exact .inr h
        · rintro (⟨rfl, rfl, _⟩ | h)
          · exact .inl ⟨rfl, rfl⟩
          · exact .inr h
      | false =>
        simp only
        constructor
        · exact .inr
        · rintro (⟨rfl, rfl, _, h⟩ | h)
          · rw [ha] at h; cases h
          · exact h
theorem findQ_mem {T : Tab} {ls0 : List Bool} : ∀ {os : List Oper} {bs : List Bool} {k : Nat} {io : Nat × Oper}, findQ T ls0 os bs k = some io → io ∈ rdyF ls0 os bs k ∧ isQT T io.2.op = true
  | [], bs, k, io, h => by simp [findQ] at h
  | o' :: os, [], k, io, h => by simp [findQ] at h
  | o' :: os, b :: bs, k, io, h => by
    unfold findQ at h
    rw [rdyF_cons]
    cases b with
    | true => exact findQ_mem (os := os) h
    | false =>
      simp only at h ⊢
      cases ha : allE ls0 o'.after.toList with
      | true =>
        simp only [ha] at h ⊢
        cases hq : isQT T o'.op with
        | true =>
          simp only [hq] at h
          cases h
          exact ⟨by simp, hq⟩
        | false =>
          simp only [hq] at h
          have := findQ_mem (os := os) h
          exact ⟨by simp [this.1], this.2⟩
      | false =>
        simp only [ha] at h ⊢
        exact findQ_mem (os := os) h
theorem ready_iff {all : List Oper} {ls : List Bool} {i : Nat} : i ∈ Region.ready .any all.toArray ls.toArray ↔ ∃ o, (i, o) ∈ rdyF ls all ls 0 := by
  rw [mem_ready]
  constructor
  · rintro ⟨h1, o, ho, hall⟩
    refine ⟨o, rdyF_mem.2 ⟨i, by omega, by simpa using ho, ?_, allE_ok.2 (fun e he => hall e (by simpa using he))⟩⟩
    rcases Nat.lt_or_ge i ls.length with h | h
    · simp [h] at h1
      simp [h, h1]
    · simp [List.getElem?_eq_none h] at h1
  · rintro ⟨o, h⟩
    obtain ⟨j, hj, h1, h2, h3⟩ := rdyF_mem.1 h
    have hj : i = j := by omega
    subst hj
    refine ⟨by simp [h2], o, by simpa using h1, fun e he => allE_ok.1 h3 e (by simpa using he)⟩
theorem hasE_ok {k : Nat} : ∀ {es : List Edge}, hasE es k = true → es.any (fun e => Region.binds .any e && e.on == k) = true
  | [], h => by simp [hasE] at h
  | e :: es, h => by
    unfold hasE at h
    cases h1 : edgeOk [] e with
    | true => simp only [h1] at h; simp [hasE_ok h]
    | false =>
      simp only [h1] at h
      cases h2 : Nat.beq e.on k with
      | true =>
        have hb : Region.binds .any e = true := by
          cases hb : Region.binds .any e with
          | true => rfl
          | false =>
            have : edgeOk [] e = true := edgeOk_ok.2 (fun h => by rw [hb] at h; cases h)
            rw [this] at h1; cases h1
        simp [hb, Nat.eq_of_beq_eq_true h2]
      | false => simp only [h2] at h; simp [hasE_ok h]
theorem covB_ok {o : Oper} {i : Nat} : ∀ {n : Nat}, covB o i n = true → ∀ k, k < n → k ≠ i → waitsB o k = true
  | 0, _, k, hk, _ => by omega
  | n+1, h, k, hk, hne => by
    unfold covB at h
    have base : covB o i n = true → (k = n → waitsB o k = true) → waitsB o k = true := by
      intro h1 h2
      rcases Nat.lt_or_ge k n with h3 | h3
      · exact covB_ok h1 k h3 hne
      · exact h2 (by omega)
    cases h1 : Nat.beq n i with
    | true =>
      simp only [h1] at h
      have := Nat.eq_of_beq_eq_true h1
      exact base h (fun e => by omega)
    | false =>
      simp only [h1] at h
      cases h2 : hasE o.after.toList n with
      | true =>
        simp only [h2] at h
        refine base h (fun e => ?_)
        subst e
        have := hasE_ok h2
        unfold waitsB
        rw [← Array.any_toList]
        exact this
      | false => simp only [h2] at h; cases h
theorem covFB_ok {T : Tab} {o : Oper} {i : Nat} : ∀ {l : List Oper} {k : Nat}, covFB T o i l k = true → ∀ j p, l[j]? = some p → k + j ≠ i → isFT T p.op = false → waitsB o (k + j) = true
  | [], k, _, j, p, hj, _, _ => by simp at hj
  | q :: ps, k, h, j, p, hj, hne, hf => by
    unfold covFB at h
    cases j with
    | zero =>
      simp only [List.getElem?_cons_zero, Option.some.injEq] at hj
      subst hj
      have h0 : Nat.beq k i = false := by
        cases hb : Nat.beq k i with
        | false => rfl
        | true => exact absurd (Nat.eq_of_beq_eq_true hb) (by omega)
      simp only [h0, hf] at h
      cases h2 : hasE o.after.toList k with
      | true =>
        have := hasE_ok h2
        unfold waitsB
        rw [← Array.any_toList]
        exact this
      | false => simp only [h2] at h; cases h
    | succ j =>
      have hrec : covFB T o i ps (k+1) = true := by
        cases hb : Nat.beq k i with
        | true => simp only [hb] at h; exact h
        | false =>
          simp only [hb] at h
          cases hq : isFT T q.op with
          | true => simp only [hq] at h; exact h
          | false =>
            simp only [hq] at h
            cases h2 : hasE o.after.toList k with
            | true => simp only [h2] at h; exact h
            | false => simp only [h2] at h; cases h
      have := covFB_ok hrec j p (by simpa using hj) (by omega) hf
      rw [show k + (j + 1) = k + 1 + j from by omega]
      exact this
theorem conjK_ok {α : Type} {F : α → Prop} : ∀ {l : List α}, conjK l F → ∀ x ∈ l, F x
  | [], _, x, hx => by cases hx
  | [y], h, x, hx => by simp at hx; subst hx; exact h
  | y :: z :: l, h, x, hx => by
    rcases List.mem_cons.1 hx with rfl | hx
    · exact h.1
    · exact conjK_ok h.2 x hx
theorem isQ_value {T : Tab} {P : Program} {o : Oper} {ρ : Operand → Value} {w w' : World} {n : Next} (h : isQT T o.op = true) (hr : (execOp ρ o).run P w = .ok n w') : ∃ v, n = .value v := by
  have key2 : ∀ {α : Type} {s : Sem α} {f : α → Value}, (do let a ← s; pure (Next.value (f a)) : Sem Next).run P w = .ok n w' → ∃ v, n = .value v := by
    intro α s f hs
    rw [Sem.run_bind] at hs
    cases hx : s.run P w with
    | ok a w1 => rw [hx] at hs; cases hs; exact ⟨f a, rfl⟩
    | halt x w1 => rw [hx] at hs; cases hs
  have key : ∀ {s : Sem Value}, (do pure (Next.value (← s)) : Sem Next).run P w = .ok n w' → ∃ v, n = .value v := fun hs => key2 (f := id) hs
  unfold execOp at hr
  cases ho : o.op <;> rw [ho] at h hr <;> simp only [isQT, isQ] at h <;> first
    | (cases h; done)
    | (cases hr; exact ⟨_, rfl⟩)
    | exact key hr
    | exact key2 hr
    | skip
  · rename_i x
    have hp : (runtimePanic .nilDeref : Sem Next).run P w = .ok n w' → ∃ v, n = .value v := by
      intro he
      have : (runtimePanic .nilDeref : Sem Next).run P w ≠ .ok n w' := by
        unfold runtimePanic
        rw [Sem.run_bind]
        have hpr : (Go.program).run P w = .ok P w := rfl
        rw [hpr]
        intro hc
        cases hc
      exact absurd he this
    simp only at hr
    split at hr
    · exact hp hr
    · exact hp hr
    · exact hp hr
    · split at hr
      · exact hp hr
      · rw [Sem.run_bind] at hr
        have hpr : (Go.program).run P w = .ok P w := rfl
        rw [hpr, Result.andThen_ok, Sem.run_bind] at hr
        rename_i t' w0 _
        revert hr
        generalize (nilAhead _ _ _ _ : Sem (Option Bool)).run P w = rr
        cases rr with
        | ok a w1 =>
          intro hr
          simp only [Result.andThen_ok] at hr
          split at hr
          · simp [unsupported, Sem.run, Sem.run_bind] at hr
          · cases hr; exact ⟨_, rfl⟩
        | halt x w1 => intro hr; cases hr
      · cases hr; exact ⟨_, rfl⟩
    · cases hr; exact ⟨_, rfl⟩
  rename_i c
  obtain ⟨callee, args, argTypes⟩ := c
  cases callee with
  | builtin b =>
    simp only [resolve] at hr
    cases b <;> simp only at h <;> first
      | (cases h; done)
      | exact key hr
  | _ => cases h

def freF (T : Tab) (all : List Oper) (k : Nat) : Bool := match all[k]? with
  | some o => isFT T o.op
  | none => true
def DoneF (T : Tab) (all : List Oper) (ls : List Bool) : Prop := ∀ k, freF T all k = false → ls.toArray.getD k false = true
section
variable {P : Program} {T : Tab} (hT : TabOk P T) {S : World → Prop} {all : List Oper} {ds : List Deferred} {Q : Exit → Act → World → Prop} (r : Option Nat) (n : Nat)
include hT
omit hT in
theorem DoneF.set {ls : List Bool} (h : DoneF T all ls) (i : Nat) : DoneF T all (setB ls i) := by
  intro k hk
  have h1 := h k hk
  rw [setB_ok]
  by_cases hki : k = i
  · subst hki
    rcases Nat.lt_or_ge k ls.toArray.size with hlt | hge
    · simp [Array.getD, hlt]
      simp at hlt
      simp [hlt]
    · simp [Array.getD] at h1
      simp at hge
      obtain ⟨hh, _⟩ := h1
      omega
  · rw [getD_set_ne false (Ne.symm hki)]
    exact h1
omit hT in
theorem lk_set {st : List Bool} {k m : Nat} (h : lkB (setB st k) m = true) : m = k ∨ lkB st m = true := by
  rw [lkB_ok, setB_ok] at h
  by_cases e : k = m
  · exact .inl e.symm
  · right
    rw [lkB_ok]
    exact getD_back e h
omit hT in
theorem markE_ok {ops : Array Oper} {j m : Nat} {o : Oper} (ho : ops[m]? = some o) (hm : m = j ∨ TW ops j m) : ∀ {es : List Edge} {st : List Bool}, (∀ e ∈ es, e ∈ o.after.toList) → (∀ k, lkB st k = true → k = j ∨ TW ops j k) → ∀ k, lkB (markE es st) k = true → k = j ∨ TW ops j k
  | [], st, _, h, k, hk => h k hk
  | e :: es, st, hs, h, k, hk => by
    unfold markE at hk
    split at hk
    · exact markE_ok ho hm (fun x hx => hs x (List.mem_cons_of_mem _ hx)) h k hk
    · rename_i he
      refine markE_ok ho hm (fun x hx => hs x (List.mem_cons_of_mem _ hx)) (fun k hk => ?_) k hk
      rcases lk_set hk with rfl | hk
      · right
        have hb : Region.binds .any e = true := by
          cases hbb : Region.binds .any e with
          | true => rfl
          | false => rw [edgeOk_ok.2 (fun h => by rw [hbb] at h; cases h)] at he; cases he
        have hw : waitsB o e.on = true := by
          unfold waitsB
          rw [← Array.any_toList, List.any_eq_true]
          exact ⟨e, hs e (by simp), by simp [hb]⟩
        rcases hm with rfl | hm
        · exact .one ho hw
        · exact .more hm ho hw
      · exact h k hk
omit hT in
theorem clo_ok {ops : Array Oper} {j : Nat} : ∀ {os : List Oper} {i : Nat} {st : List Bool}, (∀ m o, os[m]? = some o → ops[i + m]? = some o) → (∀ k, lkB st k = true → k = j ∨ TW ops j k) → ∀ k, lkB (clo os i st) k = true → k = j ∨ TW ops j k
  | [], i, st, _, h, k, hk => h k hk
  | o :: os, i, st, ho, h, k, hk => by
    have ih := clo_ok (ops := ops) (j := j) (os := os) (i := i + 1) (st := st) (fun m p hp => by rw [show i + 1 + m = i + (m + 1) from by omega]; exact ho (m + 1) p (by simpa using hp)) h
    unfold clo at hk
    split at hk
    · rename_i hl
      exact markE_ok (ho 0 o rfl) (ih i hl) (fun e he => he) ih k hk
    · exact ih k hk
def ldF (T : Tab) (all : List Oper) (k : Nat) : Bool := match all[k]? with
  | some o => isLd T o.op
  | none => false
omit hT in
theorem barF_ok {i : Nat} {st : List Bool} : ∀ {os : List Oper} {bs : List Bool} {k : Nat}, barF T i st os bs k = true → ∀ m o, os[m]? = some o → bs[m]? = some true → isLd T o.op = true → k + m ≠ i → lkB st (k + m) = true
  | [], _, _, _, m, o, h, _, _, _ => by simp at h
  | _ :: _, [], _, _, m, o, _, h, _, _ => by simp at h
  | p :: os, b :: bs, k, h, m, o, ho, hb, hl, hne => by
    have ih := barF_ok (i := i) (st := st) (os := os) (bs := bs) (k := k + 1)
    have key : barF T i st os bs (k+1) = true → m ≠ 0 → lkB st (k + m) = true := fun h hm => by
      obtain ⟨m, rfl⟩ : ∃ x, m = x + 1 := ⟨m - 1, by omega⟩
      have := ih h m o (by simpa using ho) (by simpa using hb) hl (by omega)
      rwa [show k + 1 + m = k + (m + 1) from by omega] at this
    unfold barF at h
    by_cases hm : m = 0
    · subst hm
      simp at ho hb
      subst ho
      subst hb
      simp only [hl] at h
      split at h
      · rename_i e
        exact absurd (Nat.eq_of_beq_eq_true e) (by omega)
      · split at h
        · rename_i e; exact e
        · cases h
    · split at h
      · exact key h hm
      · split at h
        · exact key h hm
        · split at h
          · exact key h hm
          · split at h
            · exact key h hm
            · cases h
omit hT in
theorem barB_ok {ls : List Bool} {i : Nat} (h : barB T all ls i = true) (hl : ls.length = all.length) : bar (ldF T all) all.toArray ls.toArray i := by
  intro k hk hld hne
  unfold ldF at hld
  split at hld
  · rename_i o ho
    have hkl : k < ls.length := by
      have := (List.getElem?_eq_some_iff.1 ho).1
      omega
    have hb : ls[k]? = some true := by
      simp [hkl] at hk
      rw [List.getElem?_eq_getElem hkl, hk]
    have h1 := barF_ok h k o ho hb hld (by omega)
    rw [Nat.zero_add] at h1
    have h2 := clo_ok (ops := all.toArray) (j := i) (os := all) (i := 0) (st := setB (List.replicate all.length false) i) (fun m o hm => by simpa using hm) (fun k hk => by
      rcases lk_set hk with h | h
      · exact .inl h
      · rw [lkB_ok] at h
        simp [Array.getD] at h) k h1
    exact h2.resolve_left hne
  · cases hld
theorem XD_ok (hn : noDS all.toArray = true) (hA : apartD all.toArray = true) (hQp : ∀ c a w, ¬ Q (.panic c) a w) {K : Fr → World → Prop} (hK : ∀ fr w, K fr w → Q .normal ⟨fr.toArray, ds⟩ w) :
    ∀ (fuel : Nat) (S : World → Prop) (ls : List Bool) (fr : Fr) (w : World), ls.length = all.length → Closed all.toArray ls.toArray → (S w ∨ DoneF T all ls) → XD T P S all K fuel ls fr w → AnyS (freF T all) (ldF T all) P r n all.toArray Q S fuel ls.toArray ⟨fr.toArray, ds⟩ w := by
  intro fuel
  induction fuel with
  | zero =>
    intro S ls fr w hl hcl hS h
    replace h : (match rdyF ls all ls 0 with
      | [] => K fr w
      | _ :: _ => Stk "open") := h
    split at h
    · rename_i he
      refine AnyS.done ?_ (hK _ _ h) S 0
      rw [List.eq_nil_iff_forall_not_mem]
      intro i hi
      obtain ⟨o, ho⟩ := ready_iff.1 hi
      rw [he] at ho
      cases ho
    · exact h.elim
  | succ fuel ih =>
    intro S ls fr w hl hcl hS h
    have hlen : ∀ i, (setB ls i).length = all.length := by
      intro i
      rw [← hl]
      have := congrArg Array.size (setB_ok (ls := ls) (i := i))
      simpa using this
    replace h : stepD T P all K (fun S => XD T P S all K fuel) S ls fr w := h
    have hcs : ∀ i, i ∈ Region.ready .any all.toArray ls.toArray → Closed all.toArray (setB ls i).toArray := fun i hi => by rw [setB_ok]; exact hcl.add hi
    unfold stepD at h
    split at h
    · -- what only reads
      rename_i i o hf
      obtain ⟨hm, hq⟩ := findQ_mem hf
      have hr : i ∈ Region.ready .any all.toArray ls.toArray := ready_iff.2 ⟨o, hm⟩
      obtain ⟨j, hj, hoi, _, _⟩ := rdyF_mem.1 hm
      have hj : i = j := by omega
      subst hj
      have hoi' : all.toArray[i]? = some o := by simpa using hoi
      have hL : S w ∨ DoneF T all (setB ls i) := hS.imp id fun h => h.set i
      cases hfr : isFT T o.op with
      | true =>
        simp only [hfr] at h
        rcases guK_ok h with ⟨hw, h1⟩ | ⟨hw, h1⟩
        · obtain ⟨v, hv, hk⟩ := h1.out
          have h2 := ih _ _ _ _ (hlen i) (hcs i hr) hL (putK_ok hk)
          refine AnyS.firstF (oi := o) (v := v) hn hA hoi' (fun c a w hp => (hQp c _ w hp).elim) fuel S ls.toArray _ w hr ?_ ?_
          · refine .inl ⟨hw, fun w' hS' => ?_⟩
            rw [eval_eq]
            obtain ⟨x, w'', hr', hx⟩ := (xv_ok hT (hv w' hS')).1.run
            obtain ⟨u, rfl⟩ := isQ_value hq hr'
            obtain ⟨rfl, rfl⟩ := hx
            exact hr'
          · rw [put_eq, ← setB_ok]
            exact h2
        · have h2 := ih _ _ _ _ (hlen i) (hcs i hr) hL (putK_ok h1)
          refine AnyS.firstF (oi := o) (v := undef) hn hA hoi' (fun c a w hp => (hQp c _ w hp).elim) fuel S ls.toArray _ w hr (.inr ⟨hw, rfl⟩) ?_
          rw [put_eq, ← setB_ok]
          exact h2
      | false =>
        simp only [hfr] at h
        have hfi : freF T all i = false := by
          unfold freF
          rw [hoi]
          exact hfr
        have hldi : ldF T all i = true := by
          unfold ldF
          rw [hoi]
          simp only [isLd, hfr]
          exact hq
        have hSw : S w := by
          rcases hS with h | h
          · exact h
          · exact (not_both (h i hfi) (unlisted hr)).elim
        rcases guK_ok h with ⟨hw, h1⟩ | ⟨hw, h1⟩
        · obtain ⟨v, hv, hk⟩ := h1.out
          have h2 := ih _ _ _ _ (hlen i) (hcs i hr) hL (putK_ok hk)
          refine AnyS.first (oi := o) (v := v) hn hA hoi' hfi hldi (fun c a w hp => (hQp c _ w hp).elim) fuel ls.toArray _ w hcl hr ?_ hSw ?_
          · refine .inl ⟨hw, fun w' hS' => ?_⟩
            rw [eval_eq]
            obtain ⟨x, w'', hr', hx⟩ := (xv_ok hT (hv w' hS')).1.run
            obtain ⟨u, rfl⟩ := isQ_value hq hr'
            obtain ⟨rfl, rfl⟩ := hx
            exact hr'
          · rw [put_eq, ← setB_ok]
            exact h2
        · have h2 := ih _ _ _ _ (hlen i) (hcs i hr) hL (putK_ok h1)
          refine AnyS.first (oi := o) (v := undef) hn hA hoi' hfi hldi (fun c a w hp => (hQp c _ w hp).elim) fuel ls.toArray _ w hcl hr (.inr ⟨hw, rfl⟩) hSw ?_
          rw [put_eq, ← setB_ok]
          exact h2
    · split at h
      · rename_i he
        refine AnyS.done ?_ (hK _ _ h) S _
        rw [List.eq_nil_iff_forall_not_mem]
        intro i hi
        obtain ⟨o, ho⟩ := ready_iff.1 hi
        rw [he] at ho
        cases ho
      · rename_i x xs he
        refine ⟨fun h0 => ?_, fun i hi => ?_⟩
        · have : x.1 ∈ Region.ready .any all.toArray ls.toArray := ready_iff.2 ⟨x.2, by rw [he]; simp⟩
          rw [h0] at this
          cases this
        · obtain ⟨o, hm⟩ := ready_iff.1 hi
          have h1 := conjK_ok h (i, o) (by rw [← he]; exact hm)
          simp only at h1
          obtain ⟨j, hj, hoi, _, _⟩ := rdyF_mem.1 hm
          have hj : i = j := by omega
          subst hj
          have hoi' : all.toArray[i]? = some o := by simpa using hoi
          have hdone : covB o i all.length = true → cov (freF T all) all.toArray i ∧ Region.ready .any all.toArray (ls.toArray.setIfInBounds i true) = [] := by
            intro hc
            have hw := covB_ok hc
            refine ⟨fun oj hoj k hk hne _ => ?_, ?_⟩
            · rw [hoi'] at hoj
              cases hoj
              exact hw k (by simpa using hk) hne
            · rw [List.eq_nil_iff_forall_not_mem]
              intro k hk
              have hu := unlisted hk
              obtain ⟨_, ok, hok, _⟩ := mem_ready.1 hk
              have hklt : k < all.length := by simpa using (Array.getElem?_eq_some_iff.1 hok).1
              by_cases hki : k = i
              · subst hki
                have hk2 : k < ls.length := by omega
                simp at hu
                rw [List.getElem?_set_self hk2] at hu
                cases hu
              · rw [getD_set_ne true (Ne.symm hki)] at hu
                exact not_both (waits_listed hi hoi' (hw k hklt hki)) hu
          unfold wpOpIn
          rw [hoi']
          simp only
          rcases guK_ok h1 with ⟨hw, h2⟩ | ⟨hw, h2⟩
          · simp only [hw, if_true]
            obtain ⟨h3, hd⟩ := xv_ok hT h2
            refine wpIn_of_semW r n hd (h3.mono fun x w' hx => hx.mono fun v w'' hv => ?_)
            have h4 := putK_ok hv
            split at h4
            · rename_i hc
              obtain ⟨hc1, hc2⟩ := hdone hc
              exact .inl ⟨.inl hc1, AnyS.done hc2 (hK _ _ h4) S fuel⟩
            · split at h4
              · rename_i hcf
                have hwt := covFB_ok hcf
                refine .inl ⟨.inl fun oj hoj k hk hne hfk => ?_, ?_⟩
                · rw [hoi'] at hoj
                  cases hoj
                  have hk' : k < all.length := by simpa using hk
                  have hf2 : isFT T all[k].op = false := by
                    unfold freF at hfk
                    rw [List.getElem?_eq_getElem hk'] at hfk
                    exact hfk
                  have := hwt k all[k] (List.getElem?_eq_getElem hk') (by omega) hf2
                  rwa [Nat.zero_add] at this
                · rw [← setB_ok]
                  refine ih _ _ _ _ (hlen i) (hcs i hi) (.inr fun k hfk => ?_) h4
                  rw [setB_ok]
                  by_cases hki : k = i
                  · subst hki
                    have hk2 : k < ls.length := by
                      have : k < all.length := (List.getElem?_eq_some_iff.1 hoi).1
                      omega
                    simp [Array.getD, hk2]
                  · rw [getD_set_ne false (Ne.symm hki)]
                    have hk' : k < all.length := by
                      rcases Nat.lt_or_ge k all.length with h | h
                      · exact h
                      · unfold freF at hfk
                        rw [List.getElem?_eq_none h] at hfk
                        cases hfk
                    have hf2 : isFT T all[k].op = false := by
                      unfold freF at hfk
                      rw [List.getElem?_eq_getElem hk'] at hfk
                      exact hfk
                    have := hwt k all[k] (List.getElem?_eq_getElem hk') (by omega) hf2
                    rw [Nat.zero_add] at this
                    exact waits_listed hi hoi' this
              · split at h4
                · rename_i hbar
                  obtain ⟨S', hS', h5⟩ := h4.out
                  refine .inr ⟨barB_ok hbar hl, S', ?_⟩
                  rw [← setB_ok]
                  exact ih _ _ _ _ (hlen i) (hcs i hi) (.inl hS') h5
                · refine .inl ⟨.inr (.inl h4.left), ?_⟩
                  rw [← setB_ok]
                  exact ih _ _ _ _ (hlen i) (hcs i hi) (.inl h4.left) h4.right
          · simp only [hw, Bool.false_eq_true, if_false]
            refine ⟨fun _ _ => trivial, ?_⟩
            rw [put_eq]
            have h4 := putK_ok h2
            split at h4
            · rename_i hc
              obtain ⟨hc1, hc2⟩ := hdone hc
              exact .inl ⟨.inl hc1, AnyS.done hc2 (hK _ _ h4) S fuel⟩
            · refine .inl ⟨.inr (.inr trivial), ?_⟩
              rw [← setB_ok]
              exact ih _ _ _ _ (hlen i) (hcs i hi) (hS.imp id fun h => h.set i) h4

end

theorem q_i {T : Tab} {P : Program} {S : World → Prop} {o : Oper} {fr : Fr} {K : Value → Prop} {v : Value} (h : ∀ w, S w → xv T P o fr w fun v' w' => v' = v ∧ w' = w) (k : K v) : Qn T P S o fr K := ⟨⟨v, h, k⟩⟩

end Go.RV


set_option linter.unusedVariables false
set_option linter.unusedSimpArgs false
namespace Go.RV
open Go Go.RowKit

/-- a slice of the call's own: n elements of sz cells each, the cells cs; L: the block that it owns -/
inductive Sl (e sz : Nat) : Value → Nat → List Value → LM → Prop
  | nil : Sl e sz (.slice none 0 0) 0 [] []
  | blk (b cap n : Nat) (cs : List Value) (cur : Array Value) : n ≤ cap → cur.size = cap * sz → cs.length = n * sz → cur.toList.take (n * sz) = cs → Sl e sz (.slice (some ⟨b, 0, none⟩) n cap) n cs [(b, .cells cur e (0, 0))]

/-- the cells from A on read as9 cs -/
def Rd (w : World) (A : Option Addr) (cs : List Value) : Prop :=
  cs = [] ∨ ∃ b off, A = some ⟨b, off, none⟩ ∧ ∀ j v, cs[j]? = some v → w.cell? ⟨b, off + j, none⟩ = some v

theorem one_eq (v : Value) : one v = v.oneCell' := by cases v <;> rfl

theorem Sl.shape {e sz : Nat} {v : Value} {n : Nat} {cs : List Value} {L : LM} (h : Sl e sz v n cs L) : ∃ A c, v = .slice A n c ∧ cs.length = n * sz := by
  cases h with
  | nil => exact ⟨none, 0, rfl, by simp⟩
  | blk b cap n cs cur h1 h2 h3 h4 => exact ⟨_, _, rfl, h3⟩

section
variable {M : List Nat} {w0 w w' : World} {L L' Lv : LM} {e sz : Nat}
theorem Sl.rd {A : Option Addr} {c n : Nat} {cs : List Value} (h : Sl e sz (.slice A n c) n cs Lv) (hS : St M w0 w L) (hsub : ∀ x ∈ Lv, x ∈ L) : Rd w A cs := by
  cases h with
  | nil => exact .inl rfl
  | blk b cap n cs cur h1 h2 h3 h4 =>
    refine .inr ⟨b, 0, rfl, fun j v hj => ?_⟩
    have hb := hS.own _ _ (hsub _ (List.mem_singleton.2 rfl))
    rw [← h4, List.getElem?_take] at hj
    split at hj
    · simp only [World.cell?, hb, Nat.zero_add]
      simpa using hj
    · cases hj
theorem Rd.below {A : Option Addr} {cs : List Value} (h : Rd w A cs) (hS : St [] w w' L) : Rd w' A cs := by
  rcases h with h | ⟨b, off, hA, h⟩
  · exact .inl h
  · refine .inr ⟨b, off, hA, fun j v hj => ?_⟩
    have h1 := h j v hj
    have hlt : b < w.heap.size := by
      unfold World.cell? at h1
      rcases Nat.lt_or_ge b w.heap.size with h2 | h2
      · exact h2
      · simp [Array.getElem?_eq_none h2] at h1
    unfold World.cell? at h1 ⊢
    rw [hS.old b hlt (by simp)]
    exact h1
/-- what is read below the base stays as9 it was -/
theorem Rd.base {A : Option Addr} {cs : List Value} (h : Rd w0 A cs) (hS : St [] w0 w L) : Rd w A cs := h.below hS

theorem St.grow (hS : St M w0 w L) (cs : Array Value) (e : Nat) : St M w0 (w.drew.alloc (.cells cs e)) ((w.heap.size, .cells cs e) :: L) := (hS.drew (w.drawn + 1)).alloc _

theorem size_zc (z : Array Value) (n : Nat) : (Builtin.zeroCells z n).size = n * z.size := by simp [Builtin.zeroCells]

theorem setRow_size (w : World) (g : Nat) (cs : Array Value) : (w.setRow g cs).heap.size = w.heap.size := by simp [World.setRow]

structure ElemOk (P : Program) (T : Tab) (t e sz bytes : Nat) : Prop where
  und : und T t = some (.slice e)
  info : ∃ i z, P.info? e = some i ∧ i.zero = some z ∧ i.size = sz ∧ i.bytes = bytes ∧ z.cells.size = sz
  pos : 0 < sz

/-- **append onto a slice of the call's own** -/
theorem app_sl {P : Program} {T : Tab} (hT : TabOk P T) {t ty bytes : Nat} (hE : ElemOk P T t e sz bytes) {v : Value} {n : Nat} {cs : List Value} (hS : St M w0 w (Lv ++ L)) (hv : Sl e sz v n cs Lv)
    {A : Option Addr} {m c : Nat} {ys : List Value} (hr : Rd w A ys) (hl : ys.length = m * sz) (h1 : ∀ y ∈ ys, one y = true) (hb : (n + m) * bytes ≤ 140737488355328) (h63 : n + m ≤ 4611686018427387904) {K : Value → World → Prop}
    (h : ∀ v' Lv' w', Sl e sz v' (n + m) (cs ++ ys) Lv' → St M w0 w' (Lv' ++ L) → K v' w') : SemN P (Builtin.append_ #[t, t] ty #[v, .slice A m c]) w K := by
  obtain ⟨hu, ⟨i, z, hi, hz, hsz, hby, hzs⟩, hpos⟩ := hE
  have hut := und_ok hT hu
  refine ⟨?_⟩
  have h1' : ∀ u ∈ ys, u.oneCell' = true := fun u hu => by rw [← one_eq]; exact h1 u hu
  subst hsz hby
  by_cases hm : m = 0
  · -- nothing comes
    subst hm
    have hy : ys = [] := List.eq_nil_of_length_eq_zero (by simpa using hl)
    subst hy
    have hrun : (Builtin.append_ #[t, t] ty #[v, .slice A 0 c]).run P w = .ok v w := by
      obtain ⟨A', c', rfl, _⟩ := hv.shape
      have hnc : n ≤ c' := by
        cases hv with
        | nil => exact Nat.le_refl _
        | blk b cap n cs cur a1 a2 a3 a4 => exact a1
      have hf : (Builtin.firstCells i.size 0 (.slice A 0 c)).run P w = .ok #[] w := by
        cases A <;> simp [Builtin.firstCells, loadCells, loadCellsFrom]
      cases A' <;> simp [Builtin.append_, run_underlying hut, sizeOf, typeInfo, hi, Builtin.lenOf, hnc, hf, storeCells]
    exact .of_run hrun (h v Lv w (by simpa using hv) hS)
  · have hyne : ys ≠ [] := by
      intro hy
      have h0 : m * i.size = 0 := by rw [← hl, hy]; rfl
      rcases Nat.mul_eq_zero.1 h0 with h0 | h0 <;> omega
    obtain ⟨ab, ao, rfl, hnews⟩ := hr.resolve_left hyne
    have hnews' : ∀ j u, ys[j]? = some u → w.cell? ((⟨ab, ao, none⟩ : Addr).add j) = some u := fun j u hj => by rw [add_none]; exact hnews j u hj
    cases hv with
    | nil =>
      have hrun := run_append_nil (P := P) w t ty e i z hut hi hz ⟨ab, ao, none⟩ m c ys hl hnews' (by omega) (by omega) (by simp only [Nat.zero_add] at hb; omega)
      refine .of_run hrun ?_
      have hge := grownCap_ge w m 0 e
      have hS2 := hS.grow (ys.toArray ++ Builtin.zeroCells z.cells (grownCap w m 0 e - m)) e
      refine h _ [(w.heap.size, _)] _ ?_ hS2
      simp only [Nat.zero_add, List.nil_append]
      refine .blk _ _ _ _ _ hge ?_ hl ?_
      · simp only [Array.size_append, List.size_toArray, size_zc, hzs, hl, ← Nat.add_mul]
        congr 1
        omega
      · rw [← hl]
        simp
    | blk b cap n cs cur a1 a2 a3 a4 =>
      have hblk := hS.block 0 (b := b) rfl
      have hlen : (cs ++ ys).length = (n + m) * i.size := by rw [List.length_append, a3, hl, Nat.add_mul]
      by_cases hroom : n + m ≤ cap
      · have hfit : n * i.size + ys.length ≤ cur.size := by rw [hl, a2, ← Nat.add_mul]; exact Nat.mul_le_mul_right _ hroom
        have hrun := run_append_room (P := P) w t ty e i hut hi b n cap cur hblk ⟨ab, ao, none⟩ m c ys hl hnews' h1' hroom hfit
        refine .of_run hrun ?_
        have hS2 := hS.put (w' := w.setRow b (cur.toList.take (n * i.size) ++ ys ++ cur.toList.drop (n * i.size + ys.length)).toArray) 0 (b := b) rfl (.cells (cur.toList.take (n * i.size) ++ ys ++ cur.toList.drop (n * i.size + ys.length)).toArray e (0, 0))
          ⟨setRow_size _ _ _, rfl, rfl, rfl⟩ (setRow_heap w b cur _ e _ hblk) (fun j hj => setRow_other w b j _ hj)
        refine h _ [(b, _)] _ (.blk b cap (n + m) _ _ hroom ?_ hlen ?_) hS2
        · simp only [List.size_toArray, List.length_append, List.length_take, List.length_drop, Array.length_toList]
          omega
        · rw [a4, ← hlen]
          exact List.take_left
      · have holds : ∀ j u, cs[j]? = some u → w.cell? ((⟨b, 0, none⟩ : Addr).add j) = some u := fun j u hj => by
          rw [add_none]
          rcases (Sl.rd (.blk b cap n cs cur a1 a2 a3 a4) hS (fun x hx => List.mem_append_left _ hx)) with h2 | ⟨b', o', e1, h2⟩
          · subst h2; simp at hj
          · cases e1; exact h2 j u hj
        have hrun := run_append_grow (P := P) w t ty e i z hut hi hz ⟨b, 0, none⟩ n cap cs a3 holds ⟨ab, ao, none⟩ m c ys hl hnews' (by omega) (by omega) (growslice_fits (by omega) hb)
        refine .of_run hrun ?_
        have hge := grownCap_ge w (n + m) cap e
        have hS2 := (hS.grow (cs.toArray ++ ys.toArray ++ Builtin.zeroCells z.cells (grownCap w (n + m) cap e - (n + m))) e).sub (L' := (w.heap.size, .cells (cs.toArray ++ ys.toArray ++ Builtin.zeroCells z.cells (grownCap w (n + m) cap e - (n + m))) e) :: L)
          (List.Sublist.cons_cons _ (by simp))
        refine h _ [(w.heap.size, _)] _ (.blk _ _ _ _ _ hge ?_ hlen ?_) hS2
        · simp only [Array.size_append, List.size_toArray, size_zc, hzs, a3, hl, ← Nat.add_mul]
          congr 1
          omega
        · rw [← hlen]
          simp only [Array.toList_append]
          exact List.take_left (l₁ := cs ++ ys)
end

def flat {α : Type} (enc : α → List Value) (xs : List α) : List Value := xs.flatMap enc
section flat
variable {α : Type} {enc : α → List Value} {sz : Nat}
theorem flat_length (h : ∀ x, (enc x).length = sz) (xs : List α) : (flat enc xs).length = xs.length * sz := by
  induction xs with
  | nil => simp [flat]
  | cons x xs ih => simp only [flat, List.flatMap_cons, List.length_append, List.length_cons, h x] at ih ⊢; rw [ih, Nat.add_mul]; omega
theorem flat_append (xs ys : List α) : flat enc (xs ++ ys) = flat enc xs ++ flat enc ys := by simp [flat]
theorem flat_get (h : ∀ x, (enc x).length = sz) : ∀ (xs : List α) (i : Nat) (hi : i < xs.length) (k : Nat), k < sz → (flat enc xs)[i * sz + k]? = (enc xs[i])[k]?
  | [], i, hi, _, _ => by simp at hi
  | x :: xs, 0, _, k, hk => by
    simp only [flat, List.flatMap_cons, Nat.zero_mul, Nat.zero_add, List.getElem_cons_zero]
    rw [List.getElem?_append_left (by rw [h x]; exact hk)]
  | x :: xs, i+1, hi, k, hk => by
    have ih := flat_get h xs i (by simpa using hi) k hk
    simp only [flat, List.flatMap_cons, List.getElem_cons_succ] at ih ⊢
    rw [List.getElem?_append_right (by rw [h x, Nat.add_mul]; omega), h x, ← ih]
    congr 1
    rw [Nat.add_mul]
    omega
end flat

end Go.RV


set_option linter.unusedVariables false
set_option linter.unusedSimpArgs false
namespace Go.RV
open Go Go.RowKit

section
variable {P : Program} {M : List Nat} {w0 w w' : World} {L L' Ls : LM}

/-- a call that changes nothing; what it made follows what was there -/
theorem St.call' (h : St M w0 w L) (h' : St [] w w' L') : St M w0 w' (L ++ L') := (h.call h').perm List.perm_append_comm
theorem St.call0 (h : St M w0 w L) (h' : St [] w w' []) : St M w0 w' L := by simpa using h.call h'
/-- all blocks that L tells are as9 it tells -/
def Holds (w : World) (L : LM) : Prop := ∀ x ∈ L, w.heap[x.1]? = some x.2
theorem St.holds (h : St M w0 w L) (hs : ∀ x ∈ Ls, x ∈ L) : Holds w Ls := fun x hx => h.own x.1 x.2 (hs x hx)
theorem Holds.cell {b off : Nat} {cs : Array Value} {e : TypeId} {fz : Nat × Nat} {v : Value} (h : Holds w L) (k : Nat) (hk : L[k]? = some (b, .cells cs e fz)) (hv : cs.toList[off]? = some v) : w.cell? ⟨b, off, none⟩ = some v := by
  have h1 := h _ (List.mem_of_getElem? hk)
  simp only [World.cell?, h1]
  simpa using hv
theorem Holds.sub (h : Holds w L) (hs : Ls.Sublist L) : Holds w Ls := fun x hx => h x (hs.subset hx)
theorem Holds.below (h : Holds w L) (hS : St [] w w' L') : Holds w' L := fun x hx => by
  have h1 := h x hx
  have hlt : x.1 < w.heap.size := by
    rcases Nat.lt_or_ge x.1 w.heap.size with h2 | h2
    · exact h2
    · simp [Array.getElem?_eq_none h2] at h1
  rw [hS.old x.1 hlt (by simp)]
  exact h1
/-- a load of what lay there ahead of the call -/
theorem ld_h {b off : Nat} {cs : Array Value} {e : TypeId} {fz : Nat × Nat} {v : Value} {K : Value → Prop} (hS : St [] w0 w L) (hH : Holds w0 L') (k : Nat) (hk : L'[k]? = some (b, .cells cs e fz)) (hv : cs.toList[off]? = some v) (h : K v) : Ld w ⟨b, off, none⟩ K :=
  ld_i v ((hH.below hS).cell k hk hv) h
theorem setsL_eq : ∀ (vs cells : List Value) (off : Nat), off + vs.length ≤ cells.length → setsL cells off vs = cells.take off ++ vs ++ cells.drop (off + vs.length)
  | [], cells, off, h => by simp [setsL]
  | v :: vs, cells, off, h => by
    simp only [List.length_cons] at h
    rw [setsL, setsL_eq vs (cells.set off v) (off + 1) (by simp; omega)]
    have h1 : (cells.set off v).take (off + 1) = cells.take off ++ [v] := by
      rw [List.take_succ_eq_append_getElem (by simp; omega), List.take_set_of_le (by omega)]
      simp
    have h2 : (cells.set off v).drop (off + 1 + vs.length) = cells.drop (off + (vs.length + 1)) := by
      rw [List.drop_set_of_lt (by omega)]
      congr 1
      omega
    rw [h1, h2]
    simp
def allOne : List Value → Bool
  | [] => true
  | v :: vs => match one v with
    | true => allOne vs
    | false => false
theorem allOne_ok : ∀ {vs : List Value}, allOne vs = true → ∀ v ∈ vs, one v = true
  | [], _, v, hv => by cases hv
  | u :: vs, h, v, hv => by
    unfold allOne at h
    cases h1 : one u with
    | true =>
      rw [h1] at h
      rcases List.mem_cons.1 hv with rfl | hv
      · exact h1
      · exact allOne_ok h v hv
    | false => rw [h1] at h; cases h
/-- a store of several cells -/
theorem stM_s {b off : Nat} {cs : Array Value} {e : TypeId} {vs : List Value} {K : World → Prop} (hS : St M w0 w L) (k : Nat) (hk : L[k]? = some (b, .cells cs e (0, 0))) (hlt : off + vs.length ≤ cs.toList.length) (ho : allOne vs = true)
    (h : setsK cs.toList off vs fun l => setLK L k (b, .cells l.toArray e (0, 0)) fun L' => ∀ w', St M w0 w' L' → K w') : StN P w ⟨b, off, none⟩ vs K := by
  have h1 := setLK_ok (setsK_ok h)
  have hblk := hS.block k hk
  have hlt' : off + vs.length ≤ cs.size := by simpa using hlt
  have hr := run_storeCells_at P b off e vs 0 cs w hblk (by simpa using hlt') (fun u hu => by rw [← one_eq]; exact allOne_ok ho u hu)
  have hS2 := hS.put (w' := w.setRow b (cs.toList.take off ++ vs ++ cs.toList.drop (off + vs.length)).toArray) k hk (.cells (setsL cs.toList off vs).toArray e (0, 0))
    ⟨setRow_size _ _ _, rfl, rfl, rfl⟩ (by rw [setsL_eq vs cs.toList off (by simpa using hlt)]; exact setRow_heap w b cs _ e _ hblk) (fun j hj => setRow_other w b j _ hj)
  simp only [Nat.add_zero] at hr
  exact ⟨.of_run hr (h1 _ hS2)⟩

end

theorem as_i {A B : Prop} (a : A) (b : B) : AndS A B := ⟨a, b⟩
theorem fc_m {P : Program} {f : FuncId} {args : List Value} {w : World} {R K : Value → World → Prop} (h : Fc P f args w R) (hk : ∀ v w', R v w' → K v w') : Fc P f args w K := h.mono hk
theorem wrap_i64 {x : Int} (h0 : -9223372036854775808 ≤ x) (h1 : x ≤ 9223372036854775807) : IntKind.i64.wrap x = x := by
  unfold IntKind.wrap IntKind.bits IntKind.signed
  simp only [Bool.true_and, ge_iff_le, decide_eq_true_eq]
  split <;> omega
theorem wrap_u32 {x : Int} (h0 : 0 ≤ x) (h1 : x < 4294967296) : IntKind.u32.wrap x = x := by
  unfold IntKind.wrap IntKind.bits IntKind.signed
  simp only [Bool.false_and, Bool.false_eq_true, if_false]
  omega
theorem wrap_u8 {x : Int} (h0 : 0 ≤ x) (h1 : x < 256) : IntKind.u8.wrap x = x := by
  unfold IntKind.wrap IntKind.bits IntKind.signed
  simp only [Bool.false_and, Bool.false_eq_true, if_false]
  omega
theorem wrap_u8_mod (x : Int) : IntKind.u8.wrap x = x % 256 := by
  unfold IntKind.wrap IntKind.bits IntKind.signed
  simp only [Bool.false_and, Bool.false_eq_true, if_false]
  omega
theorem wrap_u16_mod (x : Int) : IntKind.u16.wrap x = x % 65536 := by
  unfold IntKind.wrap IntKind.bits IntKind.signed
  simp only [Bool.false_and, Bool.false_eq_true, if_false]
  omega
theorem wi {i n : Nat} (h : i < n) (hn : n ≤ 4611686018427387904) : IntKind.i64.wrap ((i : Int) + 1) = ((i + 1 : Nat) : Int) := by
  rw [wrap_i64 (by omega) (by omega)]
  omega

section
variable {α : Type} {enc : α → List Value} {sz : Nat} {w : World} {xs : List α} {b off : Nat}
theorem ldN_el {n : Nat} (henc : ∀ x, (enc x).length = sz) (hc : ∀ j v o, (flat enc xs)[j]? = some v → o = off + j → w.cell? ⟨b, o, none⟩ = some v) {i o : Nat} (hi : i < xs.length) (ho : o = off + i * sz) (hn : n = sz) {K : List Value → Prop} (k : K (enc xs[i])) : LdN w ⟨b, o, none⟩ n K := by
  subst hn
  refine ldN_i _ (henc _) ?_ k
  intro j hj
  rw [add_none]
  have h1 := flat_get henc xs i hi j hj
  have hlt : j < (enc xs[i]).length := by rw [henc]; exact hj
  rw [List.getElem?_eq_getElem hlt] at h1 ⊢
  exact hc _ _ _ h1 (by omega)
theorem ld_el (henc : ∀ x, (enc x).length = sz) (hc : ∀ j v o, (flat enc xs)[j]? = some v → o = off + j → w.cell? ⟨b, o, none⟩ = some v) {i o k : Nat} (hi : i < xs.length) (hk : k < sz) (ho : o = off + i * sz + k) {v : Value} (hv : (enc xs[i])[k]? = some v) {K : Value → Prop} (h : K v) : Ld w ⟨b, o, none⟩ K := by
  have h1 := flat_get henc xs i hi k hk
  rw [hv] at h1
  exact ld_i v (hc _ _ _ h1 (by omega)) h
theorem flat_ne (henc : ∀ x, (enc x).length = sz) (hz : 0 < sz) {i : Nat} (hi : i < xs.length) : flat enc xs ≠ [] := by
  intro h
  have h1 := flat_length henc xs
  rw [h] at h1
  simp only [List.length_nil] at h1
  have : 0 < xs.length * sz := Nat.mul_pos (by omega) hz
  omega
end
theorem ix_i {A : Option Addr} {b off : Nat} {K : Nat → Nat → Prop} (h : A = some ⟨b, off, none⟩) (k : K b off) : Ix A K := ⟨⟨b, off, h, k⟩⟩

end Go.RV


set_option linter.unusedVariables false
set_option linter.unusedSimpArgs false
namespace Go.RV
open Go Go.RowKit

structure Sf (M : List Nat) (w0 w : World) (F L : LM) : Prop where
  st : St M w0 w (F ++ L)

theorem Sf.refl (w : World) : Sf [] w w [] [] := ⟨St.refl w⟩
theorem St.aside {M : List Nat} {w0 w : World} {L : LM} (h : St M w0 w L) : Sf M w0 w L [] := ⟨by simpa using h⟩

section
variable {P : Program} {M : List Nat} {w0 w w' : World} {F F' L L' Ls Fs : LM}

theorem Sf.nil (h : Sf M w0 w F L) : St M w0 w [] := h.st.nil
theorem Sf.sub (h : Sf M w0 w F L) (hs : L'.Sublist L) : St M w0 w L' := h.st.sub (hs.trans (List.sublist_append_right F L))
theorem Sf.fr (h : Sf M w0 w F L) (hs : F'.Sublist F) : St M w0 w F' := h.st.sub (hs.trans (List.sublist_append_left F L))
theorem Sf.subs (h : Sf M w0 w F L) (hf : F'.Sublist F) (hs : L'.Sublist L) : Sf M w0 w F' L' := ⟨h.st.sub (List.Sublist.append hf hs)⟩
theorem Sf.both (h : Sf M w0 w F L) (hf : F'.Sublist F) (hs : L'.Sublist L) : St M w0 w (F' ++ L') := (h.subs hf hs).st
/-- L's blocks go aside -/
theorem Sf.put (h : Sf M w0 w F L) : Sf M w0 w (F ++ L) [] := ⟨by simpa using h.st⟩
theorem Sf.swap (h : Sf M w0 w (F ++ F') L) : Sf M w0 w (F' ++ F) L := ⟨h.st.perm (List.Perm.append_right L List.perm_append_comm)⟩
theorem Sf.rot (h : Sf M w0 w (F ++ (F' ++ Fs)) L) : Sf M w0 w (F' ++ (F ++ Fs)) L := ⟨h.st.perm (List.Perm.append_right L (List.perm_append_comm_assoc F' F Fs))⟩
theorem Sf.drew (h : Sf M w0 w F L) (n : Nat) : Sf M w0 { w with drawn := n } F L := ⟨h.st.drew n⟩
theorem Sf.below (h : Sf [] w0 w F L) : Below w0.heap.size w0 w := h.st.below
theorem Sf.size (h : Sf M w0 w F L) : w0.heap.size ≤ w.heap.size := h.st.size
theorem Sf.idx (h : Sf M w0 w F L) (k : Nat) {x : Nat × Obj} (hk : L[k]? = some x) : (F ++ L)[F.length + k]? = some x := by
  rw [List.getElem?_append_right (by omega)]
  simpa using hk
theorem Sf.cell (h : Sf M w0 w F L) (k : Nat) {b off : Nat} {cs : Array Value} {e : TypeId} {fz : Nat × Nat} {v : Value} (hk : L[k]? = some (b, .cells cs e fz)) (hv : cs.toList[off]? = some v) : w.cell? ⟨b, off, none⟩ = some v :=
  h.st.cell (F.length + k) (h.idx k hk) hv
theorem Sf.holds (h : Sf M w0 w F L) (hs : Ls.Sublist L) : Holds w Ls := fun x hx => (h.sub hs).own x.1 x.2 hx
theorem Sf.call0 (h : Sf M w0 w F L) (h' : St [] w w' []) : Sf M w0 w' F L := ⟨h.st.call0 h'⟩
/-- what the call made is told behind the others -/
theorem Sf.call' (h : Sf M w0 w F L) (h' : St [] w w' L') : Sf M w0 w' F (L ++ L') := ⟨by simpa using h.st.call' h'⟩
/-- what the call made is told ahead -/
theorem Sf.callH (h : Sf M w0 w F L) (h' : St [] w w' L') : Sf M w0 w' F (L' ++ L) := by
  refine ⟨(h.st.call h').perm ?_⟩
  exact List.perm_append_comm_assoc F L' L
/-- what the call made goes aside -/
theorem Sf.callF (h : Sf M w0 w F L) (h' : St [] w w' L') : Sf M w0 w' (L' ++ F) L := ⟨by simpa using h.st.call h'⟩

theorem nw_f {o : Obj} {K : Nat → World → Prop} (hS : Sf M w0 w F L) (h : ∀ b w', Sf M w0 w' F ((b, o) :: L) → K b w') : Nw w o K :=
  nw_s hS.st fun b w' h' => h b w' ⟨h'.perm List.perm_middle⟩
theorem ld_f {b off : Nat} {cs : Array Value} {e : TypeId} {fz : Nat × Nat} {v : Value} {K : Value → Prop} (hS : Sf M w0 w F L) (k : Nat) (hk : L[k]? = some (b, .cells cs e fz)) (hv : cs.toList[off]? = some v) (h : K v) : Ld w ⟨b, off, none⟩ K :=
  ld_i v (hS.cell k hk hv) h
theorem ldN_f {b off n : Nat} {cs : Array Value} {e : TypeId} {fz : Nat × Nat} {K : List Value → Prop} (hS : Sf M w0 w F L) (k : Nat) (hk : L[k]? = some (b, .cells cs e fz)) (hn : off + n ≤ cs.toList.length) (h : K ((cs.toList.drop off).take n)) : LdN w ⟨b, off, none⟩ n K :=
  ldN_s hS.st _ (hS.idx k hk) hn h
theorem ldA_f {b n : Nat} {cs : Array Value} {e : TypeId} {fz : Nat × Nat} {K : List Value → Prop} (hS : Sf M w0 w F L) (k : Nat) (hk : L[k]? = some (b, .cells cs e fz)) (hn : n = cs.toList.length) (h : K cs.toList) : LdN w ⟨b, 0, none⟩ n K :=
  ldA_s hS.st _ (hS.idx k hk) hn h
theorem set_right (F L : LM) (k : Nat) (x : Nat × Obj) : (F ++ L).set (F.length + k) x = F ++ L.set k x := by
  rw [List.set_append_right _ _ (by omega)]
  simp
theorem Sf.set (hS : Sf M w0 w F L) (k : Nat) {b : Nat} {o : Obj} (hk : L[k]? = some (b, o)) (o' : Obj) (hw : w'.heap.size = w.heap.size ∧ w'.os = w.os ∧ w'.tape = w.tape ∧ w'.output = w.output)
    (h1 : w'.heap[b]? = some o') (h2 : ∀ j, j ≠ b → w'.heap[j]? = w.heap[j]?) : Sf M w0 w' F (L.set k (b, o')) :=
  ⟨by rw [← set_right]; exact hS.st.put _ (hS.idx k hk) o' hw h1 h2⟩
theorem stN_f {b off : Nat} {cs : Array Value} {e : TypeId} {lo hi : Nat} {v : Value} {K : World → Prop} (hS : Sf M w0 w F L) (k : Nat) (hk : L[k]? = some (b, .cells cs e (lo, hi))) (hlt : off < cs.toList.length) (hfz : (decide (lo ≤ off) && decide (off < hi)) = false) (ho : one v = true)
    (h : setK cs.toList off v fun l => setLK L k (b, .cells l.toArray e (lo, hi)) fun L' => ∀ w', Sf M w0 w' F L' → K w') : StN P w ⟨b, off, none⟩ [v] K := by
  have h1 := setLK_ok (setK_ok h)
  refine stN_s hS.st _ (hS.idx k hk) hlt hfz ho (setK_i ?_)
  have hset : ∀ {L : LM} {k : Nat} {x : Nat × Obj} {K : LM → Prop}, K (L.set k x) → setLK L k x K := by
    intro L
    induction L with
    | nil => intro k x K h; simpa [setLK] using h
    | cons y L ih =>
      intro k x K h
      cases k with
      | zero => simpa [setLK] using h
      | succ k => simp only [setLK]; exact ih (by simpa using h)
  refine hset ?_
  intro w' hS'
  rw [set_right] at hS'
  exact h1 w' ⟨hS'⟩
theorem stM_f {b off : Nat} {cs : Array Value} {e : TypeId} {vs : List Value} {K : World → Prop} (hS : Sf M w0 w F L) (k : Nat) (hk : L[k]? = some (b, .cells cs e (0, 0))) (hlt : off + vs.length ≤ cs.toList.length) (ho : allOne vs = true)
    (h : setsK cs.toList off vs fun l => setLK L k (b, .cells l.toArray e (0, 0)) fun L' => ∀ w', Sf M w0 w' F L' → K w') : StN P w ⟨b, off, none⟩ vs K := by
  have h1 := setLK_ok (setsK_ok h)
  refine stM_s hS.st _ (hS.idx k hk) hlt ho (setsK_i ?_)
  have hset : ∀ {L : LM} {k : Nat} {x : Nat × Obj} {K : LM → Prop}, K (L.set k x) → setLK L k x K := by
    intro L
    induction L with
    | nil => intro k x K h; simpa [setLK] using h
    | cons y L ih =>
      intro k x K h
      cases k with
      | zero => simpa [setLK] using h
      | succ k => simp only [setLK]; exact ih (by simpa using h)
  refine hset ?_
  intro w' hS'
  rw [set_right] at hS'
  exact h1 w' ⟨hS'⟩

theorem drawf {T : Tab} (hT : TabOk P T) {r : Option Nat} {id : Nat} {ops : Array Oper} {Q : Post} {fr : Fr} {ds : List Deferred} (hm : P.follows .mixedOrders = true) (hn : noDS ops = true) (hA : apartD ops = true) (hS : Sf M w0 w F L) (hf : Fs.Sublist F) (hs : Ls.Sublist L)
    (h : ∀ w', Sf M w0 w' F L → XD T P (fun w'' => Sf M w0 w'' Fs Ls) ops.toList (fun fr w => Q .normal fr ds w) ops.toList.length (List.replicate ops.toList.length false) fr w') : Wp P r (.region id ops true) Q fr ds w := by
  refine .of fun n => ?_
  have hS' : Sf M w0 { w with drawn := w.drawn + 1 } F L := hS.drew _
  have h1 := XD_ok (ds := ds) (Q := fun e a w => liftQ Q e a w ∧ ∀ c, e ≠ .panic c) hT r n (by simpa using hn) (by simpa using hA) (by rintro c a w ⟨_, hp⟩; exact hp c rfl)
    (K := fun fr w => Q .normal fr ds w) (fun fr w hk => ⟨⟨fr, ds, rfl, hk⟩, by intro c e; cases e⟩) ops.toList.length (fun w'' => Sf M w0 w'' Fs Ls) (List.replicate ops.toList.length false) fr { w with drawn := w.drawn + 1 } (by simp) (by intro m o hm; simp [Array.getD] at hm) (.inl (hS'.subs hf hs)) (h _ hS')
  have h2 := AnyS.any _ _ _ _ _ h1
  have h3 := wpIn_region_any (id := id) (ops := ops) hm (by simpa using h2)
  exact wpIn_mono h3 fun e a w hq => hq.1

theorem app_f {T : Tab} (hT : TabOk P T) {e sz t ty bytes : Nat} (hE : ElemOk P T t e sz bytes) {v : Value} {n : Nat} {cs : List Value} {Lv : LM} (hS : Sf M w0 w (Lv ++ F) L) (hv : Sl e sz v n cs Lv)
    {A : Option Addr} {m c : Nat} {ys : List Value} (hr : Rd w A ys) (hl : ys.length = m * sz) (h1 : ∀ y ∈ ys, one y = true) (hb : (n + m) * bytes ≤ 140737488355328) (h63 : n + m ≤ 4611686018427387904) {K : Value → World → Prop}
    (h : ∀ v' Lv' w', Sl e sz v' (n + m) (cs ++ ys) Lv' → Sf M w0 w' (Lv' ++ F) L → K v' w') : SemN P (Builtin.append_ #[t, t] ty #[v, .slice A m c]) w K :=
  app_sl hT hE (L := F ++ L) (by simpa using hS.st) hv hr hl h1 hb h63 fun v' Lv' w' hv' hS' => h v' Lv' w' hv' ⟨by simpa using hS'⟩
/-- a block that is told, as9 what is read -/
theorem Sf.rd (hS : Sf M w0 w F L) (k : Nat) {b : Nat} {cs : Array Value} {e : TypeId} {fz : Nat × Nat} (hk : L[k]? = some (b, .cells cs e fz)) : Rd w (some ⟨b, 0, none⟩) cs.toList :=
  .inr ⟨b, 0, rfl, fun j v hj => by rw [Nat.zero_add]; exact hS.cell k hk hj⟩
theorem Sl.rdF {e sz : Nat} {A : Option Addr} {c n : Nat} {cs : List Value} {Lv : LM} (h : Sl e sz (.slice A n c) n cs Lv) (hS : Sf M w0 w (Lv ++ F) L) : Rd w A cs :=
  h.rd hS.st (fun x hx => List.mem_append_left _ (List.mem_append_left _ hx))
theorem Sl.open {e sz : Nat} {v : Value} {n : Nat} {cs : List Value} {Lv : LM} (h : Sl e sz v n cs Lv) : ∃ A c, v = .slice A n c ∧ Sl e sz (.slice A n c) n cs Lv := by
  obtain ⟨A, c, rfl, _⟩ := h.shape
  exact ⟨A, c, rfl, h⟩
end

theorem bar_f {F : (World → Prop) → Prop} {M : List Nat} {w0 w : World} {Fs Ls : LM} (h : Sf M w0 w Fs Ls) (k : F (fun w'' => Sf M w0 w'' Fs Ls)) : BarS F w := ⟨⟨_, h, k⟩⟩
end Go.RV

namespace Go.RV
open Go Go.Proofs
theorem inf0 : Tryz.prog.info? 0 = some Tryz.t0 := by kernel_rfl
theorem inf1 : Tryz.prog.info? 1 = some Tryz.t1 := by kernel_rfl
theorem inf2 : Tryz.prog.info? 2 = some Tryz.t2 := by kernel_rfl
theorem inf3 : Tryz.prog.info? 3 = some Tryz.t3 := by kernel_rfl
theorem inf4 : Tryz.prog.info? 4 = some Tryz.t4 := by kernel_rfl
theorem inf5 : Tryz.prog.info? 5 = some Tryz.t5 := by kernel_rfl
theorem inf6 : Tryz.prog.info? 6 = some Tryz.t6 := by kernel_rfl
theorem inf7 : Tryz.prog.info? 7 = some Tryz.t7 := by kernel_rfl
theorem inf8 : Tryz.prog.info? 8 = some Tryz.t8 := by kernel_rfl
theorem inf9 : Tryz.prog.info? 9 = some Tryz.t9 := by kernel_rfl
theorem inf10 : Tryz.prog.info? 10 = some Tryz.t10 := by kernel_rfl
theorem inf11 : Tryz.prog.info? 11 = some Tryz.t11 := by kernel_rfl
theorem inf12 : Tryz.prog.info? 12 = some Tryz.t12 := by kernel_rfl
theorem inf13 : Tryz.prog.info? 13 = some Tryz.t13 := by kernel_rfl
theorem inf14 : Tryz.prog.info? 14 = some Tryz.t14 := by kernel_rfl
theorem inf15 : Tryz.prog.info? 15 = some Tryz.t15 := by kernel_rfl
theorem inf16 : Tryz.prog.info? 16 = some Tryz.t16 := by kernel_rfl
theorem inf17 : Tryz.prog.info? 17 = some Tryz.t17 := by kernel_rfl
theorem inf18 : Tryz.prog.info? 18 = some Tryz.t18 := by kernel_rfl
theorem inf19 : Tryz.prog.info? 19 = some Tryz.t19 := by kernel_rfl
theorem inf20 : Tryz.prog.info? 20 = some Tryz.t20 := by kernel_rfl
theorem inf21 : Tryz.prog.info? 21 = some Tryz.t21 := by kernel_rfl
theorem inf22 : Tryz.prog.info? 22 = some Tryz.t22 := by kernel_rfl
theorem inf23 : Tryz.prog.info? 23 = some Tryz.t23 := by kernel_rfl
theorem inf24 : Tryz.prog.info? 24 = some Tryz.t24 := by kernel_rfl
theorem inf25 : Tryz.prog.info? 25 = some Tryz.t25 := by kernel_rfl
theorem inf26 : Tryz.prog.info? 26 = some Tryz.t26 := by kernel_rfl
theorem inf27 : Tryz.prog.info? 27 = some Tryz.t27 := by kernel_rfl
theorem inf28 : Tryz.prog.info? 28 = some Tryz.t28 := by kernel_rfl
theorem inf29 : Tryz.prog.info? 29 = some Tryz.t29 := by kernel_rfl
theorem inf30 : Tryz.prog.info? 30 = some Tryz.t30 := by kernel_rfl
theorem inf31 : Tryz.prog.info? 31 = some Tryz.t31 := by kernel_rfl
theorem inf32 : Tryz.prog.info? 32 = some Tryz.t32 := by kernel_rfl
theorem inf33 : Tryz.prog.info? 33 = some Tryz.t33 := by kernel_rfl
theorem inf34 : Tryz.prog.info? 34 = some Tryz.t34 := by kernel_rfl
theorem inf35 : Tryz.prog.info? 35 = some Tryz.t35 := by kernel_rfl
theorem inf36 : Tryz.prog.info? 36 = some Tryz.t36 := by kernel_rfl
theorem inf37 : Tryz.prog.info? 37 = some Tryz.t37 := by kernel_rfl
theorem inf38 : Tryz.prog.info? 38 = some Tryz.t38 := by kernel_rfl
theorem inf39 : Tryz.prog.info? 39 = some Tryz.t39 := by kernel_rfl
theorem inf40 : Tryz.prog.info? 40 = some Tryz.t40 := by kernel_rfl
theorem inf41 : Tryz.prog.info? 41 = some Tryz.t41 := by kernel_rfl
theorem inf42 : Tryz.prog.info? 42 = some Tryz.t42 := by kernel_rfl
theorem inf43 : Tryz.prog.info? 43 = some Tryz.t43 := by kernel_rfl
theorem inf44 : Tryz.prog.info? 44 = some Tryz.t44 := by kernel_rfl
theorem inf45 : Tryz.prog.info? 45 = some Tryz.t45 := by kernel_rfl
theorem inf46 : Tryz.prog.info? 46 = some Tryz.t46 := by kernel_rfl
theorem inf47 : Tryz.prog.info? 47 = some Tryz.t47 := by kernel_rfl
theorem inf48 : Tryz.prog.info? 48 = some Tryz.t48 := by kernel_rfl
theorem inf49 : Tryz.prog.info? 49 = some Tryz.t49 := by kernel_rfl
theorem inf50 : Tryz.prog.info? 50 = some Tryz.t50 := by kernel_rfl
theorem inf51 : Tryz.prog.info? 51 = some Tryz.t51 := by kernel_rfl
theorem inf52 : Tryz.prog.info? 52 = some Tryz.t52 := by kernel_rfl
theorem inf53 : Tryz.prog.info? 53 = some Tryz.t53 := by kernel_rfl
theorem inf54 : Tryz.prog.info? 54 = some Tryz.t54 := by kernel_rfl
theorem inf55 : Tryz.prog.info? 55 = some Tryz.t55 := by kernel_rfl
theorem inf56 : Tryz.prog.info? 56 = some Tryz.t56 := by kernel_rfl
theorem inf57 : Tryz.prog.info? 57 = some Tryz.t57 := by kernel_rfl
theorem inf58 : Tryz.prog.info? 58 = some Tryz.t58 := by kernel_rfl
theorem inf59 : Tryz.prog.info? 59 = some Tryz.t59 := by kernel_rfl
theorem inf60 : Tryz.prog.info? 60 = some Tryz.t60 := by kernel_rfl
theorem inf61 : Tryz.prog.info? 61 = some Tryz.t61 := by kernel_rfl
theorem inf62 : Tryz.prog.info? 62 = some Tryz.t62 := by kernel_rfl
theorem inf63 : Tryz.prog.info? 63 = some Tryz.t63 := by kernel_rfl
theorem inf64 : Tryz.prog.info? 64 = some Tryz.t64 := by kernel_rfl
theorem inf65 : Tryz.prog.info? 65 = some Tryz.t65 := by kernel_rfl
theorem inf66 : Tryz.prog.info? 66 = some Tryz.t66 := by kernel_rfl
theorem inf67 : Tryz.prog.info? 67 = some Tryz.t67 := by kernel_rfl
theorem inf68 : Tryz.prog.info? 68 = some Tryz.t68 := by kernel_rfl
theorem inf69 : Tryz.prog.info? 69 = some Tryz.t69 := by kernel_rfl
theorem inf70 : Tryz.prog.info? 70 = some Tryz.t70 := by kernel_rfl
theorem inf71 : Tryz.prog.info? 71 = some Tryz.t71 := by kernel_rfl
theorem inf72 : Tryz.prog.info? 72 = some Tryz.t72 := by kernel_rfl
theorem inf73 : Tryz.prog.info? 73 = some Tryz.t73 := by kernel_rfl
theorem inf74 : Tryz.prog.info? 74 = some Tryz.t74 := by kernel_rfl
theorem inf75 : Tryz.prog.info? 75 = some Tryz.t75 := by kernel_rfl
theorem inf76 : Tryz.prog.info? 76 = some Tryz.t76 := by kernel_rfl
theorem inf77 : Tryz.prog.info? 77 = some Tryz.t77 := by kernel_rfl
theorem inf78 : Tryz.prog.info? 78 = some Tryz.t78 := by kernel_rfl
theorem inf79 : Tryz.prog.info? 79 = some Tryz.t79 := by kernel_rfl
theorem inf80 : Tryz.prog.info? 80 = some Tryz.t80 := by kernel_rfl
theorem inf81 : Tryz.prog.info? 81 = some Tryz.t81 := by kernel_rfl
theorem inf82 : Tryz.prog.info? 82 = some Tryz.t82 := by kernel_rfl
theorem inf83 : Tryz.prog.info? 83 = some Tryz.t83 := by kernel_rfl
theorem inf84 : Tryz.prog.info? 84 = some Tryz.t84 := by kernel_rfl
theorem inf85 : Tryz.prog.info? 85 = some Tryz.t85 := by kernel_rfl
theorem inf86 : Tryz.prog.info? 86 = some Tryz.t86 := by kernel_rfl
theorem inf87 : Tryz.prog.info? 87 = some Tryz.t87 := by kernel_rfl
theorem inf88 : Tryz.prog.info? 88 = some Tryz.t88 := by kernel_rfl
theorem inf89 : Tryz.prog.info? 89 = some Tryz.t89 := by kernel_rfl
theorem inf90 : Tryz.prog.info? 90 = some Tryz.t90 := by kernel_rfl
theorem inf91 : Tryz.prog.info? 91 = some Tryz.t91 := by kernel_rfl
theorem inf92 : Tryz.prog.info? 92 = some Tryz.t92 := by kernel_rfl
theorem inf93 : Tryz.prog.info? 93 = some Tryz.t93 := by kernel_rfl
theorem inf94 : Tryz.prog.info? 94 = some Tryz.t94 := by kernel_rfl
theorem inf95 : Tryz.prog.info? 95 = some Tryz.t95 := by kernel_rfl
theorem inf96 : Tryz.prog.info? 96 = some Tryz.t96 := by kernel_rfl
theorem inf97 : Tryz.prog.info? 97 = some Tryz.t97 := by kernel_rfl
theorem inf98 : Tryz.prog.info? 98 = some Tryz.t98 := by kernel_rfl
theorem inf99 : Tryz.prog.info? 99 = some Tryz.t99 := by kernel_rfl
theorem inf100 : Tryz.prog.info? 100 = some Tryz.t100 := by kernel_rfl
theorem inf101 : Tryz.prog.info? 101 = some Tryz.t101 := by kernel_rfl
theorem inf102 : Tryz.prog.info? 102 = some Tryz.t102 := by kernel_rfl
theorem inf103 : Tryz.prog.info? 103 = some Tryz.t103 := by kernel_rfl
theorem inf104 : Tryz.prog.info? 104 = some Tryz.t104 := by kernel_rfl
theorem inf105 : Tryz.prog.info? 105 = some Tryz.t105 := by kernel_rfl
theorem inf106 : Tryz.prog.info? 106 = some Tryz.t106 := by kernel_rfl
theorem inf107 : Tryz.prog.info? 107 = some Tryz.t107 := by kernel_rfl
theorem inf108 : Tryz.prog.info? 108 = some Tryz.t108 := by kernel_rfl
theorem inf109 : Tryz.prog.info? 109 = some Tryz.t109 := by kernel_rfl
theorem inf110 : Tryz.prog.info? 110 = some Tryz.t110 := by kernel_rfl
theorem inf111 : Tryz.prog.info? 111 = some Tryz.t111 := by kernel_rfl
theorem inf112 : Tryz.prog.info? 112 = some Tryz.t112 := by kernel_rfl
theorem inf113 : Tryz.prog.info? 113 = some Tryz.t113 := by kernel_rfl
theorem inf114 : Tryz.prog.info? 114 = some Tryz.t114 := by kernel_rfl
theorem inf115 : Tryz.prog.info? 115 = some Tryz.t115 := by kernel_rfl
theorem inf116 : Tryz.prog.info? 116 = some Tryz.t116 := by kernel_rfl
theorem inf117 : Tryz.prog.info? 117 = some Tryz.t117 := by kernel_rfl
theorem inf118 : Tryz.prog.info? 118 = some Tryz.t118 := by kernel_rfl
theorem inf119 : Tryz.prog.info? 119 = some Tryz.t119 := by kernel_rfl
theorem inf120 : Tryz.prog.info? 120 = some Tryz.t120 := by kernel_rfl
theorem inf121 : Tryz.prog.info? 121 = some Tryz.t121 := by kernel_rfl
theorem inf122 : Tryz.prog.info? 122 = some Tryz.t122 := by kernel_rfl
theorem inf123 : Tryz.prog.info? 123 = some Tryz.t123 := by kernel_rfl
theorem inf124 : Tryz.prog.info? 124 = some Tryz.t124 := by kernel_rfl
theorem inf125 : Tryz.prog.info? 125 = some Tryz.t125 := by kernel_rfl
theorem inf126 : Tryz.prog.info? 126 = some Tryz.t126 := by kernel_rfl
theorem inf127 : Tryz.prog.info? 127 = some Tryz.t127 := by kernel_rfl
theorem inf128 : Tryz.prog.info? 128 = some Tryz.t128 := by kernel_rfl
theorem inf129 : Tryz.prog.info? 129 = some Tryz.t129 := by kernel_rfl
theorem inf130 : Tryz.prog.info? 130 = some Tryz.t130 := by kernel_rfl
theorem inf131 : Tryz.prog.info? 131 = some Tryz.t131 := by kernel_rfl
theorem inf132 : Tryz.prog.info? 132 = some Tryz.t132 := by kernel_rfl
theorem inf133 : Tryz.prog.info? 133 = some Tryz.t133 := by kernel_rfl
theorem inf134 : Tryz.prog.info? 134 = some Tryz.t134 := by kernel_rfl
theorem inf135 : Tryz.prog.info? 135 = some Tryz.t135 := by kernel_rfl
theorem inf136 : Tryz.prog.info? 136 = some Tryz.t136 := by kernel_rfl
theorem inf137 : Tryz.prog.info? 137 = some Tryz.t137 := by kernel_rfl
theorem inf138 : Tryz.prog.info? 138 = some Tryz.t138 := by kernel_rfl
theorem inf139 : Tryz.prog.info? 139 = some Tryz.t139 := by kernel_rfl
theorem inf140 : Tryz.prog.info? 140 = some Tryz.t140 := by kernel_rfl
theorem inf141 : Tryz.prog.info? 141 = some Tryz.t141 := by kernel_rfl
theorem inf142 : Tryz.prog.info? 142 = some Tryz.t142 := by kernel_rfl
theorem inf143 : Tryz.prog.info? 143 = some Tryz.t143 := by kernel_rfl
theorem inf144 : Tryz.prog.info? 144 = some Tryz.t144 := by kernel_rfl
theorem inf145 : Tryz.prog.info? 145 = some Tryz.t145 := by kernel_rfl
theorem inf146 : Tryz.prog.info? 146 = some Tryz.t146 := by kernel_rfl
theorem inf147 : Tryz.prog.info? 147 = some Tryz.t147 := by kernel_rfl
theorem inf148 : Tryz.prog.info? 148 = some Tryz.t148 := by kernel_rfl
theorem inf149 : Tryz.prog.info? 149 = some Tryz.t149 := by kernel_rfl
theorem inf150 : Tryz.prog.info? 150 = some Tryz.t150 := by kernel_rfl
theorem inf151 : Tryz.prog.info? 151 = some Tryz.t151 := by kernel_rfl
theorem inf152 : Tryz.prog.info? 152 = some Tryz.t152 := by kernel_rfl
theorem inf153 : Tryz.prog.info? 153 = some Tryz.t153 := by kernel_rfl
theorem inf154 : Tryz.prog.info? 154 = some Tryz.t154 := by kernel_rfl
theorem inf155 : Tryz.prog.info? 155 = some Tryz.t155 := by kernel_rfl
theorem inf156 : Tryz.prog.info? 156 = some Tryz.t156 := by kernel_rfl
theorem inf157 : Tryz.prog.info? 157 = some Tryz.t157 := by kernel_rfl
theorem inf158 : Tryz.prog.info? 158 = some Tryz.t158 := by kernel_rfl
theorem inf159 : Tryz.prog.info? 159 = some Tryz.t159 := by kernel_rfl
theorem inf160 : Tryz.prog.info? 160 = some Tryz.t160 := by kernel_rfl
theorem inf161 : Tryz.prog.info? 161 = some Tryz.t161 := by kernel_rfl
theorem inf162 : Tryz.prog.info? 162 = some Tryz.t162 := by kernel_rfl
theorem inf163 : Tryz.prog.info? 163 = some Tryz.t163 := by kernel_rfl
theorem inf164 : Tryz.prog.info? 164 = some Tryz.t164 := by kernel_rfl
theorem inf165 : Tryz.prog.info? 165 = some Tryz.t165 := by kernel_rfl
theorem inf166 : Tryz.prog.info? 166 = some Tryz.t166 := by kernel_rfl
theorem inf167 : Tryz.prog.info? 167 = some Tryz.t167 := by kernel_rfl
theorem inf168 : Tryz.prog.info? 168 = some Tryz.t168 := by kernel_rfl
theorem inf169 : Tryz.prog.info? 169 = some Tryz.t169 := by kernel_rfl
theorem inf170 : Tryz.prog.info? 170 = some Tryz.t170 := by kernel_rfl
theorem inf171 : Tryz.prog.info? 171 = some Tryz.t171 := by kernel_rfl
theorem inf172 : Tryz.prog.info? 172 = some Tryz.t172 := by kernel_rfl
theorem inf173 : Tryz.prog.info? 173 = some Tryz.t173 := by kernel_rfl
theorem inf174 : Tryz.prog.info? 174 = some Tryz.t174 := by kernel_rfl
theorem inf175 : Tryz.prog.info? 175 = some Tryz.t175 := by kernel_rfl
theorem inf176 : Tryz.prog.info? 176 = some Tryz.t176 := by kernel_rfl
theorem inf177 : Tryz.prog.info? 177 = some Tryz.t177 := by kernel_rfl
theorem inf178 : Tryz.prog.info? 178 = some Tryz.t178 := by kernel_rfl
theorem inf179 : Tryz.prog.info? 179 = some Tryz.t179 := by kernel_rfl
theorem inf180 : Tryz.prog.info? 180 = some Tryz.t180 := by kernel_rfl
theorem inf181 : Tryz.prog.info? 181 = some Tryz.t181 := by kernel_rfl
theorem inf182 : Tryz.prog.info? 182 = some Tryz.t182 := by kernel_rfl
theorem inf183 : Tryz.prog.info? 183 = some Tryz.t183 := by kernel_rfl
theorem inf184 : Tryz.prog.info? 184 = some Tryz.t184 := by kernel_rfl
theorem inf185 : Tryz.prog.info? 185 = some Tryz.t185 := by kernel_rfl
theorem inf186 : Tryz.prog.info? 186 = some Tryz.t186 := by kernel_rfl
theorem inf187 : Tryz.prog.info? 187 = some Tryz.t187 := by kernel_rfl
theorem inf188 : Tryz.prog.info? 188 = some Tryz.t188 := by kernel_rfl
theorem inf189 : Tryz.prog.info? 189 = some Tryz.t189 := by kernel_rfl
theorem inf190 : Tryz.prog.info? 190 = some Tryz.t190 := by kernel_rfl
theorem inf191 : Tryz.prog.info? 191 = some Tryz.t191 := by kernel_rfl
theorem inf192 : Tryz.prog.info? 192 = some Tryz.t192 := by kernel_rfl
theorem inf193 : Tryz.prog.info? 193 = some Tryz.t193 := by kernel_rfl
theorem inf194 : Tryz.prog.info? 194 = some Tryz.t194 := by kernel_rfl
theorem inf195 : Tryz.prog.info? 195 = some Tryz.t195 := by kernel_rfl
theorem inf196 : Tryz.prog.info? 196 = some Tryz.t196 := by kernel_rfl
theorem inf197 : Tryz.prog.info? 197 = some Tryz.t197 := by kernel_rfl
theorem inf198 : Tryz.prog.info? 198 = some Tryz.t198 := by kernel_rfl
theorem inf199 : Tryz.prog.info? 199 = some Tryz.t199 := by kernel_rfl
theorem inf200 : Tryz.prog.info? 200 = some Tryz.t200 := by kernel_rfl
theorem inf201 : Tryz.prog.info? 201 = some Tryz.t201 := by kernel_rfl
theorem inf202 : Tryz.prog.info? 202 = some Tryz.t202 := by kernel_rfl
theorem inf203 : Tryz.prog.info? 203 = some Tryz.t203 := by kernel_rfl
theorem inf204 : Tryz.prog.info? 204 = some Tryz.t204 := by kernel_rfl
theorem inf205 : Tryz.prog.info? 205 = some Tryz.t205 := by kernel_rfl
theorem inf206 : Tryz.prog.info? 206 = some Tryz.t206 := by kernel_rfl
theorem inf207 : Tryz.prog.info? 207 = some Tryz.t207 := by kernel_rfl
theorem inf208 : Tryz.prog.info? 208 = some Tryz.t208 := by kernel_rfl
theorem inf209 : Tryz.prog.info? 209 = some Tryz.t209 := by kernel_rfl
theorem inf210 : Tryz.prog.info? 210 = some Tryz.t210 := by kernel_rfl
theorem inf211 : Tryz.prog.info? 211 = some Tryz.t211 := by kernel_rfl
theorem inf212 : Tryz.prog.info? 212 = some Tryz.t212 := by kernel_rfl
theorem inf213 : Tryz.prog.info? 213 = some Tryz.t213 := by kernel_rfl
theorem inf214 : Tryz.prog.info? 214 = some Tryz.t214 := by kernel_rfl
theorem inf215 : Tryz.prog.info? 215 = some Tryz.t215 := by kernel_rfl
theorem inf216 : Tryz.prog.info? 216 = some Tryz.t216 := by kernel_rfl
theorem inf217 : Tryz.prog.info? 217 = some Tryz.t217 := by kernel_rfl
theorem inf218 : Tryz.prog.info? 218 = some Tryz.t218 := by kernel_rfl
theorem inf219 : Tryz.prog.info? 219 = some Tryz.t219 := by kernel_rfl
theorem inf220 : Tryz.prog.info? 220 = some Tryz.t220 := by kernel_rfl
theorem inf221 : Tryz.prog.info? 221 = some Tryz.t221 := by kernel_rfl
theorem inf222 : Tryz.prog.info? 222 = some Tryz.t222 := by kernel_rfl
theorem inf223 : Tryz.prog.info? 223 = some Tryz.t223 := by kernel_rfl
theorem inf224 : Tryz.prog.info? 224 = some Tryz.t224 := by kernel_rfl
theorem inf225 : Tryz.prog.info? 225 = some Tryz.t225 := by kernel_rfl
inductive TT where
  | one (n : Nat) (i : TypeInfo)
  | two (m : Nat) (a b : TT)
def TT.look (k : Nat) : TT → Option TypeInfo
  | .one n i => match Nat.beq n k with | true => some i | false => none
  | .two m a b => match Nat.blt k m with | true => TT.look k a | false => TT.look k b
noncomputable def tt : TT := (TT.two 113 (TT.two 56 (TT.two 28 (TT.two 14 (TT.two 7 (TT.two 3 (TT.two 1 (TT.one 0 Tryz.t0) (TT.two 2 (TT.one 1 Tryz.t1) (TT.one 2 Tryz.t2))) (TT.two 5 (TT.two 4 (TT.one 3 Tryz.t3) (TT.one 4 Tryz.t4)) (TT.two 6 (TT.one 5 Tryz.t5) (TT.one 6 Tryz.t6)))) (TT.two 10 (TT.two 8 (TT.one 7 Tryz.t7) (TT.two 9 (TT.one 8 Tryz.t8) (TT.one 9 Tryz.t9))) (TT.two 12 (TT.two 11 (TT.one 10 Tryz.t10) (TT.one 11 Tryz.t11)) (TT.two 13 (TT.one 12 Tryz.t12) (TT.one 13 Tryz.t13))))) (TT.two 21 (TT.two 17 (TT.two 15 (TT.one 14 Tryz.t14) (TT.two 16 (TT.one 15 Tryz.t15) (TT.one 16 Tryz.t16))) (TT.two 19 (TT.two 18 (TT.one 17 Tryz.t17) (TT.one 18 Tryz.t18)) (TT.two 20 (TT.one 19 Tryz.t19) (TT.one 20 Tryz.t20)))) (TT.two 24 (TT.two 22 (TT.one 21 Tryz.t21) (TT.two 23 (TT.one 22 Tryz.t22) (TT.one 23 Tryz.t23))) (TT.two 26 (TT.two 25 (TT.one 24 Tryz.t24) (TT.one 25 Tryz.t25)) (TT.two 27 (TT.one 26 Tryz.t26) (TT.one 27 Tryz.t27)))))) (TT.two 42 (TT.two 35 (TT.two 31 (TT.two 29 (TT.one 28 Tryz.t28) (TT.two 30 (TT.one 29 Tryz.t29) (TT.one 30 Tryz.t30))) (TT.two 33 (TT.two 32 (TT.one 31 Tryz.t31) (TT.one 32 Tryz.t32)) (TT.two 34 (TT.one 33 Tryz.t33) (TT.one 34 Tryz.t34)))) (TT.two 38 (TT.two 36 (TT.one 35 Tryz.t35) (TT.two 37 (TT.one 36 Tryz.t36) (TT.one 37 Tryz.t37))) (TT.two 40 (TT.two 39 (TT.one 38 Tryz.t38) (TT.one 39 Tryz.t39)) (TT.two 41 (TT.one 40 Tryz.t40) (TT.one 41 Tryz.t41))))) (TT.two 49 (TT.two 45 (TT.two 43 (TT.one 42 Tryz.t42) (TT.two 44 (TT.one 43 Tryz.t43) (TT.one 44 Tryz.t44))) (TT.two 47 (TT.two 46 (TT.one 45 Tryz.t45) (TT.one 46 Tryz.t46)) (TT.two 48 (TT.one 47 Tryz.t47) (TT.one 48 Tryz.t48)))) (TT.two 52 (TT.two 50 (TT.one 49 Tryz.t49) (TT.two 51 (TT.one 50 Tryz.t50) (TT.one 51 Tryz.t51))) (TT.two 54 (TT.two 53 (TT.one 52 Tryz.t52) (TT.one 53 Tryz.t53)) (TT.two 55 (TT.one 54 Tryz.t54) (TT.one 55 Tryz.t55))))))) (TT.two 84 (TT.two 70 (TT.two 63 (TT.two 59 (TT.two 57 (TT.one 56 Tryz.t56) (TT.two 58 (TT.one 57 Tryz.t57) (TT.one 58 Tryz.t58))) (TT.two 61 (TT.two 60 (TT.one 59 Tryz.t59) (TT.one 60 Tryz.t60)) (TT.two 62 (TT.one 61 Tryz.t61) (TT.one 62 Tryz.t62)))) (TT.two 66 (TT.two 64 (TT.one 63 Tryz.t63) (TT.two 65 (TT.one 64 Tryz.t64) (TT.one 65 Tryz.t65))) (TT.two 68 (TT.two 67 (TT.one 66 Tryz.t66) (TT.one 67 Tryz.t67)) (TT.two 69 (TT.one 68 Tryz.t68) (TT.one 69 Tryz.t69))))) (TT.two 77 (TT.two 73 (TT.two 71 (TT.one 70 Tryz.t70) (TT.two 72 (TT.one 71 Tryz.t71) (TT.one 72 Tryz.t72))) (TT.two 75 (TT.two 74 (TT.one 73 Tryz.t73) (TT.one 74 Tryz.t74)) (TT.two 76 (TT.one 75 Tryz.t75) (TT.one 76 Tryz.t76)))) (TT.two 80 (TT.two 78 (TT.one 77 Tryz.t77) (TT.two 79 (TT.one 78 Tryz.t78) (TT.one 79 Tryz.t79))) (TT.two 82 (TT.two 81 (TT.one 80 Tryz.t80) (TT.one 81 Tryz.t81)) (TT.two 83 (TT.one 82 Tryz.t82) (TT.one 83 Tryz.t83)))))) (TT.two 98 (TT.two 91 (TT.two 87 (TT.two 85 (TT.one 84 Tryz.t84) (TT.two 86 (TT.one 85 Tryz.t85) (TT.one 86 Tryz.t86))) (TT.two 89 (TT.two 88 (TT.one 87 Tryz.t87) (TT.one 88 Tryz.t88)) (TT.two 90 (TT.one 89 Tryz.t89) (TT.one 90 Tryz.t90)))) (TT.two 94 (TT.two 92 (TT.one 91 Tryz.t91) (TT.two 93 (TT.one 92 Tryz.t92) (TT.one 93 Tryz.t93))) (TT.two 96 (TT.two 95 (TT.one 94 Tryz.t94) (TT.one 95 Tryz.t95)) (TT.two 97 (TT.one 96 Tryz.t96) (TT.one 97 Tryz.t97))))) (TT.two 105 (TT.two 101 (TT.two 99 (TT.one 98 Tryz.t98) (TT.two 100 (TT.one 99 Tryz.t99) (TT.one 100 Tryz.t100))) (TT.two 103 (TT.two 102 (TT.one 101 Tryz.t101) (TT.one 102 Tryz.t102)) (TT.two 104 (TT.one 103 Tryz.t103) (TT.one 104 Tryz.t104)))) (TT.two 109 (TT.two 107 (TT.two 106 (TT.one 105 Tryz.t105) (TT.one 106 Tryz.t106)) (TT.two 108 (TT.one 107 Tryz.t107) (TT.one 108 Tryz.t108))) (TT.two 111 (TT.two 110 (TT.one 109 Tryz.t109) (TT.one 110 Tryz.t110)) (TT.two 112 (TT.one 111 Tryz.t111) (TT.one 112 Tryz.t112)))))))) (TT.two 169 (TT.two 141 (TT.two 127 (TT.two 120 (TT.two 116 (TT.two 114 (TT.one 113 Tryz.t113) (TT.two 115 (TT.one 114 Tryz.t114) (TT.one 115 Tryz.t115))) (TT.two 118 (TT.two 117 (TT.one 116 Tryz.t116) (TT.one 117 Tryz.t117)) (TT.two 119 (TT.one 118 Tryz.t118) (TT.one 119 Tryz.t119)))) (TT.two 123 (TT.two 121 (TT.one 120 Tryz.t120) (TT.two 122 (TT.one 121 Tryz.t121) (TT.one 122 Tryz.t122))) (TT.two 125 (TT.two 124 (TT.one 123 Tryz.t123) (TT.one 124 Tryz.t124)) (TT.two 126 (TT.one 125 Tryz.t125) (TT.one 126 Tryz.t126))))) (TT.two 134 (TT.two 130 (TT.two 128 (TT.one 127 Tryz.t127) (TT.two 129 (TT.one 128 Tryz.t128) (TT.one 129 Tryz.t129))) (TT.two 132 (TT.two 131 (TT.one 130 Tryz.t130) (TT.one 131 Tryz.t131)) (TT.two 133 (TT.one 132 Tryz.t132) (TT.one 133 Tryz.t133)))) (TT.two 137 (TT.two 135 (TT.one 134 Tryz.t134) (TT.two 136 (TT.one 135 Tryz.t135) (TT.one 136 Tryz.t136))) (TT.two 139 (TT.two 138 (TT.one 137 Tryz.t137) (TT.one 138 Tryz.t138)) (TT.two 140 (TT.one 139 Tryz.t139) (TT.one 140 Tryz.t140)))))) (TT.two 155 (TT.two 148 (TT.two 144 (TT.two 142 (TT.one 141 Tryz.t141) (TT.two 143 (TT.one 142 Tryz.t142) (TT.one 143 Tryz.t143))) (TT.two 146 (TT.two 145 (TT.one 144 Tryz.t144) (TT.one 145 Tryz.t145)) (TT.two 147 (TT.one 146 Tryz.t146) (TT.one 147 Tryz.t147)))) (TT.two 151 (TT.two 149 (TT.one 148 Tryz.t148) (TT.two 150 (TT.one 149 Tryz.t149) (TT.one 150 Tryz.t150))) (TT.two 153 (TT.two 152 (TT.one 151 Tryz.t151) (TT.one 152 Tryz.t152)) (TT.two 154 (TT.one 153 Tryz.t153) (TT.one 154 Tryz.t154))))) (TT.two 162 (TT.two 158 (TT.two 156 (TT.one 155 Tryz.t155) (TT.two 157 (TT.one 156 Tryz.t156) (TT.one 157 Tryz.t157))) (TT.two 160 (TT.two 159 (TT.one 158 Tryz.t158) (TT.one 159 Tryz.t159)) (TT.two 161 (TT.one 160 Tryz.t160) (TT.one 161 Tryz.t161)))) (TT.two 165 (TT.two 163 (TT.one 162 Tryz.t162) (TT.two 164 (TT.one 163 Tryz.t163) (TT.one 164 Tryz.t164))) (TT.two 167 (TT.two 166 (TT.one 165 Tryz.t165) (TT.one 166 Tryz.t166)) (TT.two 168 (TT.one 167 Tryz.t167) (TT.one 168 Tryz.t168))))))) (TT.two 197 (TT.two 183 (TT.two 176 (TT.two 172 (TT.two 170 (TT.one 169 Tryz.t169) (TT.two 171 (TT.one 170 Tryz.t170) (TT.one 171 Tryz.t171))) (TT.two 174 (TT.two 173 (TT.one 172 Tryz.t172) (TT.one 173 Tryz.t173)) (TT.two 175 (TT.one 174 Tryz.t174) (TT.one 175 Tryz.t175)))) (TT.two 179 (TT.two 177 (TT.one 176 Tryz.t176) (TT.two 178 (TT.one 177 Tryz.t177) (TT.one 178 Tryz.t178))) (TT.two 181 (TT.two 180 (TT.one 179 Tryz.t179) (TT.one 180 Tryz.t180)) (TT.two 182 (TT.one 181 Tryz.t181) (TT.one 182 Tryz.t182))))) (TT.two 190 (TT.two 186 (TT.two 184 (TT.one 183 Tryz.t183) (TT.two 185 (TT.one 184 Tryz.t184) (TT.one 185 Tryz.t185))) (TT.two 188 (TT.two 187 (TT.one 186 Tryz.t186) (TT.one 187 Tryz.t187)) (TT.two 189 (TT.one 188 Tryz.t188) (TT.one 189 Tryz.t189)))) (TT.two 193 (TT.two 191 (TT.one 190 Tryz.t190) (TT.two 192 (TT.one 191 Tryz.t191) (TT.one 192 Tryz.t192))) (TT.two 195 (TT.two 194 (TT.one 193 Tryz.t193) (TT.one 194 Tryz.t194)) (TT.two 196 (TT.one 195 Tryz.t195) (TT.one 196 Tryz.t196)))))) (TT.two 211 (TT.two 204 (TT.two 200 (TT.two 198 (TT.one 197 Tryz.t197) (TT.two 199 (TT.one 198 Tryz.t198) (TT.one 199 Tryz.t199))) (TT.two 202 (TT.two 201 (TT.one 200 Tryz.t200) (TT.one 201 Tryz.t201)) (TT.two 203 (TT.one 202 Tryz.t202) (TT.one 203 Tryz.t203)))) (TT.two 207 (TT.two 205 (TT.one 204 Tryz.t204) (TT.two 206 (TT.one 205 Tryz.t205) (TT.one 206 Tryz.t206))) (TT.two 209 (TT.two 208 (TT.one 207 Tryz.t207) (TT.one 208 Tryz.t208)) (TT.two 210 (TT.one 209 Tryz.t209) (TT.one 210 Tryz.t210))))) (TT.two 218 (TT.two 214 (TT.two 212 (TT.one 211 Tryz.t211) (TT.two 213 (TT.one 212 Tryz.t212) (TT.one 213 Tryz.t213))) (TT.two 216 (TT.two 215 (TT.one 214 Tryz.t214) (TT.one 215 Tryz.t215)) (TT.two 217 (TT.one 216 Tryz.t216) (TT.one 217 Tryz.t217)))) (TT.two 222 (TT.two 220 (TT.two 219 (TT.one 218 Tryz.t218) (TT.one 219 Tryz.t219)) (TT.two 221 (TT.one 220 Tryz.t220) (TT.one 221 Tryz.t221))) (TT.two 224 (TT.two 223 (TT.one 222 Tryz.t222) (TT.one 223 Tryz.t223)) (TT.two 225 (TT.one 224 Tryz.t224) (TT.one 225 Tryz.t225)))))))))
noncomputable def TB : Tab := fun n => TT.look n tt
def TT.Ok (P : Program) : TT → Prop
  | .one n i => P.info? n = some i
  | .two _ a b => a.Ok P ∧ b.Ok P
theorem TT.ok (P : Program) : ∀ (t : TT), t.Ok P → TabOk P fun k => TT.look k t
  | .one n i, h => fun k j hk => by
    replace hk : TT.look k (.one n i) = some j := hk
    unfold TT.look at hk
    split at hk
    · rename_i e; cases hk; rw [← Nat.eq_of_beq_eq_true e]; exact h
    · cases hk
  | .two m a b, h => fun k j hk => by
    replace hk : TT.look k (.two m a b) = some j := hk
    unfold TT.look at hk
    split at hk
    · exact TT.ok P a h.1 k j hk
    · exact TT.ok P b h.2 k j hk
theorem TB_ok : TabOk Tryz.prog TB := TT.ok _ tt ⟨⟨⟨⟨⟨⟨⟨inf0, ⟨inf1, inf2⟩⟩, ⟨⟨inf3, inf4⟩, ⟨inf5, inf6⟩⟩⟩, ⟨⟨inf7, ⟨inf8, inf9⟩⟩, ⟨⟨inf10, inf11⟩, ⟨inf12, inf13⟩⟩⟩⟩, ⟨⟨⟨inf14, ⟨inf15, inf16⟩⟩, ⟨⟨inf17, inf18⟩, ⟨inf19, inf20⟩⟩⟩, ⟨⟨inf21, ⟨inf22, inf23⟩⟩, ⟨⟨inf24, inf25⟩, ⟨inf26, inf27⟩⟩⟩⟩⟩, ⟨⟨⟨⟨inf28, ⟨inf29, inf30⟩⟩, ⟨⟨inf31, inf32⟩, ⟨inf33, inf34⟩⟩⟩, ⟨⟨inf35, ⟨inf36, inf37⟩⟩, ⟨⟨inf38, inf39⟩, ⟨inf40, inf41⟩⟩⟩⟩, ⟨⟨⟨inf42, ⟨inf43, inf44⟩⟩, ⟨⟨inf45, inf46⟩, ⟨inf47, inf48⟩⟩⟩, ⟨⟨inf49, ⟨inf50, inf51⟩⟩, ⟨⟨inf52, inf53⟩, ⟨inf54, inf55⟩⟩⟩⟩⟩⟩, ⟨⟨⟨⟨⟨inf56, ⟨inf57, inf58⟩⟩, ⟨⟨inf59, inf60⟩, ⟨inf61, inf62⟩⟩⟩, ⟨⟨inf63, ⟨inf64, inf65⟩⟩, ⟨⟨inf66, inf67⟩, ⟨inf68, inf69⟩⟩⟩⟩, ⟨⟨⟨inf70, ⟨inf71, inf72⟩⟩, ⟨⟨inf73, inf74⟩, ⟨inf75, inf76⟩⟩⟩, ⟨⟨inf77, ⟨inf78, inf79⟩⟩, ⟨⟨inf80, inf81⟩, ⟨inf82, inf83⟩⟩⟩⟩⟩, ⟨⟨⟨⟨inf84, ⟨inf85, inf86⟩⟩, ⟨⟨inf87, inf88⟩, ⟨inf89, inf90⟩⟩⟩, ⟨⟨inf91, ⟨inf92, inf93⟩⟩, ⟨⟨inf94, inf95⟩, ⟨inf96, inf97⟩⟩⟩⟩, ⟨⟨⟨inf98, ⟨inf99, inf100⟩⟩, ⟨⟨inf101, inf102⟩, ⟨inf103, inf104⟩⟩⟩, ⟨⟨⟨inf105, inf106⟩, ⟨inf107, inf108⟩⟩, ⟨⟨inf109, inf110⟩, ⟨inf111, inf112⟩⟩⟩⟩⟩⟩⟩, ⟨⟨⟨⟨⟨⟨inf113, ⟨inf114, inf115⟩⟩, ⟨⟨inf116, inf117⟩, ⟨inf118, inf119⟩⟩⟩, ⟨⟨inf120, ⟨inf121, inf122⟩⟩, ⟨⟨inf123, inf124⟩, ⟨inf125, inf126⟩⟩⟩⟩, ⟨⟨⟨inf127, ⟨inf128, inf129⟩⟩, ⟨⟨inf130, inf131⟩, ⟨inf132, inf133⟩⟩⟩, ⟨⟨inf134, ⟨inf135, inf136⟩⟩, ⟨⟨inf137, inf138⟩, ⟨inf139, inf140⟩⟩⟩⟩⟩, ⟨⟨⟨⟨inf141, ⟨inf142, inf143⟩⟩, ⟨⟨inf144, inf145⟩, ⟨inf146, inf147⟩⟩⟩, ⟨⟨inf148, ⟨inf149, inf150⟩⟩, ⟨⟨inf151, inf152⟩, ⟨inf153, inf154⟩⟩⟩⟩, ⟨⟨⟨inf155, ⟨inf156, inf157⟩⟩, ⟨⟨inf158, inf159⟩, ⟨inf160, inf161⟩⟩⟩, ⟨⟨inf162, ⟨inf163, inf164⟩⟩, ⟨⟨inf165, inf166⟩, ⟨inf167, inf168⟩⟩⟩⟩⟩⟩, ⟨⟨⟨⟨⟨inf169, ⟨inf170, inf171⟩⟩, ⟨⟨inf172, inf173⟩, ⟨inf174, inf175⟩⟩⟩, ⟨⟨inf176, ⟨inf177, inf178⟩⟩, ⟨⟨inf179, inf180⟩, ⟨inf181, inf182⟩⟩⟩⟩, ⟨⟨⟨inf183, ⟨inf184, inf185⟩⟩, ⟨⟨inf186, inf187⟩, ⟨inf188, inf189⟩⟩⟩, ⟨⟨inf190, ⟨inf191, inf192⟩⟩, ⟨⟨inf193, inf194⟩, ⟨inf195, inf196⟩⟩⟩⟩⟩, ⟨⟨⟨⟨inf197, ⟨inf198, inf199⟩⟩, ⟨⟨inf200, inf201⟩, ⟨inf202, inf203⟩⟩⟩, ⟨⟨inf204, ⟨inf205, inf206⟩⟩, ⟨⟨inf207, inf208⟩, ⟨inf209, inf210⟩⟩⟩⟩, ⟨⟨⟨inf211, ⟨inf212, inf213⟩⟩, ⟨⟨inf214, inf215⟩, ⟨inf216, inf217⟩⟩⟩, ⟨⟨⟨inf218, inf219⟩, ⟨inf220, inf221⟩⟩, ⟨⟨inf222, inf223⟩, ⟨inf224, inf225⟩⟩⟩⟩⟩⟩⟩⟩
end Go.RV

namespace Go.RV
open Go Go.Proofs
theorem dr9 {M : List Nat} {w0 w : World} {F L : LM} {r : Option Nat} {id : Nat} {ops : Array Oper} {Q : Post} {fr : Fr} {ds : List Deferred} (hS : Sf M w0 w F L) (h : ∀ w', Sf M w0 w' F L → XD TB Tryz.prog (fun w'' => Sf M w0 w'' F L) ops.toList (fun fr w => Q .normal fr ds w) ops.toList.length (List.replicate ops.toList.length false) fr w') (hn : noDS ops = true := by kernel_rfl) (hA : apartD ops = true := by kernel_rfl) : Wp Tryz.prog r (.region id ops true) Q fr ds w := drawf TB_ok rfl hn hA hS (List.Sublist.refl _) (List.Sublist.refl _) h
end Go.RV

set_option linter.unusedVariables false
set_option linter.unusedSimpArgs false
namespace Go.RV
open Go Go.RowKit

section
variable {P : Program} {d : Nat} {xs ys : Array Value} {f : Field} {fs : List Field} {r s : Bool} {w : World} {t : TypeId}

theorem part_plain {v : Value} {o : Nat} (ht : ∃ u, P.underlying t = some u ∧ (∀ fs, u ≠ .struct fs) ∧ ∀ n e, u ≠ .array n e) (hv : xs[o]? = some v) : (part t xs o).run P w = .ok v w := by
  obtain ⟨u, hu, h1, h2⟩ := ht
  unfold part
  rw [Sem.run_bind]
  have ha : (isAgg t).run P w = .ok false w := by
    unfold isAgg
    rw [Sem.run_bind, run_underlying hu]
    cases u <;> simp_all
  rw [ha]
  simp [hv]

/-- what a field's two values answer -/
def EqF (P : Program) (t : TypeId) (a b : Value) (r : Bool) : Prop := ∀ d w, (Op.equalIn (d + 1) t a b).run P w = .ok r w ∧ ∃ u, P.underlying t = some u ∧ (∀ fs, u ≠ .struct fs) ∧ ∀ n e, u ≠ .array n e
theorem EqF.int {k k' : IntKind} {a b : Int} (h : P.underlying t = some (.int k')) : EqF P t (.int k a) (.int k b) (a == b) :=
  fun d w => ⟨run_equalIn_int w d t k k' a b h, _, h, by simp, by simp⟩
theorem EqF.bool {a b : Bool} (h : P.underlying t = some .bool) : EqF P t (.bool a) (.bool b) (a == b) :=
  fun d w => ⟨run_equalIn_bool' w d t a b h, _, h, by simp, by simp⟩
theorem EqF.string {a b : ByteArray} (h : P.underlying t = some .string) : EqF P t (.string a) (.string b) (a.toList == b.toList) :=
  fun d w => ⟨run_equalIn_string w d t a b h, _, h, by simp, by simp⟩

theorem eqF_nil : (Op.eqFields (d + 1) xs ys []).run P w = .ok true w := by simp [Op.eqFields]
theorem eqF_cons {a b : Value} (hn : (f.name == "_") = false) (ha : xs[f.offset]? = some a) (hb : ys[f.offset]? = some b) (he : EqF P f.type a b r) (hr : (Op.eqFields (d + 1) xs ys fs).run P w = .ok s w) : (Op.eqFields (d + 1) xs ys (f :: fs)).run P w = .ok (r && s) w := by
  have hn' : f.name ≠ "_" := by simpa using hn
  have h1 := he d w
  rw [Op.eqFields]
  simp only [if_pos hn', Sem.run_bind, part_plain h1.2 ha, part_plain h1.2 hb, h1.1, Result.andThen_ok]
  cases r
  · simp
  · simpa using hr

theorem eqS_i {fs : Array Field} {x y : Operand} {K : Value → World → Prop} (hm : P.eqGuardType P.depth t = false) (hu : P.underlying t = some (.struct fs)) (hp : P.stoodInHeld t = false) (h : (Op.eqFields 9999 xs ys fs.toList).run P w = .ok r w) (k : K (.bool r) w) :
    SemN P (do eqGuard .eql t x y (.agg xs) (.agg ys); binOp .eql t (.agg xs) (.agg ys)) w K := by
  refine ⟨SemW.of_run (a := .bool r) (w' := w) ?_ k⟩
  have hf : P.fieldsOf t = fs := by simp [Program.fieldsOf, hu]
  rw [Sem.run_bind, run_eqGuard_agg w .eql t x y xs ys hm, Result.andThen_ok, run_eql_struct, run_equalIn_struct w 9999 t xs ys (by rw [hf]; exact hu) hp, hf, h, Result.andThen_ok]
theorem neS_i {fs : Array Field} {x y : Operand} {K : Value → World → Prop} (hm : P.eqGuardType P.depth t = false) (hu : P.underlying t = some (.struct fs)) (hp : P.stoodInHeld t = false) (h : (Op.eqFields 9999 xs ys fs.toList).run P w = .ok r w) (k : K (.bool (!r)) w) :
    SemN P (do eqGuard .neq t x y (.agg xs) (.agg ys); binOp .neq t (.agg xs) (.agg ys)) w K := by
  refine ⟨SemW.of_run (a := .bool (!r)) (w' := w) ?_ k⟩
  have hf : P.fieldsOf t = fs := by simp [Program.fieldsOf, hu]
  rw [Sem.run_bind, run_eqGuard_agg w .neq t x y xs ys hm, Result.andThen_ok, run_neq_struct, run_equalIn_struct w 9999 t xs ys (by rw [hf]; exact hu) hp, hf, h, Result.andThen_ok]
end
end Go.RV


set_option linter.unusedVariables false
set_option linter.unusedSimpArgs false
namespace Go.RV
open Go Go.RowKit

def encY (y : UInt8) : List Value := [.int .u8 (y.toNat : Int)]
theorem encY_len (y : UInt8) : (encY y).length = 1 := rfl
def strY (bs : List UInt8) : ByteArray := ⟨bs.toArray⟩
theorem strY_size (bs : List UInt8) : (strY bs).size = bs.length := by simp [strY, ByteArray.size]
theorem strY_append (as9 bs : List UInt8) : strY as9 ++ strY bs = strY (as9 ++ bs) := by
  apply ByteArray.ext
  simp [strY]
theorem flatY_get {bs : List UInt8} {j : Nat} (hj : j < bs.length) : (flat encY bs)[j]? = some (.int .u8 (bs[j].toNat : Int)) := by
  have := flat_get encY_len bs j hj 0 (by omega)
  simpa [encY] using this

section
variable {P : Program} {w w0 : World} {M : List Nat} {F L : LM}

theorem bStr_i {src dst e n c : Nat} {A : Option Addr} {bs : List UInt8} {K : Value → World → Prop} (hs : P.underlying src = some (.slice e)) (he : P.underlying e = some (.int .u8)) (hd : P.underlying dst = some .string) (hR : Rd w A (flat encY bs)) (hn : n = bs.length) (k : K (.string (strY bs)) w) :
    SemN P (convert src dst (.slice A n c)) w K := by
  subst hn
  refine ⟨SemW.of_run (w' := w) (a := .string (strY bs)) ?_ k⟩
  rcases hR with h | ⟨b, off, rfl, h⟩
  · have hb : bs = [] := by
      cases bs with
      | nil => rfl
      | cons x xs => simp [flat, encY] at h
    subst hb
    cases A with
    | none => exact run_convert_bytes_nil w src e hs he _ _ dst hd
    | some a => exact run_convert_bytes_back w src dst e a c [] hs he hd (fun j hj => by simp at hj)
  · refine run_convert_bytes_back w src dst e _ c bs hs he hd fun j hj => ?_
    rw [add_none]
    exact h j _ (flatY_get hj)

/-- the row of a conversion: the bytes, then some zeros -/
structure RowY (C : Array Value) (bs : List UInt8) : Prop where
  get : ∀ j, (hj : j < bs.length) → C.toList[j]? = some (.int .u8 (bs[j].toNat : Int))
theorem RowY.rd {C : Array Value} {bs : List UInt8} (h : RowY C bs) {e : TypeId} {fz : Nat × Nat} {b : Nat} (hS : Sf M w0 w F ((b, .cells C e fz) :: L)) : Rd w (some ⟨b, 0, none⟩) (flat encY bs) := by
  refine .inr ⟨_, 0, rfl, fun j v hj => ?_⟩
  have hjl : j < bs.length := by
    have := (List.getElem?_eq_some_iff.1 hj).1
    rw [flat_length encY_len] at this
    simpa using this
  rw [flatY_get hjl] at hj
  rw [Nat.zero_add]
  exact hS.cell 0 rfl ((h.get j hjl).trans hj)

theorem sBytes_i {src dst e : Nat} {s : ByteArray} {K : Value → World → Prop} (hs : P.underlying src = some .string) (hd : P.underlying dst = some (.slice e)) (he : P.underlying e = some (.int .u8)) (hS : Sf M w0 w F L)
    (h : ∀ b cap C w', s.size ≤ cap → RowY C s.data.toList → Sf M w0 w' F ((b, .cells C e (C.size, C.size + 1)) :: L) → K (.slice (some ⟨b, 0, none⟩) s.size cap) w') : SemN P (convert src dst (.string s)) w K := by
  refine ⟨SemW.of_run (run_bytes_of_string w src dst e s hs hd he) ?_⟩
  have h1 : Nw w.drew (.cells (bytesRow s (grownCap w s.size 0 e)) e ((bytesRow s (grownCap w s.size 0 e)).size, (bytesRow s (grownCap w s.size 0 e)).size + 1)) fun b w' => K (.slice (some ⟨b, 0, none⟩) s.size (grownCap w s.size 0 e)) w' := by
    refine nw_f (hS.drew _) fun b w' hS' => h b _ _ w' (grownCap_ge w s.size 0 e) ⟨fun j hj => ?_⟩ hS'
    have hj2 : j < s.data.size := hj
    unfold bytesRow
    rw [Array.getElem?_toList, Array.getElem?_append_left (by rw [Array.size_map]; exact hj2), Array.getElem?_map, Array.getElem?_eq_getElem hj2]
    rfl
  exact h1.out
end
end Go.RV


set_option linter.unusedVariables false
set_option linter.unusedSimpArgs false
namespace Go.RV
open Go Go.RowKit

def keys (L : LM) : List Nat := L.map (·.1)
section
variable {M : List Nat} {w0 w w' : World} {F L L' Lw : LM}

theorem St.own' (h : St M w0 w L) (hs : Lw.Sublist L) : St (keys Lw) w w Lw :=
  ⟨rfl, rfl, rfl, Nat.le_refl _, fun _ _ _ => rfl, fun b o hb => h.own b o (hs.subset hb), fun b o hb => .inr (List.mem_map.2 ⟨_, hb, rfl⟩), List.Nodup.sublist (hs.map _) h.nod⟩
theorem Sf.ownF (h : Sf M w0 w (Lw ++ F) L) : St (keys Lw) w w Lw :=
  h.st.own' (List.Sublist.trans (List.sublist_append_left Lw F) (List.sublist_append_left (Lw ++ F) L))
theorem Sf.ownL (h : Sf M w0 w F L) (hs : Lw.Sublist L) : St (keys Lw) w w Lw :=
  h.st.own' (hs.trans (List.sublist_append_right F L))
theorem Sf.callW (h : Sf M w0 w (Lw ++ F) L) (h' : St (keys Lw) w w' L') : Sf M w0 w' (L' ++ F) L := by
  refine ⟨?_⟩
  have h1 : St M w0 w (Lw ++ (F ++ L)) := by simpa using h.st
  have h2 := h1.callM h' (Lk := F ++ L) (fun b hb => by
    obtain ⟨⟨b', o⟩, hm, rfl⟩ := List.mem_map.1 hb
    exact ⟨o, List.mem_append_left _ hm⟩) (List.sublist_append_right Lw (F ++ L)) (fun x hx hk => by
    have hn := h1.nod
    rw [List.map_append, List.nodup_append] at hn
    exact hn.2.2 x.1 hk x.1 (List.mem_map.2 ⟨x, hx, rfl⟩) rfl)
  simpa using h2
end
theorem Rd.form {A : Option Addr} {cs : List Value} {w : World} (hR : Rd w A cs) (hne : cs ≠ []) : ∃ b off, A = some ⟨b, off, none⟩ := by
  rcases hR with h | ⟨b, off, rfl, _⟩
  · exact absurd h hne
  · exact ⟨b, off, rfl⟩
theorem Rd.at {b off : Nat} {cs : List Value} {w : World} (hR : Rd w (some ⟨b, off, none⟩) cs) : ∀ j v o, cs[j]? = some v → o = off + j → w.cell? ⟨b, o, none⟩ = some v := by
  intro j v o hj ho
  rcases hR with h | ⟨b', off', e, h⟩
  · subst h; simp at hj
  · cases e; rw [ho]; exact h j v hj
theorem br_t {c : Bool} {A B : Prop} (h : c = true) (k : A) : brK c A B := br_i (fun _ => k) (fun h' => absurd (h.symm.trans h') (by decide))
theorem br_f {c : Bool} {A B : Prop} (h : c = false) (k : B) : brK c A B := br_i (fun h' => absurd (h'.symm.trans h) (by decide)) (fun _ => k)
end Go.RV


set_option linter.unusedVariables false
set_option linter.unusedSimpArgs false
namespace Go.RV
open Go Go.RowKit

/-- a round begins -/
structure BeginN (l : Nat) (w : World) (K : World → Prop) : Prop where
  out : ∃ r : Loop, w.heap[l]? = some (.loop r) ∧ r.state = .ready ∧ K (w.putObj l (.loop { r with state := .busy }))
/-- a round ends -/
structure EndN (l : Nat) (jump : Option Code) (w : World) (K : Value → World → Prop) : Prop where
  out : ∃ r : Loop, w.heap[l]? = some (.loop r) ∧ K (.bool jump.isNone) (w.putObj l (.loop { r with state := if jump.isNone then .ready else .done, pending := jump }))
def roundQ (l : Nat) (K : Value → World → Prop) : Post := fun e fr ds w => match e with
  | .normal => EndN l none w K
  | .ret => EndN l (some .ret) w K
  | .exit id => EndN l (some (.exit id)) w K
  | .goto t => EndN l (some (.goto t)) w K
  | _ => Stk "a round"
def beginQ (T : Tab) (P : Program) (l : Nat) (body : Code) (K : Value → World → Prop) : Post := fun e fr ds w => match e with
  | .normal => BeginN l w fun w => X T P (some l) body (roundQ l K) fr ds w
  | _ => Stk "a round's left sides"
/-- the function that was ranged over has returned -/
structure LoopEnd (P : Program) (r : Option Nat) (l : Nat) (Q : Post) (fr : Fr) (ds : List Deferred) (w : World) : Prop where
  out : ∃ rec : Loop, w.heap[l]? = some (.loop rec) ∧ rec.state ≠ .busy ∧ (match rec.pending with
    | none => Q .normal fr ds (w.putObj l (.loop { rec with state := .exhausted }))
    | some c => Wp P r c Q fr ds (w.putObj l (.loop { rec with state := .exhausted })))

section
variable {P : Program} {T : Tab} {w w0 : World} {M : List Nat} {F L : LM}

theorem run_callFunc_body {f : FuncId} {fn : Func} {c : Code} {args : Array Value} (hf : P.funcs[f]? = some fn) (hb : fn.body = some c) (hn : (fn.name == "runtime.NumGoroutine") = false) : (callFunc f args).run P w = .ok (.enter f args) w := by
  unfold callFunc
  rw [Sem.run_bind]
  have hp : (Go.program).run P w = .ok P w := rfl
  rw [hp]
  simp only [Result.andThen, hf, hn, hb, Option.isNone_some, Bool.false_eq_true, if_false]
  rfl
theorem yield_i (hT : TabOk P T) {l : Nat} {args : List Value} {rec : Loop} {fr0 : Fr} {K : Value → World → Prop} (hl : w.heap[l]? = some (.loop rec)) (hs : args.length = rec.params.size)
    (hfr : (rec.params.zip args.toArray).foldl (fun tmps (t, a) => tmps.setIfInBounds t a) rec.tmps = fr0.toArray) (h : X T P (some l) rec.assign (beginQ T P l rec.body K) fr0 [] w) :
    Cv P (.func (.yield l) #[] #[]) args w K := by
  refine ⟨SemW.of_run (w' := w) (a := .round l rec.fn fr0.toArray rec.assign rec.body) ?_ ?_⟩
  · have h1 := run_yield (P := P) (args := args.toArray) hl (by simpa using hs)
    rw [hfr] at h1
    simpa [Deferred.ofValue, invoke, Sem.run_bind, Result.andThen] using h1
  · refine roundIn_of_wpIn trivial ?_
    have h1 := (X_ok hT (some l) rec.assign h).out 0
    refine wpIn_mono h1 ?_
    rintro e a' w' ⟨fr, ds, rfl, hq⟩
    cases e with
    | normal =>
      obtain ⟨r, hr, hst, hk⟩ := hq.out
      refine ⟨_, run_beginRound hr hst, ?_⟩
      have h2 := (X_ok hT (some l) rec.body hk).out 0
      refine wpIn_mono h2 ?_
      rintro e a' w'' ⟨fr, ds, rfl, hq⟩
      cases e with
      | normal => obtain ⟨r, hr, hk⟩ := hq.out; exact ⟨_, _, run_endRound _ hr, _, rfl, hk⟩
      | ret => obtain ⟨r, hr, hk⟩ := hq.out; exact ⟨_, _, run_endRound _ hr, _, rfl, hk⟩
      | exit id => obtain ⟨r, hr, hk⟩ := hq.out; exact ⟨_, _, run_endRound _ hr, _, rfl, hk⟩
      | goto t => obtain ⟨r, hr, hk⟩ := hq.out; exact ⟨_, _, run_endRound _ hr, _, rfl, hk⟩
      | panic c => exact Stk.elim hq
      | outgrown => exact Stk.elim hq
    | _ => exact Stk.elim hq

theorem yield1_i (hT : TabOk P T) {l t : Nat} {a : Value} {rec : Loop} {K : Value → World → Prop} (hl : w.heap[l]? = some (.loop rec)) (hs : rec.params = #[t])
    (h : setK rec.tmps.toList t a fun fr0 => X T P (some l) rec.assign (beginQ T P l rec.body K) fr0 [] w) : Cv P (.func (.yield l) #[] #[]) [a] w K := by
  refine yield_i hT (fr0 := rec.tmps.toList.set t a) hl (by rw [hs]; rfl) ?_ (setK_ok h)
  rw [hs]
  apply Array.ext'
  simp
theorem yield2_i (hT : TabOk P T) {l t t' : Nat} {a a' : Value} {rec : Loop} {K : Value → World → Prop} (hl : w.heap[l]? = some (.loop rec)) (hs : rec.params = #[t, t'])
    (h : setK rec.tmps.toList t a fun fr0 => setK fr0 t' a' fun fr0 => X T P (some l) rec.assign (beginQ T P l rec.body K) fr0 [] w) : Cv P (.func (.yield l) #[] #[]) [a, a'] w K := by
  refine yield_i hT (fr0 := (rec.tmps.toList.set t a).set t' a') hl (by rw [hs]; rfl) ?_ (setK_ok (setK_ok h))
  rw [hs]
  apply Array.ext'
  simp

theorem range_i {g : Operand} {ps : Array Tmp} {assign body : Code} {Q : Post} {fr : Fr} {ds : List Deferred} {f : FuncId} {fn : Func} {c : Code} {first cap : Array Value} (hg : evL fr g = .func (.func f) first cap)
    (hf : P.funcs[f]? = some fn) (hb : fn.body = some c) (hn : (fn.name == "runtime.NumGoroutine") = false) (hS : Sf M w0 w F L)
    (h : ∀ fi bd l w1, Sf M w0 w1 F ((l, .loop { state := .ready, pending := none, fn := fi, tmps := fr.toArray, params := ps, assign := assign, body := body, defers := bd }) :: (bd, .deferred (some [])) :: L) →
      Fc P f (first.toList ++ ([.func (.yield l) #[] #[]] ++ cap.toList)) w1 fun v w3 => LoopEnd P none l Q fr ({ target := .collected bd, args := #[] } :: ds) w3) :
    Wp P none (.rangeFunc g ps assign body) Q fr ds w := by
  refine .of fun n => wpIn_rangeFunc fun fi _ => ?_
  have h1 : Nw w (.deferred (some [])) fun bd w' => Nw w' (.loop { state := .ready, pending := none, fn := fi, tmps := fr.toArray, params := ps, assign := assign, body := body, defers := bd }) fun l w1 => Fc P f (first.toList ++ ([.func (.yield l) #[] #[]] ++ cap.toList)) w1 fun v w3 => LoopEnd P none l Q fr ({ target := .collected bd, args := #[] } :: ds) w3 := by
    refine nw_f hS fun bd w' hS' => ?_
    refine nw_f hS' fun l w1 hS'' => ?_
    exact h fi bd l w1 hS''
  have h2 := h1.out.out
  have hsz : ({ w with heap := w.heap.push (.deferred (some [])) } : World).heap.size = w.heap.size + 1 := by simp
  rw [hsz] at h2
  have h3 := calls_of_fc hf hb hn h2
  have ev : (Act.mk fr.toArray ds).eval g = .func (.func f) first cap := by rw [eval_eq]; exact hg
  have ea : (first.toList ++ ([Value.func (.yield (w.heap.size + 1)) #[] #[]] ++ cap.toList)).toArray = first ++ #[.func (.yield (w.heap.size + 1)) #[] #[]] ++ cap := by
    apply Array.ext'
    simp
  rw [ea] at h3
  let W1 : World := (w.alloc (.deferred (some []))).alloc (.loop { state := .ready, pending := none, fn := fi, tmps := fr.toArray, params := ps, assign := assign, body := body, defers := w.heap.size })
  refine ⟨w.heap.size + 1, [{ target := .collected w.heap.size, args := #[] }], W1, { target := .fn (.func f) cap, args := first ++ #[.func (.yield (w.heap.size + 1)) #[] #[]] }, W1, f, first ++ #[.func (.yield (w.heap.size + 1)) #[] #[]] ++ cap, W1,
    run_enterLoop_outer fi fr.toArray ps assign body, ?_, fun _ _ => trivial, ?_, fun hd => by simp [FR_depth] at hd, ?_⟩
  · simp [resolve, rangeCall, ev, Deferred.ofValue]
    rfl
  · exact run_callFunc_body hf hb hn
  · refine FR_calls none _ (Calls.mono h3 ?_)
    rintro e w3 ⟨v, rfl, rec, hr, hst, hk⟩
    refine ⟨rec.pending, _, run_endLoop hr hst, ?_⟩
    revert hk
    cases rec.pending with
    | none => exact fun hk => ⟨fr, _, rfl, hk⟩
    | some c => exact fun hk => hk.out n

theorem take_f {r : Nat} {K : World → Prop} (hS : Sf M w0 w F L) (k : Nat) (hk : L[k]? = some (r, .deferred (some []))) (h : ∀ w', Sf M w0 w' F (L.set k (r, .deferred none)) → K w') : TakeN r w K := by
  have hb := hS.st.block (F.length + k) (hS.idx k hk)
  refine ⟨hb, h _ (hS.set k hk _ ⟨by simp, rfl, rfl, rfl⟩ ?_ ?_)⟩
  · have hlt : r < w.heap.size := (Array.getElem?_eq_some_iff.1 hb).1
    simp [hlt]
  · intro j hj
    simp [Array.getElem?_setIfInBounds, Ne.symm hj]
theorem Sf.putObj (hS : Sf M w0 w F L) (k : Nat) {b : Nat} {o : Obj} (hk : L[k]? = some (b, o)) (o' : Obj) : Sf M w0 (w.putObj b o') F (L.set k (b, o')) := by
  have hb := hS.st.block (F.length + k) (hS.idx k hk)
  have hlt : b < w.heap.size := (Array.getElem?_eq_some_iff.1 hb).1
  refine hS.set k hk _ ⟨by simp [World.putObj], rfl, rfl, rfl⟩ ?_ ?_
  · simp [World.putObj, hlt]
  · intro j hj
    simp [World.putObj, Array.getElem?_setIfInBounds, Ne.symm hj]
theorem begin_f {l : Nat} {r : Loop} {K : World → Prop} (hS : Sf M w0 w F L) (k : Nat) (hk : L[k]? = some (l, .loop r)) (hr : r.state = .ready) (h : ∀ w', Sf M w0 w' F (L.set k (l, .loop { r with state := .busy })) → K w') : BeginN l w K :=
  ⟨r, hS.st.block (F.length + k) (hS.idx k hk), hr, h _ (hS.putObj k hk _)⟩
theorem end_f {l : Nat} {r : Loop} {j : Option Code} {K : Value → World → Prop} (hS : Sf M w0 w F L) (k : Nat) (hk : L[k]? = some (l, .loop r)) (h : ∀ w', Sf M w0 w' F (L.set k (l, .loop { r with state := if j.isNone then .ready else .done, pending := j })) → K (.bool j.isNone) w') : EndN l j w K :=
  ⟨r, hS.st.block (F.length + k) (hS.idx k hk), h _ (hS.putObj k hk _)⟩
theorem loopEnd_f {l : Nat} {r : Loop} {rr : Option Nat} {Q : Post} {fr : Fr} {ds : List Deferred} (hS : Sf M w0 w F L) (k : Nat) (hk : L[k]? = some (l, .loop r)) (hr : r.state = .ready) (hp : r.pending = none) (h : ∀ w', Sf M w0 w' F (L.set k (l, .loop { r with state := .exhausted })) → Q .normal fr ds w') : LoopEnd P rr l Q fr ds w := by
  refine ⟨r, hS.st.block (F.length + k) (hS.idx k hk), by rw [hr]; decide, ?_⟩
  have h1 := h _ (hS.putObj k hk (.loop { r with state := .exhausted }))
  split
  · exact h1
  · rename_i e
    rw [hp] at e
    cases e
theorem Sf.obj (hS : Sf M w0 w F L) (k : Nat) {b : Nat} {o : Obj} (hk : L[k]? = some (b, o)) : w.heap[b]? = some o := hS.st.block (F.length + k) (hS.idx k hk)
end
end Go.RV

set_option maxRecDepth 20000
set_option linter.unusedVariables false
set_option linter.unusedSimpArgs false
namespace Go.RV
open Go Go.Proofs

theorem elY : ElemOk Tryz.prog TB 96 5 1 1 := ⟨rfl, ⟨_, _, inf5, rfl, rfl, rfl, rfl⟩, by decide⟩
/-- a writer in block b, in which these bytes were written -/
structure Wr (b : Nat) (bs : List UInt8) (L : LM) : Prop where
  out : ∃ v Lv, L = (b, .cells #[v] 98 (0, 0)) :: Lv ∧ Sl 5 1 v bs.length (flat encY bs) Lv

theorem write_c (b : Nat) (bs ys : List UInt8) (L : LM) (hW : Wr b bs L) (A : Option Addr) (c : Nat) (w : World) (hS : St (keys L) w w L) (hR : Rd w A (flat encY ys)) (hn : bs.length + ys.length ≤ 140737488355328) :
    Fc Tryz.prog 115 [.pointer (some ⟨b, 0, none⟩), .slice A ys.length c] w fun v w' => ∃ L', Wr b (bs ++ ys) L' ∧ St (keys L) w w' L' := by
  refine fc_i TB_ok Tryz.func115 rfl (by kernel_rfl) ?_
  obtain ⟨v, Lv, rfl, hv⟩ := hW.out
  obtain ⟨Av, cv, rfl, hv⟩ := hv.open
  have hS : Sf (keys ((b, .cells #[.slice Av bs.length cv] 98 (0, 0)) :: Lv)) w w (Lv ++ []) [(b, .cells #[.slice Av bs.length cv] 98 (0, 0))] := ⟨hS.perm (by rw [List.append_nil]; exact List.perm_append_comm (l₁ := Lv) (l₂ := [_]))⟩
  repeat ((conv => whnf); first | (refine nw_f hS ?_; intro b w1 hS) | refine ld_f hS 0 rfl rfl ?_ | refine ldA_f hS 0 rfl rfl ?_ | ((first | refine stN_f hS 0 rfl (lb9 rfl) rfl rfl ?_ | refine stM_f hS 0 rfl (lb9 rfl) rfl ?_); (conv => whnf); intro w1 hS))
  refine app_f TB_ok elY hS hv hR (by rw [flat_length encY_len]) (fun y hy => ?_) (by omega) (by omega) ?_
  · obtain ⟨x, _, hx⟩ := List.mem_flatMap.1 hy
    simp [encY] at hx
    subst hx
    rfl
  intro v' Lv' w6 hv' hS
  obtain ⟨Av', cv', rfl, hv'⟩ := hv'.open
  repeat ((conv => whnf); first | (refine nw_f hS ?_; intro b w1 hS) | refine ld_f hS 0 rfl rfl ?_ | refine ldA_f hS 0 rfl rfl ?_ | ((first | refine stN_f hS 0 rfl (lb9 rfl) rfl rfl ?_ | refine stM_f hS 0 rfl (lb9 rfl) rfl ?_); (conv => whnf); intro w1 hS))
  refine ⟨(b, .cells #[.slice Av' (bs.length + ys.length) cv'] 98 (0, 0)) :: Lv', ⟨_, Lv', rfl, ?_⟩, ?_⟩
  · rw [flat_append, List.length_append]
    exact hv'
  · exact hS.st.perm (by rw [List.append_nil]; exact (List.perm_append_comm (l₁ := Lv') (l₂ := [_])).symm)
end Go.RV


set_option maxRecDepth 20000
set_option linter.unusedVariables false
set_option linter.unusedSimpArgs false
namespace Go.RV
open Go Go.Proofs

/-- a number's last byte -/
def yI (x : Int) : UInt8 := UInt8.ofNat (x % 256).toNat
theorem yI_val (x : Int) : (((yI x).toNat : Nat) : Int) = x % 256 := by
  unfold yI
  rw [UInt8.toNat_ofNat']
  have h1 : 0 ≤ x % 256 := Int.emod_nonneg _ (by decide)
  have h2 : x % 256 < 256 := Int.emod_lt_of_pos _ (by decide)
  have h3 : (x % 256).toNat % 2 ^ 8 = (x % 256).toNat := Nat.mod_eq_of_lt (by omega)
  rw [h3]
  omega
theorem u8v (x : Int) : [Value.int .u8 (IntKind.u8.wrap x)] = flat encY [yI x] := by
  show _ = [Value.int .u8 (((yI x).toNat : Nat) : Int)]
  rw [yI_val, wrap_u8_mod]
/-- a fixed number's bytes, the highest first -/
def be (n : Int) : Nat → List UInt8
  | 0 => []
  | w+1 => yI (n / 2 ^ (8 * w)) :: be n w
theorem be_len (n : Int) : ∀ w, (be n w).length = w
  | 0 => rfl
  | w+1 => by simp [be, be_len n w]

theorem putv {n : Int} {k : Nat} (h0 : 0 ≤ n) (h1 : n ≤ 4294967295) (hk : k < 4) : IntKind.u8.wrap (bShr .u32 (IntKind.u32.wrap n) (IntKind.i64.wrap (8 * IntKind.i64.wrap (((k + 1 : Nat) : Int) - 1)))) = IntKind.u8.wrap (n / 2 ^ (8 * k)) := by
  rw [wrap_i64 (x := ((k + 1 : Nat) : Int) - 1) (by omega) (by omega), wrap_i64 (by omega) (by omega), wrap_u32 h0 (by omega)]
  unfold bShr
  have e : min (8 * (((k + 1 : Nat) : Int) - 1)).toNat IntKind.u32.bits = 8 * k := by
    have : IntKind.u32.bits = 32 := rfl
    rw [this]
    omega
  rw [e, Int.fdiv_eq_ediv_of_nonneg _ (Int.le_of_lt (Int.pow_pos (by decide)))]
theorem putv' {n : Int} {k : Nat} (h0 : 0 ≤ n) (h1 : n ≤ 4294967295) (hk : k < 4) : IntKind.u8.wrap (bShr .u32 n (IntKind.i64.wrap (8 * IntKind.i64.wrap (((k + 1 : Nat) : Int) - 1)))) = IntKind.u8.wrap (n / 2 ^ (8 * k)) := by
  have := putv h0 h1 hk
  rwa [wrap_u32 h0 (by omega)] at this
theorem putv0 {k : Nat} (hk : k < 4) : 0 ≤ IntKind.i64.wrap (8 * IntKind.i64.wrap (((k + 1 : Nat) : Int) - 1)) := by
  rw [wrap_i64 (x := ((k + 1 : Nat) : Int) - 1) (by omega) (by omega), wrap_i64 (by omega) (by omega)]
  omega

theorem put8_c (bw : Nat) (bs : List UInt8) (L : LM) (hW : Wr bw bs L) (n : Int) (h0 : 0 ≤ n) (h1 : n ≤ 4294967295) (W : Nat) (hWd : W ≤ 4) (w : World) (hS : St (keys L) w w L) (hn : bs.length ≤ 70368744177664) :
    Fc Tryz.prog 91 [.pointer (some ⟨bw, 0, none⟩), .int .u8 n, .int .i64 W] w fun v w' => ∃ L', Wr bw (bs ++ be n W) L' ∧ St (keys L) w w' L' := by
  refine fc_i TB_ok Tryz.func91 rfl (by kernel_rfl) ?_
  have hS : Sf (keys L) w w (L ++ []) [] := ⟨by simpa using hS⟩
  repeat ((conv => whnf); first | (refine nw_f hS ?_; intro b w1 hS) | refine ld_f hS 0 rfl rfl ?_ | refine ldA_f hS 0 rfl rfl ?_ | ((first | refine stN_f hS 0 rfl (lb9 rfl) rfl rfl ?_ | refine stM_f hS 0 rfl (lb9 rfl) rfl ?_); (conv => whnf); intro w1 hS))
  refine loop_i TB_ok (fun s : Nat × List UInt8 => [(2, .int .i64 s.1)]) (fun s w' => s.1 ≤ W ∧ s.2 ++ be n s.1 = be n W ∧ ∃ L', Wr bw (bs ++ s.2) L' ∧ Sf (keys L) w w' (L' ++ []) []) (fun s => s.1) (W, []) rfl ⟨Nat.le_refl _, rfl, L, by simpa using hW, hS⟩ ?_
  rintro ⟨k, pre⟩ us w2 ⟨hk, hpre, L', hW', hS⟩
  (conv => whnf)
  refine br_i (fun hb => ?_) (fun hb => ?_)
  · have hlt : 0 < k := by simpa using hb
    obtain ⟨k, rfl⟩ : ∃ j, k = j + 1 := ⟨k - 1, by omega⟩
    simp only at hk hpre hW'
    have hplen : pre.length ≤ 4 := by
      have := congrArg List.length hpre
      rw [List.length_append, be_len, be_len] at this
      omega
    repeat ((conv => whnf); first | (refine nw_f hS ?_; intro b w1 hS) | refine ld_f hS 0 rfl rfl ?_ | refine ldA_f hS 0 rfl rfl ?_ | ((first | refine stN_f hS 0 rfl (lb9 rfl) rfl rfl ?_ | refine stM_f hS 0 rfl (lb9 rfl) rfl ?_); (conv => whnf); intro w1 hS))
    refine .mk (putv0 (by omega)) ?_
    repeat ((conv => whnf); first | (refine nw_f hS ?_; intro b w1 hS) | refine ld_f hS 0 rfl rfl ?_ | refine ldA_f hS 0 rfl rfl ?_ | ((first | refine stN_f hS 0 rfl (lb9 rfl) rfl rfl ?_ | refine stM_f hS 0 rfl (lb9 rfl) rfl ?_); (conv => whnf); intro w1 hS))
    have hRd := hS.rd 0 rfl
    rw [show #[Value.int .u8 (IntKind.u8.wrap (bShr .u32 (IntKind.u32.wrap n) (IntKind.i64.wrap (8 * IntKind.i64.wrap (((k + 1 : Nat) : Int) - 1)))))].toList = flat encY [yI (n / 2 ^ (8 * k))] from by rw [putv h0 h1 (by omega), ← u8v]] at hRd
    refine fc_m (write_c bw (bs ++ pre) [yI (n / 2 ^ (8 * k))] L' hW' _ _ _ hS.ownF hRd (by simp; omega)) ?_
    rintro v w3 ⟨L2, hW2, hS'⟩
    replace hS := hS.callW hS'
    repeat ((conv => whnf); first | (refine nw_f hS ?_; intro b w1 hS) | refine ld_f hS 0 rfl rfl ?_ | refine ldA_f hS 0 rfl rfl ?_ | ((first | refine stN_f hS 0 rfl (lb9 rfl) rfl rfl ?_ | refine stM_f hS 0 rfl (lb9 rfl) rfl ?_); (conv => whnf); intro w1 hS))
    refine ⟨rfl, (k, pre ++ [yI (n / 2 ^ (8 * k))]), ?_, ⟨by simp only; omega, ?_, L2, by simpa [List.append_assoc] using hW2, hS.subs (List.Sublist.refl _) (List.nil_sublist _)⟩, by simp⟩
    · have e1 : IntKind.i64.wrap (((k + 1 : Nat) : Int) - 1) = (k : Int) := by rw [wrap_i64 (by omega) (by omega)]; omega
      rw [e1]
      rfl
    · rw [← hpre]
      simp [be]
  · have hge : k = 0 := by simp at hb; omega
    subst hge
    simp only [be, List.append_nil] at hpre
    repeat ((conv => whnf); first | (refine nw_f hS ?_; intro b w1 hS) | refine ld_f hS 0 rfl rfl ?_ | refine ldA_f hS 0 rfl rfl ?_ | ((first | refine stN_f hS 0 rfl (lb9 rfl) rfl rfl ?_ | refine stM_f hS 0 rfl (lb9 rfl) rfl ?_); (conv => whnf); intro w1 hS))
    exact ⟨L', by rw [← hpre]; exact hW', by simpa using hS.st⟩
theorem put16_c (bw : Nat) (bs : List UInt8) (L : LM) (hW : Wr bw bs L) (n : Int) (h0 : 0 ≤ n) (h1 : n ≤ 4294967295) (W : Nat) (hWd : W ≤ 4) (w : World) (hS : St (keys L) w w L) (hn : bs.length ≤ 70368744177664) :
    Fc Tryz.prog 96 [.pointer (some ⟨bw, 0, none⟩), .int .u16 n, .int .i64 W] w fun v w' => ∃ L', Wr bw (bs ++ be n W) L' ∧ St (keys L) w w' L' := by
  refine fc_i TB_ok Tryz.func96 rfl (by kernel_rfl) ?_
  have hS : Sf (keys L) w w (L ++ []) [] := ⟨by simpa using hS⟩
  repeat ((conv => whnf); first | (refine nw_f hS ?_; intro b w1 hS) | refine ld_f hS 0 rfl rfl ?_ | refine ldA_f hS 0 rfl rfl ?_ | ((first | refine stN_f hS 0 rfl (lb9 rfl) rfl rfl ?_ | refine stM_f hS 0 rfl (lb9 rfl) rfl ?_); (conv => whnf); intro w1 hS))
  refine loop_i TB_ok (fun s : Nat × List UInt8 => [(2, .int .i64 s.1)]) (fun s w' => s.1 ≤ W ∧ s.2 ++ be n s.1 = be n W ∧ ∃ L', Wr bw (bs ++ s.2) L' ∧ Sf (keys L) w w' (L' ++ []) []) (fun s => s.1) (W, []) rfl ⟨Nat.le_refl _, rfl, L, by simpa using hW, hS⟩ ?_
  rintro ⟨k, pre⟩ us w2 ⟨hk, hpre, L', hW', hS⟩
  (conv => whnf)
  refine br_i (fun hb => ?_) (fun hb => ?_)
  · have hlt : 0 < k := by simpa using hb
    obtain ⟨k, rfl⟩ : ∃ j, k = j + 1 := ⟨k - 1, by omega⟩
    simp only at hk hpre hW'
    have hplen : pre.length ≤ 4 := by
      have := congrArg List.length hpre
      rw [List.length_append, be_len, be_len] at this
      omega
    repeat ((conv => whnf); first | (refine nw_f hS ?_; intro b w1 hS) | refine ld_f hS 0 rfl rfl ?_ | refine ldA_f hS 0 rfl rfl ?_ | ((first | refine stN_f hS 0 rfl (lb9 rfl) rfl rfl ?_ | refine stM_f hS 0 rfl (lb9 rfl) rfl ?_); (conv => whnf); intro w1 hS))
    refine .mk (putv0 (by omega)) ?_
    repeat ((conv => whnf); first | (refine nw_f hS ?_; intro b w1 hS) | refine ld_f hS 0 rfl rfl ?_ | refine ldA_f hS 0 rfl rfl ?_ | ((first | refine stN_f hS 0 rfl (lb9 rfl) rfl rfl ?_ | refine stM_f hS 0 rfl (lb9 rfl) rfl ?_); (conv => whnf); intro w1 hS))
    have hRd := hS.rd 0 rfl
    rw [show #[Value.int .u8 (IntKind.u8.wrap (bShr .u32 (IntKind.u32.wrap n) (IntKind.i64.wrap (8 * IntKind.i64.wrap (((k + 1 : Nat) : Int) - 1)))))].toList = flat encY [yI (n / 2 ^ (8 * k))] from by rw [putv h0 h1 (by omega), ← u8v]] at hRd
    refine fc_m (write_c bw (bs ++ pre) [yI (n / 2 ^ (8 * k))] L' hW' _ _ _ hS.ownF hRd (by simp; omega)) ?_
    rintro v w3 ⟨L2, hW2, hS'⟩
    replace hS := hS.callW hS'
    repeat ((conv => whnf); first | (refine nw_f hS ?_; intro b w1 hS) | refine ld_f hS 0 rfl rfl ?_ | refine ldA_f hS 0 rfl rfl ?_ | ((first | refine stN_f hS 0 rfl (lb9 rfl) rfl rfl ?_ | refine stM_f hS 0 rfl (lb9 rfl) rfl ?_); (conv => whnf); intro w1 hS))
    refine ⟨rfl, (k, pre ++ [yI (n / 2 ^ (8 * k))]), ?_, ⟨by simp only; omega, ?_, L2, by simpa [List.append_assoc] using hW2, hS.subs (List.Sublist.refl _) (List.nil_sublist _)⟩, by simp⟩
    · have e1 : IntKind.i64.wrap (((k + 1 : Nat) : Int) - 1) = (k : Int) := by rw [wrap_i64 (by omega) (by omega)]; omega
      rw [e1]
      rfl
    · rw [← hpre]
      simp [be]
  · have hge : k = 0 := by simp at hb; omega
    subst hge
    simp only [be, List.append_nil] at hpre
    repeat ((conv => whnf); first | (refine nw_f hS ?_; intro b w1 hS) | refine ld_f hS 0 rfl rfl ?_ | refine ldA_f hS 0 rfl rfl ?_ | ((first | refine stN_f hS 0 rfl (lb9 rfl) rfl rfl ?_ | refine stM_f hS 0 rfl (lb9 rfl) rfl ?_); (conv => whnf); intro w1 hS))
    exact ⟨L', by rw [← hpre]; exact hW', by simpa using hS.st⟩
theorem put32_c (bw : Nat) (bs : List UInt8) (L : LM) (hW : Wr bw bs L) (n : Int) (h0 : 0 ≤ n) (h1 : n ≤ 4294967295) (W : Nat) (hWd : W ≤ 4) (w : World) (hS : St (keys L) w w L) (hn : bs.length ≤ 70368744177664) :
    Fc Tryz.prog 92 [.pointer (some ⟨bw, 0, none⟩), .int .u32 n, .int .i64 W] w fun v w' => ∃ L', Wr bw (bs ++ be n W) L' ∧ St (keys L) w w' L' := by
  refine fc_i TB_ok Tryz.func92 rfl (by kernel_rfl) ?_
  have hS : Sf (keys L) w w (L ++ []) [] := ⟨by simpa using hS⟩
  repeat ((conv => whnf); first | (refine nw_f hS ?_; intro b w1 hS) | refine ld_f hS 0 rfl rfl ?_ | refine ldA_f hS 0 rfl rfl ?_ | ((first | refine stN_f hS 0 rfl (lb9 rfl) rfl rfl ?_ | refine stM_f hS 0 rfl (lb9 rfl) rfl ?_); (conv => whnf); intro w1 hS))
  refine loop_i TB_ok (fun s : Nat × List UInt8 => [(2, .int .i64 s.1)]) (fun s w' => s.1 ≤ W ∧ s.2 ++ be n s.1 = be n W ∧ ∃ L', Wr bw (bs ++ s.2) L' ∧ Sf (keys L) w w' (L' ++ []) []) (fun s => s.1) (W, []) rfl ⟨Nat.le_refl _, rfl, L, by simpa using hW, hS⟩ ?_
  rintro ⟨k, pre⟩ us w2 ⟨hk, hpre, L', hW', hS⟩
  (conv => whnf)
  refine br_i (fun hb => ?_) (fun hb => ?_)
  · have hlt : 0 < k := by simpa using hb
    obtain ⟨k, rfl⟩ : ∃ j, k = j + 1 := ⟨k - 1, by omega⟩
    simp only at hk hpre hW'
    have hplen : pre.length ≤ 4 := by
      have := congrArg List.length hpre
      rw [List.length_append, be_len, be_len] at this
      omega
    repeat ((conv => whnf); first | (refine nw_f hS ?_; intro b w1 hS) | refine ld_f hS 0 rfl rfl ?_ | refine ldA_f hS 0 rfl rfl ?_ | ((first | refine stN_f hS 0 rfl (lb9 rfl) rfl rfl ?_ | refine stM_f hS 0 rfl (lb9 rfl) rfl ?_); (conv => whnf); intro w1 hS))
    refine .mk (putv0 (by omega)) ?_
    repeat ((conv => whnf); first | (refine nw_f hS ?_; intro b w1 hS) | refine ld_f hS 0 rfl rfl ?_ | refine ldA_f hS 0 rfl rfl ?_ | ((first | refine stN_f hS 0 rfl (lb9 rfl) rfl rfl ?_ | refine stM_f hS 0 rfl (lb9 rfl) rfl ?_); (conv => whnf); intro w1 hS))
    have hRd := hS.rd 0 rfl
    rw [show #[Value.int .u8 (IntKind.u8.wrap (bShr .u32 n (IntKind.i64.wrap (8 * IntKind.i64.wrap (((k + 1 : Nat) : Int) - 1)))))].toList = flat encY [yI (n / 2 ^ (8 * k))] from by rw [putv' h0 h1 (by omega), ← u8v]] at hRd
    refine fc_m (write_c bw (bs ++ pre) [yI (n / 2 ^ (8 * k))] L' hW' _ _ _ hS.ownF hRd (by simp; omega)) ?_
    rintro v w3 ⟨L2, hW2, hS'⟩
    replace hS := hS.callW hS'
    repeat ((conv => whnf); first | (refine nw_f hS ?_; intro b w1 hS) | refine ld_f hS 0 rfl rfl ?_ | refine ldA_f hS 0 rfl rfl ?_ | ((first | refine stN_f hS 0 rfl (lb9 rfl) rfl rfl ?_ | refine stM_f hS 0 rfl (lb9 rfl) rfl ?_); (conv => whnf); intro w1 hS))
    refine ⟨rfl, (k, pre ++ [yI (n / 2 ^ (8 * k))]), ?_, ⟨by simp only; omega, ?_, L2, by simpa [List.append_assoc] using hW2, hS.subs (List.Sublist.refl _) (List.nil_sublist _)⟩, by simp⟩
    · have e1 : IntKind.i64.wrap (((k + 1 : Nat) : Int) - 1) = (k : Int) := by rw [wrap_i64 (by omega) (by omega)]; omega
      rw [e1]
      rfl
    · rw [← hpre]
      simp [be]
  · have hge : k = 0 := by simp at hb; omega
    subst hge
    simp only [be, List.append_nil] at hpre
    repeat ((conv => whnf); first | (refine nw_f hS ?_; intro b w1 hS) | refine ld_f hS 0 rfl rfl ?_ | refine ldA_f hS 0 rfl rfl ?_ | ((first | refine stN_f hS 0 rfl (lb9 rfl) rfl rfl ?_ | refine stM_f hS 0 rfl (lb9 rfl) rfl ?_); (conv => whnf); intro w1 hS))
    exact ⟨L', by rw [← hpre]; exact hW', by simpa using hS.st⟩
theorem w8_c (bw : Nat) (bs : List UInt8) (L : LM) (hW : Wr bw bs L) (n : Int) (h0 : 0 ≤ n) (h1 : n ≤ 4294967295) (w : World) (hS : St (keys L) w w L) (hn : bs.length ≤ 70368744177664) :
    Fc Tryz.prog 63 [.pointer (some ⟨bw, 0, none⟩), .int .u8 n] w fun v w' => ∃ L', Wr bw (bs ++ be n 1) L' ∧ St (keys L) w w' L' := by
  refine fc_i TB_ok Tryz.func63 rfl (by kernel_rfl) ?_
  have hS : Sf (keys L) w w (L ++ []) [] := ⟨by simpa using hS⟩
  repeat ((conv => whnf); first | (refine nw_f hS ?_; intro b w1 hS) | refine ld_f hS 0 rfl rfl ?_ | refine ldA_f hS 0 rfl rfl ?_ | ((first | refine stN_f hS 0 rfl (lb9 rfl) rfl rfl ?_ | refine stM_f hS 0 rfl (lb9 rfl) rfl ?_); (conv => whnf); intro w1 hS))
  refine fc_m (put8_c bw bs L hW n h0 h1 1 (by decide) _ hS.ownF hn) ?_
  rintro v w3 ⟨L2, hW2, hS'⟩
  replace hS := hS.callW hS'
  repeat ((conv => whnf); first | (refine nw_f hS ?_; intro b w1 hS) | refine ld_f hS 0 rfl rfl ?_ | refine ldA_f hS 0 rfl rfl ?_ | ((first | refine stN_f hS 0 rfl (lb9 rfl) rfl rfl ?_ | refine stM_f hS 0 rfl (lb9 rfl) rfl ?_); (conv => whnf); intro w1 hS))
  exact ⟨L2, hW2, by simpa using hS.st⟩

theorem w16_c (bw : Nat) (bs : List UInt8) (L : LM) (hW : Wr bw bs L) (n : Int) (h0 : 0 ≤ n) (h1 : n ≤ 4294967295) (w : World) (hS : St (keys L) w w L) (hn : bs.length ≤ 70368744177664) :
    Fc Tryz.prog 68 [.pointer (some ⟨bw, 0, none⟩), .int .u16 n] w fun v w' => ∃ L', Wr bw (bs ++ be n 2) L' ∧ St (keys L) w w' L' := by
  refine fc_i TB_ok Tryz.func68 rfl (by kernel_rfl) ?_
  have hS : Sf (keys L) w w (L ++ []) [] := ⟨by simpa using hS⟩
  repeat ((conv => whnf); first | (refine nw_f hS ?_; intro b w1 hS) | refine ld_f hS 0 rfl rfl ?_ | refine ldA_f hS 0 rfl rfl ?_ | ((first | refine stN_f hS 0 rfl (lb9 rfl) rfl rfl ?_ | refine stM_f hS 0 rfl (lb9 rfl) rfl ?_); (conv => whnf); intro w1 hS))
  refine fc_m (put16_c bw bs L hW n h0 h1 2 (by decide) _ hS.ownF hn) ?_
  rintro v w3 ⟨L2, hW2, hS'⟩
  replace hS := hS.callW hS'
  repeat ((conv => whnf); first | (refine nw_f hS ?_; intro b w1 hS) | refine ld_f hS 0 rfl rfl ?_ | refine ldA_f hS 0 rfl rfl ?_ | ((first | refine stN_f hS 0 rfl (lb9 rfl) rfl rfl ?_ | refine stM_f hS 0 rfl (lb9 rfl) rfl ?_); (conv => whnf); intro w1 hS))
  exact ⟨L2, hW2, by simpa using hS.st⟩

theorem w32_c (bw : Nat) (bs : List UInt8) (L : LM) (hW : Wr bw bs L) (n : Int) (h0 : 0 ≤ n) (h1 : n ≤ 4294967295) (w : World) (hS : St (keys L) w w L) (hn : bs.length ≤ 70368744177664) :
    Fc Tryz.prog 64 [.pointer (some ⟨bw, 0, none⟩), .int .u32 n] w fun v w' => ∃ L', Wr bw (bs ++ be n 4) L' ∧ St (keys L) w w' L' := by
  refine fc_i TB_ok Tryz.func64 rfl (by kernel_rfl) ?_
  have hS : Sf (keys L) w w (L ++ []) [] := ⟨by simpa using hS⟩
  repeat ((conv => whnf); first | (refine nw_f hS ?_; intro b w1 hS) | refine ld_f hS 0 rfl rfl ?_ | refine ldA_f hS 0 rfl rfl ?_ | ((first | refine stN_f hS 0 rfl (lb9 rfl) rfl rfl ?_ | refine stM_f hS 0 rfl (lb9 rfl) rfl ?_); (conv => whnf); intro w1 hS))
  refine fc_m (put32_c bw bs L hW n h0 h1 4 (by decide) _ hS.ownF hn) ?_
  rintro v w3 ⟨L2, hW2, hS'⟩
  replace hS := hS.callW hS'
  repeat ((conv => whnf); first | (refine nw_f hS ?_; intro b w1 hS) | refine ld_f hS 0 rfl rfl ?_ | refine ldA_f hS 0 rfl rfl ?_ | ((first | refine stN_f hS 0 rfl (lb9 rfl) rfl rfl ?_ | refine stM_f hS 0 rfl (lb9 rfl) rfl ?_); (conv => whnf); intro w1 hS))
  exact ⟨L2, hW2, by simpa using hS.st⟩

end Go.RV


set_option maxRecDepth 20000
set_option linter.unusedVariables false
set_option linter.unusedSimpArgs false
namespace Go.RV
open Go Go.Proofs

/-- a var number's bytes -/
def varF : Nat → Int → List UInt8
  | 0, n => [yI n]
  | f+1, n => if 127 < n then yI (128 + n % 128) :: varF f (n / 128) else [yI n]
def varD (n : Int) : List UInt8 := varF 5 n

theorem yI_emod (n : Int) : yI (n % 256) = yI n := by unfold yI; rw [Int.emod_emod_of_dvd _ (by decide)]
theorem be_low (n : Int) (h0 : 0 ≤ n) : ∀ (w : Nat), be n (w + 1) = be (n / 256) w ++ [yI n]
  | 0 => by simp [be]
  | w+1 => by
    have ih := be_low n h0 w
    rw [be, ih]
    show _ = (yI (n / 256 / 2 ^ (8 * w)) :: be (n / 256) w) ++ [yI n]
    have e : n / 256 / 2 ^ (8 * w) = n / 2 ^ (8 * (w + 1)) := by
      rw [Int.ediv_ediv_of_nonneg (by decide)]
      congr 1
      rw [show 8 * (w + 1) = 8 * w + 8 from by omega, Int.pow_add, Int.mul_comm]
      rfl
    rw [e]
    rfl

theorem rfixed_c (n0 : Int) (h0 : 0 ≤ n0) (h1 : n0 ≤ 4294967295) (W : Nat) (hW : W ≤ 4) (w : World) :
    Fc Tryz.prog 89 [.int .u32 n0, .int .i64 W] w fun v w' => v = .string (strY (be n0 W)) ∧ St [] w w' [] := by
  refine fc_i TB_ok Tryz.func89 rfl (by kernel_rfl) ?_
  have hS := Sf.refl w
  repeat ((conv => whnf); first | (refine nw_f hS ?_; intro b w1 hS) | refine ld_f hS 0 rfl rfl ?_ | refine ldA_f hS 0 rfl rfl ?_ | ((first | refine stN_f hS 0 rfl (lb9 rfl) rfl rfl ?_ | refine stM_f hS 0 rfl (lb9 rfl) rfl ?_); (conv => whnf); intro w1 hS))
  refine loop_i TB_ok (fun s : Nat × Int × List UInt8 => [(6, .int .i64 s.1), (0, .int .u32 s.2.1), (5, .string (strY s.2.2))]) (fun s w' => s.1 ≤ W ∧ (0 ≤ s.2.1 ∧ s.2.1 ≤ 4294967295) ∧ be s.2.1 (W - s.1) ++ s.2.2 = be n0 W ∧ s.2.2.length = s.1 ∧ Sf [] w w' [] []) (fun s => W - s.1) (0, n0, []) rfl ⟨Nat.zero_le _, ⟨h0, h1⟩, by simp, rfl, hS⟩ ?_
  rintro ⟨i, n, s⟩ us w2 ⟨hi, hn, hs, hl, hS⟩
  simp only at hi hn hs hl
  (conv => whnf)
  refine br_i (fun hb => ?_) (fun hb => ?_)
  · have hlt : i < W := by simpa using hb
    repeat ((conv => whnf); first | (refine nw_f hS ?_; intro b w1 hS) | refine ld_f hS 0 rfl rfl ?_ | refine ldA_f hS 0 rfl rfl ?_ | ((first | refine stN_f hS 0 rfl (lb9 rfl) rfl rfl ?_ | refine stM_f hS 0 rfl (lb9 rfl) rfl ?_); (conv => whnf); intro w1 hS) | (refine .mk (by decide) ?_))
    have hRd : Rd _ _ [Value.int .u8 (IntKind.u8.wrap (n.tmod 256))] := hS.rd 0 rfl
    rw [u8v, Int.tmod_eq_emod_of_nonneg hn.1, yI_emod] at hRd
    refine bStr_i Tryz.underlying96 Tryz.underlying5 Tryz.underlying9 hRd rfl ?_
    repeat ((conv => whnf); first | (refine nw_f hS ?_; intro b w1 hS) | refine ld_f hS 0 rfl rfl ?_ | refine ldA_f hS 0 rfl rfl ?_ | ((first | refine stN_f hS 0 rfl (lb9 rfl) rfl rfl ?_ | refine stM_f hS 0 rfl (lb9 rfl) rfl ?_); (conv => whnf); intro w1 hS))
    refine .mk (by show (strY [yI n]).size + (strY s).size ≤ _; rw [strY_size, strY_size]; simp; omega) ?_
    repeat ((conv => whnf); first | (refine nw_f hS ?_; intro b w1 hS) | refine ld_f hS 0 rfl rfl ?_ | refine ldA_f hS 0 rfl rfl ?_ | ((first | refine stN_f hS 0 rfl (lb9 rfl) rfl rfl ?_ | refine stM_f hS 0 rfl (lb9 rfl) rfl ?_); (conv => whnf); intro w1 hS) | (refine .mk (by decide) ?_))
    refine ⟨rfl, (i + 1, n / 256, yI n :: s), ?_, ⟨by simp only; omega, by simp only; omega, ?_, by simp [hl], hS.subs (List.Sublist.refl _) (List.nil_sublist _)⟩, by simp only; omega⟩
    · rw [wi hlt (by omega), Int.tdiv_eq_ediv_of_nonneg hn.1, wrap_u32 (by omega) (by omega), strY_append]
      rfl
    · rw [← hs, show W - i = (W - (i + 1)) + 1 from by omega, be_low n hn.1]
      simp
  · have hge : i = W := by simp at hb; omega
    subst hge
    repeat ((conv => whnf); first | (refine nw_f hS ?_; intro b w1 hS) | refine ld_f hS 0 rfl rfl ?_ | refine ldA_f hS 0 rfl rfl ?_ | ((first | refine stN_f hS 0 rfl (lb9 rfl) rfl rfl ?_ | refine stM_f hS 0 rfl (lb9 rfl) rfl ?_); (conv => whnf); intro w1 hS))
    refine ⟨?_, hS.nil⟩
    simp [be] at hs
    rw [hs]

theorem varF_len : ∀ (f : Nat) (n : Int), (varF f n).length ≤ f + 1
  | 0, n => by simp [varF]
  | f+1, n => by
    rw [varF]
    split
    · have := varF_len f (n / 128)
      simp; omega
    · simp
theorem varD_len (n : Int) : (varD n).length ≤ 6 := varF_len 5 n
theorem bytes_c (bw : Nat) (bs : List UInt8) (L : LM) (hW : Wr bw bs L) (w : World) (hS : St (keys L) w w L) :
    Fc Tryz.prog 36 [.pointer (some ⟨bw, 0, none⟩)] w fun v w' => v = .string (strY bs) ∧ St [] w w' [] := by
  refine fc_i TB_ok Tryz.func36 rfl (by kernel_rfl) ?_
  obtain ⟨v, Lv, rfl, hv⟩ := hW.out
  obtain ⟨Av, cv, rfl, hv⟩ := hv.open
  have hH : Holds w ((bw, .cells #[.slice Av bs.length cv] 98 (0, 0)) :: Lv) := fun x hx => hS.own x.1 x.2 hx
  have hRv : Rd w Av (flat encY bs) := hv.rd hS (fun x hx => List.mem_cons_of_mem _ hx)
  replace hS := Sf.refl w
  repeat ((conv => whnf); first | (refine nw_f hS ?_; intro b w1 hS) | refine ld_f hS 0 rfl rfl ?_ | refine ldA_f hS 0 rfl rfl ?_ | ((first | refine stN_f hS 0 rfl (lb9 rfl) rfl rfl ?_ | refine stM_f hS 0 rfl (lb9 rfl) rfl ?_); (conv => whnf); intro w1 hS) | (refine ld_h hS.nil hH 0 rfl rfl ?_))
  refine bStr_i Tryz.underlying96 Tryz.underlying5 Tryz.underlying9 hRv rfl ?_
  repeat ((conv => whnf); first | (refine nw_f hS ?_; intro b w1 hS) | refine ld_f hS 0 rfl rfl ?_ | refine ldA_f hS 0 rfl rfl ?_ | ((first | refine stN_f hS 0 rfl (lb9 rfl) rfl rfl ?_ | refine stM_f hS 0 rfl (lb9 rfl) rfl ?_); (conv => whnf); intro w1 hS))
  exact ⟨rfl, hS.nil⟩

theorem raw_c (bw : Nat) (bs s : List UInt8) (L : LM) (hW : Wr bw bs L) (w : World) (hS : St (keys L) w w L) (hn : bs.length + s.length ≤ 140737488355328) :
    Fc Tryz.prog 93 [.pointer (some ⟨bw, 0, none⟩), .string (strY s)] w fun v w' => ∃ L', Wr bw (bs ++ s) L' ∧ St (keys L) w w' L' := by
  refine fc_i TB_ok Tryz.func93 rfl (by kernel_rfl) ?_
  have hS : Sf (keys L) w w (L ++ []) [] := ⟨by simpa using hS⟩
  repeat ((conv => whnf); first | (refine nw_f hS ?_; intro b w1 hS) | refine ld_f hS 0 rfl rfl ?_ | refine ldA_f hS 0 rfl rfl ?_ | ((first | refine stN_f hS 0 rfl (lb9 rfl) rfl rfl ?_ | refine stM_f hS 0 rfl (lb9 rfl) rfl ?_); (conv => whnf); intro w1 hS))
  refine sBytes_i Tryz.underlying9 Tryz.underlying96 Tryz.underlying5 hS ?_
  intro br cap C w1 hcap hrow hS
  have hsz : (strY s).size = s.length := strY_size s
  have hd : (strY s).data.toList = s := by simp [strY]
  rw [hd] at hrow
  rw [hsz]
  repeat ((conv => whnf); first | (refine nw_f hS ?_; intro b w1 hS) | refine ld_f hS 0 rfl rfl ?_ | refine ldA_f hS 0 rfl rfl ?_ | ((first | refine stN_f hS 0 rfl (lb9 rfl) rfl rfl ?_ | refine stM_f hS 0 rfl (lb9 rfl) rfl ?_); (conv => whnf); intro w1 hS))
  refine fc_m (write_c bw bs s L hW _ _ _ hS.ownF (hrow.rd hS) hn) ?_
  rintro v w3 ⟨L2, hW2, hS'⟩
  replace hS := hS.callW hS'
  repeat ((conv => whnf); first | (refine nw_f hS ?_; intro b w1 hS) | refine ld_f hS 0 rfl rfl ?_ | refine ldA_f hS 0 rfl rfl ?_ | ((first | refine stN_f hS 0 rfl (lb9 rfl) rfl rfl ?_ | refine stM_f hS 0 rfl (lb9 rfl) rfl ?_); (conv => whnf); intro w1 hS))
  exact ⟨L2, hW2, by simpa using hS.fr (List.Sublist.refl _)⟩
end Go.RV


set_option maxRecDepth 20000
set_option linter.unusedVariables false
set_option linter.unusedSimpArgs false
namespace Go.RV
open Go Go.Proofs

theorem digits_c (n : Int) (w : World) : Fc Tryz.prog 118 [.int .u32 n] w fun v w' => ∃ b, v = .func (.func 128) #[] #[.pointer (some ⟨b, 0, none⟩)] ∧ St [] w w' [(b, .cells #[.int .u32 n] 32 (0, 0))] := by
  refine fc_i TB_ok Tryz.func118 rfl (by kernel_rfl) ?_
  have hS := Sf.refl w
  repeat ((conv => whnf); first | (refine nw_f hS ?_; intro b w1 hS) | refine ld_f hS 0 rfl rfl ?_ | refine ld_f hS 1 rfl rfl ?_ | refine ldA_f hS 0 rfl rfl ?_ | refine ldA_f hS 1 rfl rfl ?_ | ((first | refine stN_f hS 0 rfl (lb9 rfl) rfl rfl ?_ | refine stN_f hS 1 rfl (lb9 rfl) rfl rfl ?_ | refine stM_f hS 0 rfl (lb9 rfl) rfl ?_ | refine stM_f hS 1 rfl (lb9 rfl) rfl ?_); (conv => whnf); intro w1 hS))
  exact ⟨_, rfl, hS.sub sb9⟩

theorem u8var {n : Int} (h : 0 ≤ n) : [Value.int .u8 (IntKind.u8.wrap (IntKind.u8.wrap (n.tmod 128) + 128))] = flat encY [yI (128 + n % 128)] := by
  rw [Int.tmod_eq_emod_of_nonneg h, wrap_u8 (x := n % 128) (by omega) (by omega), Int.add_comm, u8v]

theorem wvar_c (bw : Nat) (bs : List UInt8) (L : LM) (hW : Wr bw bs L) (n0 : Int) (h0 : 0 ≤ n0) (h1 : n0 ≤ 4294967295) (w : World) (hS : St (keys L) w w L) (hn : bs.length ≤ 70368744177664) :
    Fc Tryz.prog 98 [.pointer (some ⟨bw, 0, none⟩), .int .u32 n0] w fun v w' => ∃ L', Wr bw (bs ++ varD n0) L' ∧ St (keys L) w w' L' := by
  refine fc_i TB_ok Tryz.func98 rfl (by kernel_rfl) ?_
  have hS : Sf (keys L) w w (L ++ []) [] := ⟨by simpa using hS⟩
  repeat ((conv => whnf); first | (refine nw_f hS ?_; intro b w1 hS) | refine ld_f hS 0 rfl rfl ?_ | refine ld_f hS 1 rfl rfl ?_ | refine ldA_f hS 0 rfl rfl ?_ | refine ldA_f hS 1 rfl rfl ?_ | ((first | refine stN_f hS 0 rfl (lb9 rfl) rfl rfl ?_ | refine stN_f hS 1 rfl (lb9 rfl) rfl rfl ?_ | refine stM_f hS 0 rfl (lb9 rfl) rfl ?_ | refine stM_f hS 1 rfl (lb9 rfl) rfl ?_); (conv => whnf); intro w1 hS))
  refine fc_m (digits_c n0 _) ?_
  rintro v w1 ⟨bn, rfl, hS'⟩
  replace hS := hS.call' hS'
  repeat ((conv => whnf); first | (refine nw_f hS ?_; intro b w1 hS) | refine ld_f hS 0 rfl rfl ?_ | refine ld_f hS 1 rfl rfl ?_ | refine ldA_f hS 0 rfl rfl ?_ | refine ldA_f hS 1 rfl rfl ?_ | ((first | refine stN_f hS 0 rfl (lb9 rfl) rfl rfl ?_ | refine stN_f hS 1 rfl (lb9 rfl) rfl rfl ?_ | refine stM_f hS 0 rfl (lb9 rfl) rfl ?_ | refine stM_f hS 1 rfl (lb9 rfl) rfl ?_); (conv => whnf); intro w1 hS))
  refine range_i rfl Tryz.func128 rfl (by kernel_rfl) hS ?_
  intro fi bd l w2 hS
  refine fc_i TB_ok Tryz.func128 rfl (by kernel_rfl) ?_
  repeat ((conv => whnf); first | (refine nw_f hS ?_; intro b w1 hS) | refine ld_f hS 0 rfl rfl ?_ | refine ld_f hS 1 rfl rfl ?_ | refine ld_f hS 2 rfl rfl ?_ | refine ld_f hS 3 rfl rfl ?_ | refine ldA_f hS 0 rfl rfl ?_ | refine ldA_f hS 1 rfl rfl ?_ | refine ldA_f hS 2 rfl rfl ?_ | refine ldA_f hS 3 rfl rfl ?_ | ((first | refine stN_f hS 0 rfl (lb9 rfl) rfl rfl ?_ | refine stN_f hS 1 rfl (lb9 rfl) rfl rfl ?_ | refine stN_f hS 2 rfl (lb9 rfl) rfl rfl ?_ | refine stN_f hS 3 rfl (lb9 rfl) rfl rfl ?_ | refine stM_f hS 0 rfl (lb9 rfl) rfl ?_ | refine stM_f hS 1 rfl (lb9 rfl) rfl ?_ | refine stM_f hS 2 rfl (lb9 rfl) rfl ?_ | refine stM_f hS 3 rfl (lb9 rfl) rfl ?_); (conv => whnf); intro w1 hS))
  refine loop_i TB_ok (fun s : Nat × Int × List UInt8 => []) (fun s w' => (s.1 ≤ 5 ∧ 1 ≤ s.1) ∧ (0 ≤ s.2.1 ∧ s.2.1 ≤ 4294967295 ∧ s.2.1 < 2 ^ (7 * s.1)) ∧ s.2.2 ++ varF s.1 s.2.1 = varD n0 ∧ s.2.2.length = 5 - s.1 ∧ ∃ L', Wr bw (bs ++ s.2.2) L' ∧ Sf (keys L) w w' (L' ++ []) [_, _, _, (bn, .cells #[.int .u32 s.2.1] 32 (0, 0))]) (fun s => s.1) (5, n0, []) rfl ⟨⟨Nat.le_refl _, by show 1 ≤ 5; decide⟩, ⟨h0, h1, by show n0 < 2 ^ 35; omega⟩, rfl, rfl, L, by simpa using hW, hS⟩ ?_
  rintro ⟨f, n, pre⟩ us w3 ⟨hf, hn', hs, hl, L', hW', hS⟩
  simp only at hf hn' hs hl hW'
  obtain ⟨f, rfl⟩ : ∃ j, f = j + 1 := ⟨f - 1, by omega⟩
  repeat ((conv => whnf); first | (refine nw_f hS ?_; intro b w1 hS) | refine ld_f hS 0 rfl rfl ?_ | refine ld_f hS 1 rfl rfl ?_ | refine ld_f hS 2 rfl rfl ?_ | refine ld_f hS 3 rfl rfl ?_ | refine ldA_f hS 0 rfl rfl ?_ | refine ldA_f hS 1 rfl rfl ?_ | refine ldA_f hS 2 rfl rfl ?_ | refine ldA_f hS 3 rfl rfl ?_ | ((first | refine stN_f hS 0 rfl (lb9 rfl) rfl rfl ?_ | refine stN_f hS 1 rfl (lb9 rfl) rfl rfl ?_ | refine stN_f hS 2 rfl (lb9 rfl) rfl rfl ?_ | refine stN_f hS 3 rfl (lb9 rfl) rfl rfl ?_ | refine stM_f hS 0 rfl (lb9 rfl) rfl ?_ | refine stM_f hS 1 rfl (lb9 rfl) rfl ?_ | refine stM_f hS 2 rfl (lb9 rfl) rfl ?_ | refine stM_f hS 3 rfl (lb9 rfl) rfl ?_); (conv => whnf); intro w1 hS))
  refine br_i (fun hb => ?_) (fun hb => ?_)
  · have hlt : 127 < n := by have : (128 : Int) ≤ n := of_decide_eq_true hb; omega
    have hf1 : 1 ≤ f := by
      rcases Nat.lt_or_ge 0 f with h | h
      · exact h
      · obtain rfl : f = 0 := by omega
        have := hn'.2.2
        simp at this
        omega
    rw [varF, if_pos hlt] at hs
    repeat ((conv => whnf); first | (refine nw_f hS ?_; intro b w1 hS) | refine ld_f hS 0 rfl rfl ?_ | refine ld_f hS 1 rfl rfl ?_ | refine ld_f hS 2 rfl rfl ?_ | refine ld_f hS 3 rfl rfl ?_ | refine ldA_f hS 0 rfl rfl ?_ | refine ldA_f hS 1 rfl rfl ?_ | refine ldA_f hS 2 rfl rfl ?_ | refine ldA_f hS 3 rfl rfl ?_ | ((first | refine stN_f hS 0 rfl (lb9 rfl) rfl rfl ?_ | refine stN_f hS 1 rfl (lb9 rfl) rfl rfl ?_ | refine stN_f hS 2 rfl (lb9 rfl) rfl rfl ?_ | refine stN_f hS 3 rfl (lb9 rfl) rfl rfl ?_ | refine stM_f hS 0 rfl (lb9 rfl) rfl ?_ | refine stM_f hS 1 rfl (lb9 rfl) rfl ?_ | refine stM_f hS 2 rfl (lb9 rfl) rfl ?_ | refine stM_f hS 3 rfl (lb9 rfl) rfl ?_); (conv => whnf); intro w1 hS) | (refine .mk (by decide) ?_))
    (conv => whnf)
    refine yield1_i TB_ok (hS.obj 0 rfl) rfl ?_
    (conv => whnf)
    refine begin_f hS 0 rfl rfl ?_
    (conv => whnf)
    intro w5 hS
    repeat ((conv => whnf); first | (refine nw_f hS ?_; intro b w1 hS) | refine ld_f hS 0 rfl rfl ?_ | refine ld_f hS 1 rfl rfl ?_ | refine ld_f hS 2 rfl rfl ?_ | refine ld_f hS 3 rfl rfl ?_ | refine ldA_f hS 0 rfl rfl ?_ | refine ldA_f hS 1 rfl rfl ?_ | refine ldA_f hS 2 rfl rfl ?_ | refine ldA_f hS 3 rfl rfl ?_ | ((first | refine stN_f hS 0 rfl (lb9 rfl) rfl rfl ?_ | refine stN_f hS 1 rfl (lb9 rfl) rfl rfl ?_ | refine stN_f hS 2 rfl (lb9 rfl) rfl rfl ?_ | refine stN_f hS 3 rfl (lb9 rfl) rfl rfl ?_ | refine stM_f hS 0 rfl (lb9 rfl) rfl ?_ | refine stM_f hS 1 rfl (lb9 rfl) rfl ?_ | refine stM_f hS 2 rfl (lb9 rfl) rfl ?_ | refine stM_f hS 3 rfl (lb9 rfl) rfl ?_); (conv => whnf); intro w1 hS))
    have hRd : Rd _ _ [Value.int .u8 (IntKind.u8.wrap (IntKind.u8.wrap (n.tmod 128) + 128))] := hS.rd 0 rfl
    rw [u8var hn'.1] at hRd
    refine fc_m (write_c bw (bs ++ pre) [yI (128 + n % 128)] L' hW' _ _ _ hS.ownF hRd (by have h1 : pre.length = 5 - (f + 1) := hl; simp; omega)) ?_
    rintro v w6 ⟨L2, hW2, hS'⟩
    replace hS := hS.callW hS'
    (conv => whnf)
    refine end_f hS 1 rfl ?_
    (conv => whnf)
    intro w7 hS
    repeat ((conv => whnf); first | (refine nw_f hS ?_; intro b w1 hS) | refine ld_f hS 0 rfl rfl ?_ | refine ld_f hS 1 rfl rfl ?_ | refine ld_f hS 2 rfl rfl ?_ | refine ld_f hS 3 rfl rfl ?_ | refine ld_f hS 4 rfl rfl ?_ | refine ldA_f hS 0 rfl rfl ?_ | refine ldA_f hS 1 rfl rfl ?_ | refine ldA_f hS 2 rfl rfl ?_ | refine ldA_f hS 3 rfl rfl ?_ | refine ldA_f hS 4 rfl rfl ?_ | ((first | refine stN_f hS 0 rfl (lb9 rfl) rfl rfl ?_ | refine stN_f hS 1 rfl (lb9 rfl) rfl rfl ?_ | refine stN_f hS 2 rfl (lb9 rfl) rfl rfl ?_ | refine stN_f hS 3 rfl (lb9 rfl) rfl rfl ?_ | refine stN_f hS 4 rfl (lb9 rfl) rfl rfl ?_ | refine stM_f hS 0 rfl (lb9 rfl) rfl ?_ | refine stM_f hS 1 rfl (lb9 rfl) rfl ?_ | refine stM_f hS 2 rfl (lb9 rfl) rfl ?_ | refine stM_f hS 3 rfl (lb9 rfl) rfl ?_ | refine stM_f hS 4 rfl (lb9 rfl) rfl ?_); (conv => whnf); intro w1 hS) | (refine .mk (by decide) ?_))
    have e : IntKind.u32.wrap (n.tdiv 128) = n / 128 := by rw [Int.tdiv_eq_ediv_of_nonneg hn'.1, wrap_u32 (by omega) (by omega)]
    have hl' : pre.length = 5 - (f + 1) := hl
    refine ⟨rfl, (f, IntKind.u32.wrap (n.tdiv 128), pre ++ [yI (128 + n % 128)]), rfl, ⟨by simp only; omega, ⟨by simp only; rw [e]; omega, by simp only; rw [e]; omega, ?_⟩, by simp only; rw [e, ← hs]; simp, by simp; omega, L2, by simpa [List.append_assoc] using hW2, hS.subs (List.Sublist.refl _) sb9⟩, by simp⟩
    simp only
    rw [e]
    have h := hn'.2.2
    rw [show 7 * (f + 1) = 7 * f + 7 from by omega, Int.pow_add] at h
    have h7 : (2 : Int) ^ 7 = 128 := by decide
    rw [h7] at h
    exact Int.ediv_lt_of_lt_mul (by decide) h
  · have hge : ¬ 127 < n := by have : ¬ (128 : Int) ≤ n := of_decide_eq_false hb; omega
    rw [varF, if_neg hge] at hs
    repeat ((conv => whnf); first | (refine nw_f hS ?_; intro b w1 hS) | refine ld_f hS 0 rfl rfl ?_ | refine ld_f hS 1 rfl rfl ?_ | refine ld_f hS 2 rfl rfl ?_ | refine ld_f hS 3 rfl rfl ?_ | refine ldA_f hS 0 rfl rfl ?_ | refine ldA_f hS 1 rfl rfl ?_ | refine ldA_f hS 2 rfl rfl ?_ | refine ldA_f hS 3 rfl rfl ?_ | ((first | refine stN_f hS 0 rfl (lb9 rfl) rfl rfl ?_ | refine stN_f hS 1 rfl (lb9 rfl) rfl rfl ?_ | refine stN_f hS 2 rfl (lb9 rfl) rfl rfl ?_ | refine stN_f hS 3 rfl (lb9 rfl) rfl rfl ?_ | refine stM_f hS 0 rfl (lb9 rfl) rfl ?_ | refine stM_f hS 1 rfl (lb9 rfl) rfl ?_ | refine stM_f hS 2 rfl (lb9 rfl) rfl ?_ | refine stM_f hS 3 rfl (lb9 rfl) rfl ?_); (conv => whnf); intro w1 hS))
    (conv => whnf)
    refine yield1_i TB_ok (hS.obj 0 rfl) rfl ?_
    (conv => whnf)
    refine begin_f hS 0 rfl rfl ?_
    (conv => whnf)
    intro w5 hS
    repeat ((conv => whnf); first | (refine nw_f hS ?_; intro b w1 hS) | refine ld_f hS 0 rfl rfl ?_ | refine ld_f hS 1 rfl rfl ?_ | refine ld_f hS 2 rfl rfl ?_ | refine ld_f hS 3 rfl rfl ?_ | refine ldA_f hS 0 rfl rfl ?_ | refine ldA_f hS 1 rfl rfl ?_ | refine ldA_f hS 2 rfl rfl ?_ | refine ldA_f hS 3 rfl rfl ?_ | ((first | refine stN_f hS 0 rfl (lb9 rfl) rfl rfl ?_ | refine stN_f hS 1 rfl (lb9 rfl) rfl rfl ?_ | refine stN_f hS 2 rfl (lb9 rfl) rfl rfl ?_ | refine stN_f hS 3 rfl (lb9 rfl) rfl rfl ?_ | refine stM_f hS 0 rfl (lb9 rfl) rfl ?_ | refine stM_f hS 1 rfl (lb9 rfl) rfl ?_ | refine stM_f hS 2 rfl (lb9 rfl) rfl ?_ | refine stM_f hS 3 rfl (lb9 rfl) rfl ?_); (conv => whnf); intro w1 hS))
    have hRd : Rd _ _ [Value.int .u8 (IntKind.u8.wrap n)] := hS.rd 0 rfl
    rw [u8v] at hRd
    refine fc_m (write_c bw (bs ++ pre) [yI n] L' hW' _ _ _ hS.ownF hRd (by have h1 : pre.length = 5 - (f + 1) := hl; simp; omega)) ?_
    rintro v w6 ⟨L2, hW2, hS'⟩
    replace hS := hS.callW hS'
    (conv => whnf)
    refine end_f hS 1 rfl ?_
    (conv => whnf)
    intro w7 hS
    (conv => whnf)
    refine loopEnd_f hS 1 rfl rfl rfl ?_
    (conv => whnf)
    intro w8 hS
    (conv => whnf)
    refine take_f hS 2 rfl ?_
    (conv => whnf)
    intro w9 hS
    (conv => whnf)
    refine ⟨L2, ?_, by simpa using hS.fr (List.Sublist.refl _)⟩
    rw [← hs, ← List.append_assoc]
    exact hW2
end Go.RV


set_option maxRecDepth 20000
set_option linter.unusedVariables false
set_option linter.unusedSimpArgs false
namespace Go.RV
open Go Go.Proofs

/-- a reader's state -/
structure RS where
  rest : List UInt8
  e : Int
def rdO (s : RS) : Obj := .cells #[.string (strY s.rest), .int .i64 s.e] 111 (0, 0)
theorem strY_extract (l : List UInt8) (a b : Nat) : (strY l).extract a b = strY ((l.take b).drop a) := by
  apply ByteArray.ext
  simp [strY, List.drop_take]
def fixedR (s : RS) (n : Int) : List UInt8 × RS := if s.e ≠ 0 ∨ n ≤ 0 then ([], s) else if (s.rest.length : Int) < n then ([], ⟨[], 10⟩) else (s.rest.take n.toNat, ⟨s.rest.drop n.toNat, s.e⟩)

theorem read_c (s : List UInt8) (w : World) : Fc Tryz.prog 28 [.string (strY s)] w fun v w' => ∃ b, v = .pointer (some ⟨b, 0, none⟩) ∧ St [] w w' [(b, rdO ⟨s, 0⟩)] := by
  refine fc_i TB_ok Tryz.func28 rfl (by kernel_rfl) ?_
  have hS := Sf.refl w
  repeat ((conv => whnf); first | (refine nw_f hS ?_; intro b w1 hS) | refine ld_f hS 0 rfl rfl ?_ | refine ldA_f hS 0 rfl rfl ?_ | ((first | refine stN_f hS 0 rfl (lb9 rfl) rfl rfl ?_ | refine stM_f hS 0 rfl (lb9 rfl) rfl ?_); (conv => whnf); intro w1 hS))
  exact ⟨_, rfl, hS.sub sb9⟩
theorem rerr_c (b : Nat) (s : RS) (w : World) (hS : St [b] w w [(b, rdO s)]) : Fc Tryz.prog 84 [.pointer (some ⟨b, 0, none⟩)] w fun v w' => v = .int .i64 s.e ∧ St [] w w' [] := by
  refine fc_i TB_ok Tryz.func84 rfl (by kernel_rfl) ?_
  have hH : Holds w [(b, .cells #[.string (strY s.rest), .int .i64 s.e] 111 (0, 0))] := fun x hx => hS.own x.1 x.2 hx
  replace hS := Sf.refl w
  repeat ((conv => whnf); first | (refine nw_f hS ?_; intro b w1 hS) | refine ld_f hS 0 rfl rfl ?_ | refine ldA_f hS 0 rfl rfl ?_ | ((first | refine stN_f hS 0 rfl (lb9 rfl) rfl rfl ?_ | refine stM_f hS 0 rfl (lb9 rfl) rfl ?_); (conv => whnf); intro w1 hS) | (refine ld_h hS.nil hH 0 rfl rfl ?_))
  exact ⟨rfl, hS.nil⟩
theorem rrest_c (b : Nat) (s : RS) (w : World) (hS : St [b] w w [(b, rdO s)]) : Fc Tryz.prog 29 [.pointer (some ⟨b, 0, none⟩)] w fun v w' => v = .string (strY s.rest) ∧ St [] w w' [] := by
  refine fc_i TB_ok Tryz.func29 rfl (by kernel_rfl) ?_
  have hH : Holds w [(b, .cells #[.string (strY s.rest), .int .i64 s.e] 111 (0, 0))] := fun x hx => hS.own x.1 x.2 hx
  replace hS := Sf.refl w
  repeat ((conv => whnf); first | (refine nw_f hS ?_; intro b w1 hS) | refine ld_f hS 0 rfl rfl ?_ | refine ldA_f hS 0 rfl rfl ?_ | ((first | refine stN_f hS 0 rfl (lb9 rfl) rfl rfl ?_ | refine stM_f hS 0 rfl (lb9 rfl) rfl ?_); (conv => whnf); intro w1 hS) | (refine ld_h hS.nil hH 0 rfl rfl ?_))
  exact ⟨rfl, hS.nil⟩
theorem rfail_c (b : Nat) (s : RS) (e : Int) (w : World) (hS : St [b] w w [(b, rdO s)]) : Fc Tryz.prog 110 [.pointer (some ⟨b, 0, none⟩), .int .i64 e] w fun v w' => St [b] w w' [(b, rdO ⟨[], e⟩)] := by
  refine fc_i TB_ok Tryz.func110 rfl (by kernel_rfl) ?_
  have hS : Sf [b] w w [] [(b, .cells #[.string (strY s.rest), .int .i64 s.e] 111 (0, 0))] := ⟨hS⟩
  repeat ((conv => whnf); first | (refine nw_f hS ?_; intro b w1 hS) | refine ld_f hS 0 rfl rfl ?_ | refine ldA_f hS 0 rfl rfl ?_ | ((first | refine stN_f hS 0 rfl (lb9 rfl) rfl rfl ?_ | refine stM_f hS 0 rfl (lb9 rfl) rfl ?_); (conv => whnf); intro w1 hS))
  exact hS.st

theorem rfixed0_c (b : Nat) (s : RS) (n : Int) (w : World) (hS : St [b] w w [(b, rdO s)]) :
    Fc Tryz.prog 85 [.pointer (some ⟨b, 0, none⟩), .int .i64 n] w fun v w' => v = .string (strY (fixedR s n).1) ∧ St [b] w w' [(b, rdO (fixedR s n).2)] := by
  refine fc_i TB_ok Tryz.func85 rfl (by kernel_rfl) ?_
  have hS : Sf [b] w w [] [(b, .cells #[.string (strY s.rest), .int .i64 s.e] 111 (0, 0))] := ⟨hS⟩
  repeat ((conv => whnf); first | (refine nw_f hS ?_; intro b w1 hS) | refine ld_f hS 0 rfl rfl ?_ | refine ldA_f hS 0 rfl rfl ?_ | ((first | refine stN_f hS 0 rfl (lb9 rfl) rfl rfl ?_ | refine stM_f hS 0 rfl (lb9 rfl) rfl ?_); (conv => whnf); intro w1 hS))
  refine br_i (fun h0 => ?_) (fun h0 => ?_)
  · repeat ((conv => whnf); first | (refine nw_f hS ?_; intro b w1 hS) | refine ld_f hS 0 rfl rfl ?_ | refine ldA_f hS 0 rfl rfl ?_ | ((first | refine stN_f hS 0 rfl (lb9 rfl) rfl rfl ?_ | refine stM_f hS 0 rfl (lb9 rfl) rfl ?_); (conv => whnf); intro w1 hS))
    have hc : s.e ≠ 0 ∨ n ≤ 0 := .inl (by simpa using h0)
    exact ⟨by rw [fixedR, if_pos hc]; rfl, by rw [fixedR, if_pos hc]; exact hS.st⟩
  · repeat ((conv => whnf); first | (refine nw_f hS ?_; intro b w1 hS) | refine ld_f hS 0 rfl rfl ?_ | refine ldA_f hS 0 rfl rfl ?_ | ((first | refine stN_f hS 0 rfl (lb9 rfl) rfl rfl ?_ | refine stM_f hS 0 rfl (lb9 rfl) rfl ?_); (conv => whnf); intro w1 hS))
    refine br_i (fun h1 => ?_) (fun h1 => ?_)
    · repeat ((conv => whnf); first | (refine nw_f hS ?_; intro b w1 hS) | refine ld_f hS 0 rfl rfl ?_ | refine ldA_f hS 0 rfl rfl ?_ | ((first | refine stN_f hS 0 rfl (lb9 rfl) rfl rfl ?_ | refine stM_f hS 0 rfl (lb9 rfl) rfl ?_); (conv => whnf); intro w1 hS))
      have hc : s.e ≠ 0 ∨ n ≤ 0 := .inr (by simpa using h1)
      exact ⟨by rw [fixedR, if_pos hc]; rfl, by rw [fixedR, if_pos hc]; exact hS.st⟩
    · have hc : ¬ (s.e ≠ 0 ∨ n ≤ 0) := by simp at h0 h1; omega
      have hsz := strY_size s.rest
      repeat ((conv => whnf); first | (refine nw_f hS ?_; intro b w1 hS) | refine ld_f hS 0 rfl rfl ?_ | refine ldA_f hS 0 rfl rfl ?_ | ((first | refine stN_f hS 0 rfl (lb9 rfl) rfl rfl ?_ | refine stM_f hS 0 rfl (lb9 rfl) rfl ?_); (conv => whnf); intro w1 hS))
      refine br_i (fun h2 => ?_) (fun h2 => ?_)
      · have h2' : (s.rest.length : Int) < n := by have := of_decide_eq_true h2; omega
        repeat ((conv => whnf); first | (refine nw_f hS ?_; intro b w1 hS) | refine ld_f hS 0 rfl rfl ?_ | refine ldA_f hS 0 rfl rfl ?_ | ((first | refine stN_f hS 0 rfl (lb9 rfl) rfl rfl ?_ | refine stM_f hS 0 rfl (lb9 rfl) rfl ?_); (conv => whnf); intro w1 hS))
        refine fc_m (rfail_c b s 10 _ (hS.ownL (Lw := [(b, rdO s)]) (List.Sublist.refl _))) ?_
        rintro v w1 hS'
        have hS2 : Sf [b] w w1 [] [(b, rdO ⟨[], 10⟩)] := ⟨by simpa using hS.st.callM hS' (Lk := []) (fun b' hb => ⟨_, by simp at hb; subst hb; exact List.mem_singleton.2 rfl⟩) (List.nil_sublist _) (fun x hx => by cases hx)⟩
        replace hS := hS2
        repeat ((conv => whnf); first | (refine nw_f hS ?_; intro b w1 hS) | refine ld_f hS 0 rfl rfl ?_ | refine ldA_f hS 0 rfl rfl ?_ | ((first | refine stN_f hS 0 rfl (lb9 rfl) rfl rfl ?_ | refine stM_f hS 0 rfl (lb9 rfl) rfl ?_); (conv => whnf); intro w1 hS))
        exact ⟨by rw [fixedR, if_neg hc, if_pos h2']; rfl, by rw [fixedR, if_neg hc, if_pos h2']; exact hS.st⟩
      · have h2' : ¬ (s.rest.length : Int) < n := by have := of_decide_eq_false h2; omega
        repeat ((conv => whnf); first | (refine nw_f hS ?_; intro b w1 hS) | refine ld_f hS 0 rfl rfl ?_ | refine ldA_f hS 0 rfl rfl ?_ | ((first | refine stN_f hS 0 rfl (lb9 rfl) rfl rfl ?_ | refine stM_f hS 0 rfl (lb9 rfl) rfl ?_); (conv => whnf); intro w1 hS))
        refine drawf TB_ok rfl (by kernel_rfl) (by kernel_rfl) hS (List.Sublist.refl _) (List.Sublist.refl _) ?_
        intro w1 hS
        repeat ((conv => whnf); apply q_i; focus (intro w1 hS; (conv => whnf); first | exact ⟨rfl, rfl⟩ | (refine ld_f hS 0 rfl rfl ?_; (conv => whnf); exact ⟨rfl, rfl⟩) | (refine ldA_f hS 0 rfl rfl ?_; (conv => whnf); exact ⟨rfl, rfl⟩) | (refine .mk ⟨by omega, by omega⟩ ?_; (conv => whnf); exact ⟨rfl, rfl⟩)))
        (conv => whnf)
        refine stN_f hS 0 rfl (lb9 rfl) rfl rfl ?_
        (conv => whnf)
        intro w2 hS
        repeat ((conv => whnf); first | (refine nw_f hS ?_; intro b w1 hS) | refine ld_f hS 0 rfl rfl ?_ | refine ldA_f hS 0 rfl rfl ?_ | ((first | refine stN_f hS 0 rfl (lb9 rfl) rfl rfl ?_ | refine stM_f hS 0 rfl (lb9 rfl) rfl ?_); (conv => whnf); intro w1 hS))
        rw [fixedR, if_neg hc, if_neg h2']
        refine ⟨?_, ?_⟩
        · rw [strY_extract]
          simp
        · have e : (strY s.rest).extract n.toNat (strY s.rest).size = strY (s.rest.drop n.toNat) := by
            rw [strY_extract, hsz, List.take_length]
          rw [e] at hS
          exact hS.st
end Go.RV

