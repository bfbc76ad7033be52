/- The executor at a region whose order is open. Conditions: none. -/
import Derived.Test.YtedoalnjdanebaaRvI
set_option linter.unusedVariables false
set_option linter.unusedSimpArgs false
namespace Go.RV
open Go

structure Qn (T : Tab) (P : Program) (S : World → Prop) (o : Oper) (fr : Fr) (K : Value → Prop) : Prop where
  out : ∃ v, (∀ w, S w → xv T P o fr w fun v' w' => v' = v ∧ w' = w) ∧ K v
structure BarS (F : (World → Prop) → Prop) (w : World) : Prop where
  intro ::
  out : ∃ S, S w ∧ F S
structure AndS (A B : Prop) : Prop where
  intro ::
  left : A
  right : B

def lkB : List Bool → Nat → Bool
  | [], _ => false
  | b :: _, 0 => b
  | _ :: bs, n+1 => lkB bs n
def setB : List Bool → Nat → List Bool
  | [], _ => []
  | _ :: bs, 0 => true :: bs
  | b :: bs, n+1 => b :: setB bs n
def edgeOk (ls : List Bool) (e : Edge) : Bool :=
  match e.ground with
  | .textOnly _ => true
  | .gcOnly _ => true
  | _ => lkB ls e.on
def allE (ls : List Bool) : List Edge → Bool
  | [] => true
  | e :: es => match edgeOk ls e with
    | true => allE ls es
    | false => false
def isQ : Op → Bool
  | .move _ | .assign _ | .nilCheck _ | .pick .. | .binOp .. | .unOp .. | .fieldAddr .. | .field .. | .indexAddr .. | .index .. | .extract .. | .makeFunc .. | .slice .. | .load .. | .build .. => true
  | .call { callee := .builtin .len, .. } | .call { callee := .builtin .cap, .. } | .call { callee := .builtin .max, .. } | .call { callee := .builtin .min, .. } => true
  | _ => false
def isQT (T : Tab) : Op → Bool
  | .convert _ d _ => match und T d with
    | some (.int _) => true
    | _ => false
  | o => isQ o
/-- what only reads, and no memory -/
def isFT (T : Tab) : Op → Bool
  | .load _ _ => false
  | o => isQT T o
def findQ (T : Tab) (ls0 : List Bool) : List Oper → List Bool → Nat → Option (Nat × Oper)
  | o :: os, b :: bs, i => match b with
    | true => findQ T ls0 os bs (i+1)
    | false => match allE ls0 o.after.toList with
      | true => match isQT T o.op with
        | true => some (i, o)
        | false => findQ T ls0 os bs (i+1)
      | false => findQ T ls0 os bs (i+1)
  | _, _, _ => none
def rdyF (ls0 : List Bool) : List Oper → List Bool → Nat → List (Nat × Oper)
  | o :: os, b :: bs, i => match b with
    | true => rdyF ls0 os bs (i+1)
    | false => match allE ls0 o.after.toList with
      | true => (i, o) :: rdyF ls0 os bs (i+1)
      | false => rdyF ls0 os bs (i+1)
  | _, _, _ => []
def hasE (es : List Edge) (k : Nat) : Bool :=
  match es with
  | [] => false
  | e :: es => match edgeOk [] e with
    | true => hasE es k
    | false => match Nat.beq e.on k with
      | true => true
      | false => hasE es k
def covB (o : Oper) (i : Nat) : Nat → Bool
  | 0 => true
  | k+1 => match Nat.beq k i with
    | true => covB o i k
    | false => match hasE o.after.toList k with
      | true => covB o i k
      | false => false
def covFB (T : Tab) (o : Oper) (i : Nat) : List Oper → Nat → Bool
  | [], _ => true
  | p :: ps, k => match Nat.beq k i with
    | true => covFB T o i ps (k+1)
    | false => match isFT T p.op with
      | true => covFB T o i ps (k+1)
      | false => match hasE o.after.toList k with
        | true => covFB T o i ps (k+1)
        | false => false
def conjK {α : Type} : List α → (α → Prop) → Prop
  | [], _ => True
  | [x], F => F x
  | x :: xs, F => F x ∧ conjK xs F

def markE : List Edge → List Bool → List Bool
  | [], st => st
  | e :: es, st => match edgeOk [] e with
    | true => markE es st
    | false => markE es (setB st e.on)
/-- the operations that those of st stand behind -/
def clo : List Oper → Nat → List Bool → List Bool
  | [], _, st => st
  | o :: os, i, st => match lkB (clo os (i+1) st) i with
    | true => markE o.after.toList (clo os (i+1) st)
    | false => clo os (i+1) st
def isLd (T : Tab) (o : Op) : Bool := match isFT T o with
  | true => false
  | false => isQT T o
def barF (T : Tab) (i : Nat) (st : List Bool) : List Oper → List Bool → Nat → Bool
  | o :: os, b :: bs, k => match b with
    | false => barF T i st os bs (k+1)
    | true => match isLd T o.op with
      | false => barF T i st os bs (k+1)
      | true => match Nat.beq k i with
        | true => barF T i st os bs (k+1)
        | false => match lkB st k with
          | true => barF T i st os bs (k+1)
          | false => false
  | _, _, _ => true
def barB (T : Tab) (all : List Oper) (ls : List Bool) (i : Nat) : Bool := barF T i (clo all 0 (setB (List.replicate all.length false) i)) all ls 0

def stepD (T : Tab) (P : Program) (all : List Oper) (K : Fr → World → Prop) (ih : (World → Prop) → List Bool → Fr → World → Prop) (S : World → Prop) (ls : List Bool) (fr : Fr) (w : World) : Prop :=
  match findQ T ls all ls 0 with
  | some (i, o) => match isFT T o.op with
    | true => guK all fr o.guard
      (fun fr => Qn T P (fun _ => True) o fr fun v => putK fr o.dst v fun fr => ih S (setB ls i) fr w)
      (fun fr => putK fr o.dst undef fun fr => ih S (setB ls i) fr w)
    | false => guK all fr o.guard
      (fun fr => Qn T P S o fr fun v => putK fr o.dst v fun fr => ih S (setB ls i) fr w)
      (fun fr => putK fr o.dst undef fun fr => ih S (setB ls i) fr w)
  | none => match rdyF ls all ls 0 with
    | [] => K fr w
    | x :: xs => conjK (x :: xs) fun io => guK all fr io.2.guard
      (fun fr => xv T P io.2 fr w fun v w' => putK fr io.2.dst v fun fr => match covB io.2 io.1 all.length with
        | true => K fr w'
        | false => match covFB T io.2 io.1 all 0 with
          | true => ih S (setB ls io.1) fr w'
          | false => match barB T all ls io.1 with
            | true => BarS (fun S => ih S (setB ls io.1) fr w') w'
            | false => AndS (S w') (ih S (setB ls io.1) fr w'))
      (fun fr => putK fr io.2.dst undef fun fr => match covB io.2 io.1 all.length with
        | true => K fr w
        | false => ih S (setB ls io.1) fr w)
noncomputable def XD (T : Tab) (P : Program) (S : World → Prop) (all : List Oper) (K : Fr → World → Prop) (n : Nat) : List Bool → Fr → World → Prop :=
  Nat.rec (motive := fun _ => (World → Prop) → List Bool → Fr → World → Prop)
    (fun _ ls fr w => match rdyF ls all ls 0 with
      | [] => K fr w
      | _ :: _ => Stk "open")
    (fun _ ih S ls fr w => stepD T P all K ih S ls fr w) n S

theorem lkB_ok : ∀ {ls : List Bool} {i : Nat}, lkB ls i = ls.toArray.getD i false
  | [], i => by simp [lkB]
  | b :: _, 0 => by simp [lkB]
  | b :: bs, n+1 => by have := lkB_ok (ls := bs) (i := n); simp [lkB, this]
theorem setB_ok : ∀ {ls : List Bool} {i : Nat}, (setB ls i).toArray = ls.toArray.setIfInBounds i true
  | [], i => by simp [setB]
  | b :: bs, 0 => by simp [setB]
  | b :: bs, n+1 => by have := setB_ok (ls := bs) (i := n); simp [setB] at this ⊢; exact this
theorem edgeOk_ok {ls : List Bool} {e : Edge} : edgeOk ls e = true ↔ (Region.binds .any e = true → ls.toArray.getD e.on false = true) := by
  unfold edgeOk Region.binds
  rw [← lkB_ok]
  cases e.ground <;> simp
theorem allE_ok {ls : List Bool} : ∀ {es : List Edge}, allE ls es = true ↔ ∀ e ∈ es, Region.binds .any e = true → ls.toArray.getD e.on false = true
  | [] => by simp [allE]
  | e :: es => by
    have := allE_ok (ls := ls) (es := es)
    unfold allE
    cases h : edgeOk ls e with
    | true => simp only [this, List.mem_cons, forall_eq_or_imp, edgeOk_ok.1 h]; exact ⟨fun h' => ⟨edgeOk_ok.1 h, h'⟩, fun h' => h'.2⟩
    | false =>
      simp only [List.mem_cons, forall_eq_or_imp, Bool.false_eq_true, false_iff]
      intro h'
      rw [edgeOk_ok.2 h'.1] at h
      cases h
theorem rdyF_cons (ls0 : List Bool) (o : Oper) (os : List Oper) (b : Bool) (bs : List Bool) (i : Nat) : rdyF ls0 (o :: os) (b :: bs) i = (match b with
    | true => rdyF ls0 os bs (i+1)
    | false => match allE ls0 o.after.toList with
      | true => (i, o) :: rdyF ls0 os bs (i+1)
      | false => rdyF ls0 os bs (i+1)) := by
  cases b <;> rfl
theorem rdyF_mem {ls0 : List Bool} : ∀ {os : List Oper} {bs : List Bool} {k i : Nat} {o : Oper}, (i, o) ∈ rdyF ls0 os bs k ↔ ∃ j, i = k + j ∧ os[j]? = some o ∧ bs[j]? = some false ∧ allE ls0 o.after.toList = true
  | [], bs, k, i, o => by simp [rdyF]
  | o' :: os, [], k, i, o => by simp [rdyF]
  | o' :: os, b :: bs, k, i, o => by
    have ih := rdyF_mem (ls0 := ls0) (os := os) (bs := bs) (k := k+1) (i := i) (o := o)
    have tail : (∃ j, i = k + 1 + j ∧ os[j]? = some o ∧ bs[j]? = some false ∧ allE ls0 o.after.toList = true) ↔ ∃ j, i = k + (j+1) ∧ (o' :: os)[j+1]? = some o ∧ (b :: bs)[j+1]? = some false ∧ allE ls0 o.after.toList = true := by
      constructor
      · rintro ⟨j, rfl, h⟩; exact ⟨j, by omega, by simpa using h⟩
      · rintro ⟨j, rfl, h⟩; exact ⟨j, by omega, by simpa using h⟩
    have split : (∃ j, i = k + j ∧ (o' :: os)[j]? = some o ∧ (b :: bs)[j]? = some false ∧ allE ls0 o.after.toList = true) ↔
        (i = k ∧ o' = o ∧ b = false ∧ allE ls0 o.after.toList = true) ∨ ∃ j, i = k + (j+1) ∧ (o' :: os)[j+1]? = some o ∧ (b :: bs)[j+1]? = some false ∧ allE ls0 o.after.toList = true := by
      constructor
      · rintro ⟨j, h1, h2, h3, h4⟩
        cases j with
        | zero => exact .inl ⟨by omega, by simpa using h2, by simpa using h3, h4⟩
        | succ j => exact .inr ⟨j, h1, h2, h3, h4⟩
      · rintro (⟨h1, h2, h3, h4⟩ | ⟨j, h⟩)
        · exact ⟨0, by omega, by simpa using h2, by simpa using h3, h4⟩
        · exact ⟨j+1, h⟩
    rw [split, ← tail, ← ih, rdyF_cons]
    cases b with
    | true => simp
    | false =>
      cases ha : allE ls0 o'.after.toList with
      | true =>
        simp only [List.mem_cons, Prod.mk.injEq]
        constructor
        · rintro (⟨rfl, rfl⟩ | h)
          · exact .inl ⟨rfl, rfl, trivial, ha⟩
          · exact .inr h
        · rintro (⟨rfl, rfl, _⟩ | h)
          · exact .inl ⟨rfl, rfl⟩
          · exact .inr h
      | false =>
        simp only
        constructor
        · exact .inr
        · rintro (⟨rfl, rfl, _, h⟩ | h)
          · rw [ha] at h; cases h
          · exact h
theorem findQ_mem {T : Tab} {ls0 : List Bool} : ∀ {os : List Oper} {bs : List Bool} {k : Nat} {io : Nat × Oper}, findQ T ls0 os bs k = some io → io ∈ rdyF ls0 os bs k ∧ isQT T io.2.op = true
  | [], bs, k, io, h => by simp [findQ] at h
  | o' :: os, [], k, io, h => by simp [findQ] at h
  | o' :: os, b :: bs, k, io, h => by
    unfold findQ at h
    rw [rdyF_cons]
    cases b with
    | true => exact findQ_mem (os := os) h
    | false =>
      simp only at h ⊢
      cases ha : allE ls0 o'.after.toList with
      | true =>
        simp only [ha] at h ⊢
        cases hq : isQT T o'.op with
        | true =>
          simp only [hq] at h
          cases h
          exact ⟨by simp, hq⟩
        | false =>
          simp only [hq] at h
          have := findQ_mem (os := os) h
          exact ⟨by simp [this.1], this.2⟩
      | false =>
        simp only [ha] at h ⊢
        exact findQ_mem (os := os) h
theorem ready_iff {all : List Oper} {ls : List Bool} {i : Nat} : i ∈ Region.ready .any all.toArray ls.toArray ↔ ∃ o, (i, o) ∈ rdyF ls all ls 0 := by
  rw [mem_ready]
  constructor
  · rintro ⟨h1, o, ho, hall⟩
    refine ⟨o, rdyF_mem.2 ⟨i, by omega, by simpa using ho, ?_, allE_ok.2 (fun e he => hall e (by simpa using he))⟩⟩
    rcases Nat.lt_or_ge i ls.length with h | h
    · simp [h] at h1
      simp [h, h1]
    · simp [List.getElem?_eq_none h] at h1
  · rintro ⟨o, h⟩
    obtain ⟨j, hj, h1, h2, h3⟩ := rdyF_mem.1 h
    have hj : i = j := by omega
    subst hj
    refine ⟨by simp [h2], o, by simpa using h1, fun e he => allE_ok.1 h3 e (by simpa using he)⟩
theorem hasE_ok {k : Nat} : ∀ {es : List Edge}, hasE es k = true → es.any (fun e => Region.binds .any e && e.on == k) = true
  | [], h => by simp [hasE] at h
  | e :: es, h => by
    unfold hasE at h
    cases h1 : edgeOk [] e with
    | true => simp only [h1] at h; simp [hasE_ok h]
    | false =>
      simp only [h1] at h
      cases h2 : Nat.beq e.on k with
      | true =>
        have hb : Region.binds .any e = true := by
          cases hb : Region.binds .any e with
          | true => rfl
          | false =>
            have : edgeOk [] e = true := edgeOk_ok.2 (fun h => by rw [hb] at h; cases h)
            rw [this] at h1; cases h1
        simp [hb, Nat.eq_of_beq_eq_true h2]
      | false => simp only [h2] at h; simp [hasE_ok h]
theorem covB_ok {o : Oper} {i : Nat} : ∀ {n : Nat}, covB o i n = true → ∀ k, k < n → k ≠ i → waitsB o k = true
  | 0, _, k, hk, _ => by omega
  | n+1, h, k, hk, hne => by
    unfold covB at h
    have base : covB o i n = true → (k = n → waitsB o k = true) → waitsB o k = true := by
      intro h1 h2
      rcases Nat.lt_or_ge k n with h3 | h3
      · exact covB_ok h1 k h3 hne
      · exact h2 (by omega)
    cases h1 : Nat.beq n i with
    | true =>
      simp only [h1] at h
      have := Nat.eq_of_beq_eq_true h1
      exact base h (fun e => by omega)
    | false =>
      simp only [h1] at h
      cases h2 : hasE o.after.toList n with
      | true =>
        simp only [h2] at h
        refine base h (fun e => ?_)
        subst e
        have := hasE_ok h2
        unfold waitsB
        rw [← Array.any_toList]
        exact this
      | false => simp only [h2] at h; cases h
theorem covFB_ok {T : Tab} {o : Oper} {i : Nat} : ∀ {l : List Oper} {k : Nat}, covFB T o i l k = true → ∀ j p, l[j]? = some p → k + j ≠ i → isFT T p.op = false → waitsB o (k + j) = true
  | [], k, _, j, p, hj, _, _ => by simp at hj
  | q :: ps, k, h, j, p, hj, hne, hf => by
    unfold covFB at h
    cases j with
    | zero =>
      simp only [List.getElem?_cons_zero, Option.some.injEq] at hj
      subst hj
      have h0 : Nat.beq k i = false := by
        cases hb : Nat.beq k i with
        | false => rfl
        | true => exact absurd (Nat.eq_of_beq_eq_true hb) (by omega)
      simp only [h0, hf] at h
      cases h2 : hasE o.after.toList k with
      | true =>
        have := hasE_ok h2
        unfold waitsB
        rw [← Array.any_toList]
        exact this
      | false => simp only [h2] at h; cases h
    | succ j =>
      have hrec : covFB T o i ps (k+1) = true := by
        cases hb : Nat.beq k i with
        | true => simp only [hb] at h; exact h
        | false =>
          simp only [hb] at h
          cases hq : isFT T q.op with
          | true => simp only [hq] at h; exact h
          | false =>
            simp only [hq] at h
            cases h2 : hasE o.after.toList k with
            | true => simp only [h2] at h; exact h
            | false => simp only [h2] at h; cases h
      have := covFB_ok hrec j p (by simpa using hj) (by omega) hf
      rw [show k + (j + 1) = k + 1 + j from by omega]
      exact this
theorem conjK_ok {α : Type} {F : α → Prop} : ∀ {l : List α}, conjK l F → ∀ x ∈ l, F x
  | [], _, x, hx => by cases hx
  | [y], h, x, hx => by simp at hx; subst hx; exact h
  | y :: z :: l, h, x, hx => by
    rcases List.mem_cons.1 hx with rfl | hx
    · exact h.1
    · exact conjK_ok h.2 x hx
theorem isQ_value {T : Tab} {P : Program} {o : Oper} {ρ : Operand → Value} {w w' : World} {n : Next} (h : isQT T o.op = true) (hr : (execOp ρ o).run P w = .ok n w') : ∃ v, n = .value v := by
  have key2 : ∀ {α : Type} {s : Sem α} {f : α → Value}, (do let a ← s; pure (Next.value (f a)) : Sem Next).run P w = .ok n w' → ∃ v, n = .value v := by
    intro α s f hs
    rw [Sem.run_bind] at hs
    cases hx : s.run P w with
    | ok a w1 => rw [hx] at hs; cases hs; exact ⟨f a, rfl⟩
    | halt x w1 => rw [hx] at hs; cases hs
  have key : ∀ {s : Sem Value}, (do pure (Next.value (← s)) : Sem Next).run P w = .ok n w' → ∃ v, n = .value v := fun hs => key2 (f := id) hs
  unfold execOp at hr
  cases ho : o.op <;> rw [ho] at h hr <;> simp only [isQT, isQ] at h <;> first
    | (cases h; done)
    | (cases hr; exact ⟨_, rfl⟩)
    | exact key hr
    | exact key2 hr
    | skip
  · rename_i x
    have hp : (runtimePanic .nilDeref : Sem Next).run P w = .ok n w' → ∃ v, n = .value v := by
      intro he
      have : (runtimePanic .nilDeref : Sem Next).run P w ≠ .ok n w' := by
        unfold runtimePanic
        rw [Sem.run_bind]
        have hpr : (Go.program).run P w = .ok P w := rfl
        rw [hpr]
        intro hc
        cases hc
      exact absurd he this
    simp only at hr
    split at hr
    · exact hp hr
    · exact hp hr
    · exact hp hr
    · split at hr
      · exact hp hr
      · rw [Sem.run_bind] at hr
        have hpr : (Go.program).run P w = .ok P w := rfl
        rw [hpr, Result.andThen_ok, Sem.run_bind] at hr
        rename_i t' w0 _
        revert hr
        generalize (nilAhead _ _ _ _ : Sem (Option Bool)).run P w = rr
        cases rr with
        | ok a w1 =>
          intro hr
          simp only [Result.andThen_ok] at hr
          split at hr
          · simp [unsupported, Sem.run, Sem.run_bind] at hr
          · cases hr; exact ⟨_, rfl⟩
        | halt x w1 => intro hr; cases hr
      · cases hr; exact ⟨_, rfl⟩
    · cases hr; exact ⟨_, rfl⟩
  rename_i c
  obtain ⟨callee, args, argTypes⟩ := c
  cases callee with
  | builtin b =>
    simp only [resolve] at hr
    cases b <;> simp only at h <;> first
      | (cases h; done)
      | exact key hr
  | _ => cases h

def freF (T : Tab) (all : List Oper) (k : Nat) : Bool := match all[k]? with
  | some o => isFT T o.op
  | none => true
def DoneF (T : Tab) (all : List Oper) (ls : List Bool) : Prop := ∀ k, freF T all k = false → ls.toArray.getD k false = true
section
variable {P : Program} {T : Tab} (hT : TabOk P T) {S : World → Prop} {all : List Oper} {ds : List Deferred} {Q : Exit → Act → World → Prop} (r : Option Nat) (n : Nat)
include hT
omit hT in
theorem DoneF.set {ls : List Bool} (h : DoneF T all ls) (i : Nat) : DoneF T all (setB ls i) := by
  intro k hk
  have h1 := h k hk
  rw [setB_ok]
  by_cases hki : k = i
  · subst hki
    rcases Nat.lt_or_ge k ls.toArray.size with hlt | hge
    · simp [Array.getD, hlt]
      simp at hlt
      simp [hlt]
    · simp [Array.getD] at h1
      simp at hge
      obtain ⟨hh, _⟩ := h1
      omega
  · rw [getD_set_ne false (Ne.symm hki)]
    exact h1
omit hT in
theorem lk_set {st : List Bool} {k m : Nat} (h : lkB (setB st k) m = true) : m = k ∨ lkB st m = true := by
  rw [lkB_ok, setB_ok] at h
  by_cases e : k = m
  · exact .inl e.symm
  · right
    rw [lkB_ok]
    exact getD_back e h
omit hT in
theorem markE_ok {ops : Array Oper} {j m : Nat} {o : Oper} (ho : ops[m]? = some o) (hm : m = j ∨ TW ops j m) : ∀ {es : List Edge} {st : List Bool}, (∀ e ∈ es, e ∈ o.after.toList) → (∀ k, lkB st k = true → k = j ∨ TW ops j k) → ∀ k, lkB (markE es st) k = true → k = j ∨ TW ops j k
  | [], st, _, h, k, hk => h k hk
  | e :: es, st, hs, h, k, hk => by
    unfold markE at hk
    split at hk
    · exact markE_ok ho hm (fun x hx => hs x (List.mem_cons_of_mem _ hx)) h k hk
    · rename_i he
      refine markE_ok ho hm (fun x hx => hs x (List.mem_cons_of_mem _ hx)) (fun k hk => ?_) k hk
      rcases lk_set hk with rfl | hk
      · right
        have hb : Region.binds .any e = true := by
          cases hbb : Region.binds .any e with
          | true => rfl
          | false => rw [edgeOk_ok.2 (fun h => by rw [hbb] at h; cases h)] at he; cases he
        have hw : waitsB o e.on = true := by
          unfold waitsB
          rw [← Array.any_toList, List.any_eq_true]
          exact ⟨e, hs e (by simp), by simp [hb]⟩
        rcases hm with rfl | hm
        · exact .one ho hw
        · exact .more hm ho hw
      · exact h k hk
omit hT in
theorem clo_ok {ops : Array Oper} {j : Nat} : ∀ {os : List Oper} {i : Nat} {st : List Bool}, (∀ m o, os[m]? = some o → ops[i + m]? = some o) → (∀ k, lkB st k = true → k = j ∨ TW ops j k) → ∀ k, lkB (clo os i st) k = true → k = j ∨ TW ops j k
  | [], i, st, _, h, k, hk => h k hk
  | o :: os, i, st, ho, h, k, hk => by
    have ih := clo_ok (ops := ops) (j := j) (os := os) (i := i + 1) (st := st) (fun m p hp => by rw [show i + 1 + m = i + (m + 1) from by omega]; exact ho (m + 1) p (by simpa using hp)) h
    unfold clo at hk
    split at hk
    · rename_i hl
      exact markE_ok (ho 0 o rfl) (ih i hl) (fun e he => he) ih k hk
    · exact ih k hk
def ldF (T : Tab) (all : List Oper) (k : Nat) : Bool := match all[k]? with
  | some o => isLd T o.op
  | none => false
omit hT in
theorem barF_ok {i : Nat} {st : List Bool} : ∀ {os : List Oper} {bs : List Bool} {k : Nat}, barF T i st os bs k = true → ∀ m o, os[m]? = some o → bs[m]? = some true → isLd T o.op = true → k + m ≠ i → lkB st (k + m) = true
  | [], _, _, _, m, o, h, _, _, _ => by simp at h
  | _ :: _, [], _, _, m, o, _, h, _, _ => by simp at h
  | p :: os, b :: bs, k, h, m, o, ho, hb, hl, hne => by
    have ih := barF_ok (i := i) (st := st) (os := os) (bs := bs) (k := k + 1)
    have key : barF T i st os bs (k+1) = true → m ≠ 0 → lkB st (k + m) = true := fun h hm => by
      obtain ⟨m, rfl⟩ : ∃ x, m = x + 1 := ⟨m - 1, by omega⟩
      have := ih h m o (by simpa using ho) (by simpa using hb) hl (by omega)
      rwa [show k + 1 + m = k + (m + 1) from by omega] at this
    unfold barF at h
    by_cases hm : m = 0
    · subst hm
      simp at ho hb
      subst ho
      subst hb
      simp only [hl] at h
      split at h
      · rename_i e
        exact absurd (Nat.eq_of_beq_eq_true e) (by omega)
      · split at h
        · rename_i e; exact e
        · cases h
    · split at h
      · exact key h hm
      · split at h
        · exact key h hm
        · split at h
          · exact key h hm
          · split at h
            · exact key h hm
            · cases h
omit hT in
theorem barB_ok {ls : List Bool} {i : Nat} (h : barB T all ls i = true) (hl : ls.length = all.length) : bar (ldF T all) all.toArray ls.toArray i := by
  intro k hk hld hne
  unfold ldF at hld
  split at hld
  · rename_i o ho
    have hkl : k < ls.length := by
      have := (List.getElem?_eq_some_iff.1 ho).1
      omega
    have hb : ls[k]? = some true := by
      simp [hkl] at hk
      rw [List.getElem?_eq_getElem hkl, hk]
    have h1 := barF_ok h k o ho hb hld (by omega)
    rw [Nat.zero_add] at h1
    have h2 := clo_ok (ops := all.toArray) (j := i) (os := all) (i := 0) (st := setB (List.replicate all.length false) i) (fun m o hm => by simpa using hm) (fun k hk => by
      rcases lk_set hk with h | h
      · exact .inl h
      · rw [lkB_ok] at h
        simp [Array.getD] at h) k h1
    exact h2.resolve_left hne
  · cases hld
theorem XD_ok (hn : noDS all.toArray = true) (hA : apartD all.toArray = true) (hQp : ∀ c a w, ¬ Q (.panic c) a w) {K : Fr → World → Prop} (hK : ∀ fr w, K fr w → Q .normal ⟨fr.toArray, ds⟩ w) :
    ∀ (fuel : Nat) (S : World → Prop) (ls : List Bool) (fr : Fr) (w : World), ls.length = all.length → Closed all.toArray ls.toArray → (S w ∨ DoneF T all ls) → XD T P S all K fuel ls fr w → AnyS (freF T all) (ldF T all) P r n all.toArray Q S fuel ls.toArray ⟨fr.toArray, ds⟩ w := by
  intro fuel
  induction fuel with
  | zero =>
    intro S ls fr w hl hcl hS h
    replace h : (match rdyF ls all ls 0 with
      | [] => K fr w
      | _ :: _ => Stk "open") := h
    split at h
    · rename_i he
      refine AnyS.done ?_ (hK _ _ h) S 0
      rw [List.eq_nil_iff_forall_not_mem]
      intro i hi
      obtain ⟨o, ho⟩ := ready_iff.1 hi
      rw [he] at ho
      cases ho
    · exact h.elim
  | succ fuel ih =>
    intro S ls fr w hl hcl hS h
    have hlen : ∀ i, (setB ls i).length = all.length := by
      intro i
      rw [← hl]
      have := congrArg Array.size (setB_ok (ls := ls) (i := i))
      simpa using this
    replace h : stepD T P all K (fun S => XD T P S all K fuel) S ls fr w := h
    have hcs : ∀ i, i ∈ Region.ready .any all.toArray ls.toArray → Closed all.toArray (setB ls i).toArray := fun i hi => by rw [setB_ok]; exact hcl.add hi
    unfold stepD at h
    split at h
    · -- what only reads
      rename_i i o hf
      obtain ⟨hm, hq⟩ := findQ_mem hf
      have hr : i ∈ Region.ready .any all.toArray ls.toArray := ready_iff.2 ⟨o, hm⟩
      obtain ⟨j, hj, hoi, _, _⟩ := rdyF_mem.1 hm
      have hj : i = j := by omega
      subst hj
      have hoi' : all.toArray[i]? = some o := by simpa using hoi
      have hL : S w ∨ DoneF T all (setB ls i) := hS.imp id fun h => h.set i
      cases hfr : isFT T o.op with
      | true =>
        simp only [hfr] at h
        rcases guK_ok h with ⟨hw, h1⟩ | ⟨hw, h1⟩
        · obtain ⟨v, hv, hk⟩ := h1.out
          have h2 := ih _ _ _ _ (hlen i) (hcs i hr) hL (putK_ok hk)
          refine AnyS.firstF (oi := o) (v := v) hn hA hoi' (fun c a w hp => (hQp c _ w hp).elim) fuel S ls.toArray _ w hr ?_ ?_
          · refine .inl ⟨hw, fun w' hS' => ?_⟩
            rw [eval_eq]
            obtain ⟨x, w'', hr', hx⟩ := (xv_ok hT (hv w' hS')).1.run
            obtain ⟨u, rfl⟩ := isQ_value hq hr'
            obtain ⟨rfl, rfl⟩ := hx
            exact hr'
          · rw [put_eq, ← setB_ok]
            exact h2
        · have h2 := ih _ _ _ _ (hlen i) (hcs i hr) hL (putK_ok h1)
          refine AnyS.firstF (oi := o) (v := undef) hn hA hoi' (fun c a w hp => (hQp c _ w hp).elim) fuel S ls.toArray _ w hr (.inr ⟨hw, rfl⟩) ?_
          rw [put_eq, ← setB_ok]
          exact h2
      | false =>
        simp only [hfr] at h
        have hfi : freF T all i = false := by
          unfold freF
          rw [hoi]
          exact hfr
        have hldi : ldF T all i = true := by
          unfold ldF
          rw [hoi]
          simp only [isLd, hfr]
          exact hq
        have hSw : S w := by
          rcases hS with h | h
          · exact h
          · exact (not_both (h i hfi) (unlisted hr)).elim
        rcases guK_ok h with ⟨hw, h1⟩ | ⟨hw, h1⟩
        · obtain ⟨v, hv, hk⟩ := h1.out
          have h2 := ih _ _ _ _ (hlen i) (hcs i hr) hL (putK_ok hk)
          refine AnyS.first (oi := o) (v := v) hn hA hoi' hfi hldi (fun c a w hp => (hQp c _ w hp).elim) fuel ls.toArray _ w hcl hr ?_ hSw ?_
          · refine .inl ⟨hw, fun w' hS' => ?_⟩
            rw [eval_eq]
            obtain ⟨x, w'', hr', hx⟩ := (xv_ok hT (hv w' hS')).1.run
            obtain ⟨u, rfl⟩ := isQ_value hq hr'
            obtain ⟨rfl, rfl⟩ := hx
            exact hr'
          · rw [put_eq, ← setB_ok]
            exact h2
        · have h2 := ih _ _ _ _ (hlen i) (hcs i hr) hL (putK_ok h1)
          refine AnyS.first (oi := o) (v := undef) hn hA hoi' hfi hldi (fun c a w hp => (hQp c _ w hp).elim) fuel ls.toArray _ w hcl hr (.inr ⟨hw, rfl⟩) hSw ?_
          rw [put_eq, ← setB_ok]
          exact h2
    · split at h
      · rename_i he
        refine AnyS.done ?_ (hK _ _ h) S _
        rw [List.eq_nil_iff_forall_not_mem]
        intro i hi
        obtain ⟨o, ho⟩ := ready_iff.1 hi
        rw [he] at ho
        cases ho
      · rename_i x xs he
        refine ⟨fun h0 => ?_, fun i hi => ?_⟩
        · have : x.1 ∈ Region.ready .any all.toArray ls.toArray := ready_iff.2 ⟨x.2, by rw [he]; simp⟩
          rw [h0] at this
          cases this
        · obtain ⟨o, hm⟩ := ready_iff.1 hi
          have h1 := conjK_ok h (i, o) (by rw [← he]; exact hm)
          simp only at h1
          obtain ⟨j, hj, hoi, _, _⟩ := rdyF_mem.1 hm
          have hj : i = j := by omega
          subst hj
          have hoi' : all.toArray[i]? = some o := by simpa using hoi
          have hdone : covB o i all.length = true → cov (freF T all) all.toArray i ∧ Region.ready .any all.toArray (ls.toArray.setIfInBounds i true) = [] := by
            intro hc
            have hw := covB_ok hc
            refine ⟨fun oj hoj k hk hne _ => ?_, ?_⟩
            · rw [hoi'] at hoj
              cases hoj
              exact hw k (by simpa using hk) hne
            · rw [List.eq_nil_iff_forall_not_mem]
              intro k hk
              have hu := unlisted hk
              obtain ⟨_, ok, hok, _⟩ := mem_ready.1 hk
              have hklt : k < all.length := by simpa using (Array.getElem?_eq_some_iff.1 hok).1
              by_cases hki : k = i
              · subst hki
                have hk2 : k < ls.length := by omega
                simp at hu
                rw [List.getElem?_set_self hk2] at hu
                cases hu
              · rw [getD_set_ne true (Ne.symm hki)] at hu
                exact not_both (waits_listed hi hoi' (hw k hklt hki)) hu
          unfold wpOpIn
          rw [hoi']
          simp only
          rcases guK_ok h1 with ⟨hw, h2⟩ | ⟨hw, h2⟩
          · simp only [hw, if_true]
            obtain ⟨h3, hd⟩ := xv_ok hT h2
            refine wpIn_of_semW r n hd (h3.mono fun x w' hx => hx.mono fun v w'' hv => ?_)
            have h4 := putK_ok hv
            split at h4
            · rename_i hc
              obtain ⟨hc1, hc2⟩ := hdone hc
              exact .inl ⟨.inl hc1, AnyS.done hc2 (hK _ _ h4) S fuel⟩
            · split at h4
              · rename_i hcf
                have hwt := covFB_ok hcf
                refine .inl ⟨.inl fun oj hoj k hk hne hfk => ?_, ?_⟩
                · rw [hoi'] at hoj
                  cases hoj
                  have hk' : k < all.length := by simpa using hk
                  have hf2 : isFT T all[k].op = false := by
                    unfold freF at hfk
                    rw [List.getElem?_eq_getElem hk'] at hfk
                    exact hfk
                  have := hwt k all[k] (List.getElem?_eq_getElem hk') (by omega) hf2
                  rwa [Nat.zero_add] at this
                · rw [← setB_ok]
                  refine ih _ _ _ _ (hlen i) (hcs i hi) (.inr fun k hfk => ?_) h4
                  rw [setB_ok]
                  by_cases hki : k = i
                  · subst hki
                    have hk2 : k < ls.length := by
                      have : k < all.length := (List.getElem?_eq_some_iff.1 hoi).1
                      omega
                    simp [Array.getD, hk2]
                  · rw [getD_set_ne false (Ne.symm hki)]
                    have hk' : k < all.length := by
                      rcases Nat.lt_or_ge k all.length with h | h
                      · exact h
                      · unfold freF at hfk
                        rw [List.getElem?_eq_none h] at hfk
                        cases hfk
                    have hf2 : isFT T all[k].op = false := by
                      unfold freF at hfk
                      rw [List.getElem?_eq_getElem hk'] at hfk
                      exact hfk
                    have := hwt k all[k] (List.getElem?_eq_getElem hk') (by omega) hf2
                    rw [Nat.zero_add] at this
                    exact waits_listed hi hoi' this
              · split at h4
                · rename_i hbar
                  obtain ⟨S', hS', h5⟩ := h4.out
                  refine .inr ⟨barB_ok hbar hl, S', ?_⟩
                  rw [← setB_ok]
                  exact ih _ _ _ _ (hlen i) (hcs i hi) (.inl hS') h5
                · refine .inl ⟨.inr (.inl h4.left), ?_⟩
                  rw [← setB_ok]
                  exact ih _ _ _ _ (hlen i) (hcs i hi) (.inl h4.left) h4.right
          · simp only [hw, Bool.false_eq_true, if_false]
            refine ⟨fun _ _ => trivial, ?_⟩
            rw [put_eq]
            have h4 := putK_ok h2
            split at h4
            · rename_i hc
              obtain ⟨hc1, hc2⟩ := hdone hc
              exact .inl ⟨.inl hc1, AnyS.done hc2 (hK _ _ h4) S fuel⟩
            · refine .inl ⟨.inr (.inr trivial), ?_⟩
              rw [← setB_ok]
              exact ih _ _ _ _ (hlen i) (hcs i hi) (hS.imp id fun h => h.set i) h4

/-- **A region whose order is open.** L: the blocks that all of it leaves alone, but for an operation that comes behind all others. -/
theorem draw_s {id : Nat} {ops : Array Oper} {Q : Post} {fr : Fr} {w w0 : World} {M : List Nat} {L : LM} (hm : P.follows .mixedOrders = true) (hn : noDS ops = true) (hA : apartD ops = true) (hS : St M w0 w L)
    (h : ∀ w', St M w0 w' L → XD T P (fun w'' => St M w0 w'' L) ops.toList (fun fr w => Q .normal fr ds w) ops.toList.length (List.replicate ops.toList.length false) fr w') : Wp P r (.region id ops true) Q fr ds w := by
  refine .of fun n => ?_
  have hS' : St M w0 { w with drawn := w.drawn + 1 } L := hS.drew _
  have h1 := XD_ok (ds := ds) (Q := fun e a w => liftQ Q e a w ∧ ∀ c, e ≠ .panic c) hT r n (by simpa using hn) (by simpa using hA) (by rintro c a w ⟨_, hp⟩; exact hp c rfl)
    (K := fun fr w => Q .normal fr ds w) (fun fr w hk => ⟨⟨fr, ds, rfl, hk⟩, by intro c e; cases e⟩) ops.toList.length _ (List.replicate ops.toList.length false) fr { w with drawn := w.drawn + 1 } (by simp) (by intro m o hm; simp [Array.getD] at hm) (.inl hS') (h _ hS')
  have h2 := AnyS.any _ _ _ _ _ h1
  have h3 := wpIn_region_any (id := id) (ops := ops) hm (by simpa using h2)
  exact wpIn_mono h3 fun e a w hq => hq.1
end

theorem bar_i {F : (World → Prop) → Prop} {S : World → Prop} {w : World} (a : S w) (b : F S) : BarS F w := ⟨⟨S, a, b⟩⟩
theorem q_i {T : Tab} {P : Program} {S : World → Prop} {o : Oper} {fr : Fr} {K : Value → Prop} {v : Value} (h : ∀ w, S w → xv T P o fr w fun v' w' => v' = v ∧ w' = w) (k : K v) : Qn T P S o fr K := ⟨⟨v, h, k⟩⟩

end Go.RV
