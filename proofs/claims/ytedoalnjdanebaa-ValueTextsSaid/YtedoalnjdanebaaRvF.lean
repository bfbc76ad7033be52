/- The executor: regions and code; a function's contract from its body. Conditions: none. -/
import Derived.Test.YtedoalnjdanebaaRvE
set_option linter.unusedVariables false
set_option linter.unusedSimpArgs false
namespace Go.RV
open Go

theorem stepR_scope {P : Program} {b : Frame} {a : Act} {k : List Item} {cs : List Frame} {w : World} {c : Code} : step P (lone (b.atR a (.code (.scope c) :: k)) cs w) = .next (lone (b.atR a (.code c :: .inScope c :: k)) cs w) :=
  step_lone_go (by simp [stepG, stepG.exec, Frame.atR])
theorem stepR_inScope {P : Program} {b : Frame} {a : Act} {k : List Item} {cs : List Frame} {w : World} {c : Code} : step P (lone (b.atR a (.inScope c :: k)) cs w) = .next (lone (b.atR a k) cs w) :=
  step_lone_go (by simp [stepG, stepG.exec, Frame.atR])
def noGotoQ (Q : Exit → Act → World → Prop) : Exit → Act → World → Prop
  | .goto _, _, _ => False
  | e, a, w => Q e a w
theorem wpIn_scope {F : Fence} {n : Nat} {P : Program} {Q : Exit → Act → World → Prop} {a : Act} {w : World} {c : Code} (h : c.wpIn F n P (noGotoQ Q) a w) : (Code.scope c).wpIn F n P Q a w := by
  intro b k cs hro hb hr
  have h0 : (lone (b.atR a (.code (.scope c) :: k)) cs w).fenced P F := fenced_calm hb hr rfl
  obtain ⟨e, a₁, w₁, hq, harr⟩ := h b (.inScope c :: k) cs hro hb hr
  cases e with
  | normal => exact ⟨.normal, a₁, w₁, hq, .head h0 stepR_scope (StepsIn.trans harr (.one (fenced_calm hb hr rfl) stepR_inScope))⟩
  | exit id =>
    have hx : exitTo id (.inScope c :: k) = exitTo id k := by simp [exitTo]
    exact ⟨.exit id, a₁, w₁, hq, fun k' hk => .head h0 stepR_scope (harr.1 k' (by rw [hx]; exact hk)),
      fun hr' hk => let ⟨k₁, h1, h2⟩ := harr.2 hr' (by rw [hx]; exact hk); ⟨k₁, h1, .head h0 stepR_scope h2⟩⟩
  | goto l => exact hq.elim
  | ret => exact ⟨_, a₁, w₁, hq, .of_steps (.one h0 stepR_scope) harr⟩
  | panic ch => exact ⟨_, a₁, w₁, hq, .of_steps (.one h0 stepR_scope) harr⟩
  | outgrown => exact ⟨_, a₁, w₁, hq, .of_steps (.one h0 stepR_scope) harr⟩
/-- an operation's guard: whether it runs -/
def guK (all : List Oper) (fr : Fr) (g : Option (Nat × Bool)) (A B : Fr → Prop) : Prop :=
  match g with
  | none => A fr
  | some (j, want) => match lkOp all j with
    | some oj => match oj.dst with
      | some d => getK fr d fun v => match v with
        | .bool b => brK b
            (setK fr d (.bool true) fun fr => match want with | true => A fr | false => B fr)
            (setK fr d (.bool false) fun fr => match want with | true => B fr | false => A fr)
        | _ => B fr
      | none => Stk "guard"
    | none => Stk "guard"

/- by the recursors themselves: what is left of the code stands in one and the same form, for the elaborator and for the kernel -/
noncomputable def xops (T : Tab) (P : Program) (all : List Oper) (os : List Oper) : Fr → World → (Fr → World → Prop) → Prop :=
  List.rec (motive := fun _ => Fr → World → (Fr → World → Prop) → Prop) (fun fr w K => K fr w)
    (fun o _ ih fr w K => guK all fr o.guard
      (fun fr => xv T P o fr w fun v w => putK fr o.dst v fun fr => ih fr w K)
      (fun fr => putK fr o.dst undef fun fr => ih fr w K)) os
theorem xops_cons (T : Tab) (P : Program) (all : List Oper) (o : Oper) (os : List Oper) (fr : Fr) (w : World) (K : Fr → World → Prop) : xops T P all (o :: os) fr w K = guK all fr o.guard
      (fun fr => xv T P o fr w fun v w => putK fr o.dst v fun fr => xops T P all os fr w K)
      (fun fr => putK fr o.dst undef fun fr => xops T P all os fr w K) := rfl

def liftQ (Q : Post) : Exit → Act → World → Prop := fun e a w => ∃ fr ds, a = ⟨fr.toArray, ds⟩ ∧ Q e fr ds w

/-- a piece of code, in the model's own words -/
structure Wp (P : Program) (r : Option Nat) (c : Code) (Q : Post) (fr : Fr) (ds : List Deferred) (w : World) : Prop where
  out : ∀ n, c.wpIn (FR r) n P (liftQ Q) ⟨fr.toArray, ds⟩ w

theorem Wp.of {P : Program} {r : Option Nat} {c : Code} {Q : Post} {fr : Fr} {ds : List Deferred} {w : World} (h : ∀ n, c.wpIn (FR r) n P (liftQ Q) ⟨fr.toArray, ds⟩ w) : Wp P r c Q fr ds w := by
  refine ⟨?_⟩; exact h

def thenQ (K : Fr → List Deferred → World → Prop) (Q : Post) : Post := fun e fr ds w => match e with
  | .normal => K fr ds w
  | e => Q e fr ds w
def scopeQ (Q : Post) : Post := fun e fr ds w => match e with
  | .goto _ => Stk "goto"
  | e => Q e fr ds w
def blockQ (id : Nat) (Q : Post) : Post := fun e fr ds w => match e with
  | .normal => Q .normal fr ds w
  | .exit j => match Nat.beq j id with
    | true => Q .normal fr ds w
    | false => Q (.exit j) fr ds w
  | e => Q e fr ds w
def condX (fr : Fr) (c : Operand) (A B : Fr → Prop) : Prop :=
  match c with
  | .tmp t => getK fr t fun v => match v with
    | .bool t' => brK t' (setK fr t (.bool true) A) (setK fr t (.bool false) B)
    | _ => Stk "cond"
  | .const v => match v with
    | .bool t' => brK t' (A fr) (B fr)
    | _ => Stk "cond"
  | _ => Stk "cond"
noncomputable def X (T : Tab) (P : Program) (r : Option Nat) (c : Code) : Post → Fr → List Deferred → World → Prop :=
  Code.rec (motive := fun _ => Post → Fr → List Deferred → World → Prop)
    (fun Q fr ds w => Q .normal fr ds w)
    (fun id ops draw Q fr ds w => match draw with
      | false => xops T P ops.toList ops.toList fr w fun fr w => Q .normal fr ds w
      | true => Wp P r (.region id ops true) Q fr ds w)
    (fun _ _ iha ihb Q fr ds w => iha (thenQ (fun fr ds w => ihb Q fr ds w) Q) fr ds w)
    (fun c _ _ iha ihb Q fr ds w => condX fr c (fun fr => iha Q fr ds w) (fun fr => ihb Q fr ds w))
    (fun id _ ih Q fr ds w => ih (blockQ id Q) fr ds w)
    (fun c _ Q fr ds w => Wp P r (.loop c) Q fr ds w)
    (fun g ps asg body _ _ Q fr ds w => Wp P r (.rangeFunc g ps asg body) Q fr ds w)
    (fun id Q fr ds w => Q (.exit id) fr ds w)
    (fun _ ih Q fr ds w => ih (scopeQ Q) fr ds w)
    (fun _ Q fr ds w => Q .normal fr ds w)
    (fun l Q fr ds w => Q (.goto l) fr ds w)
    (fun Q fr ds w => Q .ret fr ds w)
    (fun _ _ _ _ _ => Stk "refused") c

theorem set_same {fr : Fr} {d : Nat} {v : Value} (h : fr.getD d undef = v) (hv : v ≠ undef) : fr.set d v = fr := by
  apply List.ext_getElem?
  intro i
  rw [List.getElem?_set]
  split
  · rename_i e
    subst e
    rw [List.getD_eq_getElem?_getD] at h
    cases hg : fr[d]? with
    | none => rw [hg] at h; exact absurd h.symm hv
    | some u =>
      rw [hg] at h
      simp only [Option.getD_some] at h
      have : d < fr.length := by
        rcases Nat.lt_or_ge d fr.length with h | h
        · exact h
        · simp [List.getElem?_eq_none h] at hg
      simp [this, h]
  · rfl

theorem bool_ne_undef (b : Bool) : Value.bool b ≠ undef := by
  unfold undef
  intro h
  cases h

theorem guK_ok {all : List Oper} {fr : Fr} {o : Oper} {A B : Fr → Prop} (h : guK all fr o.guard A B) :
    (Region.wanted o (yielded all.toArray fr.toArray) = true ∧ A fr) ∨ (Region.wanted o (yielded all.toArray fr.toArray) = false ∧ B fr) := by
  unfold guK at h
  unfold Region.wanted
  cases hg : o.guard with
  | none => rw [hg] at h; exact .inl ⟨rfl, h⟩
  | some x =>
    obtain ⟨j, want⟩ := x
    rw [hg] at h
    simp only at h ⊢
    split at h
    · rename_i oj hj
      split at h
      · rename_i d hd
        have h1 := getK_ok h
        split at h1
        · rename_i b hb
          have hy : yielded all.toArray fr.toArray j = some b := by
            unfold yielded
            rw [lkOp_ok] at hj
            have hb' : fr[d]? = some (.bool b) := by
              rw [List.getD_eq_getElem?_getD] at hb
              cases hx : fr[d]? with
              | none => rw [hx] at hb; exact absurd hb.symm (bool_ne_undef b)
              | some u => rw [hx] at hb; simpa using hb
            simp [hj, hd, hb']
          rw [hy]
          refine brK_ok h1 ?_ ?_
          · intro hbt h2
            subst hbt
            have h3 := setK_ok h2
            rw [set_same hb (bool_ne_undef _)] at h3
            cases want
            · exact .inr ⟨rfl, h3⟩
            · exact .inl ⟨rfl, h3⟩
          · intro hbt h2
            subst hbt
            have h3 := setK_ok h2
            rw [set_same hb (bool_ne_undef _)] at h3
            cases want
            · exact .inl ⟨rfl, h3⟩
            · exact .inr ⟨rfl, h3⟩
        · rename_i hne
          refine .inr ⟨?_, h1⟩
          have hy : yielded all.toArray fr.toArray j = none := by
            unfold yielded
            rw [lkOp_ok] at hj
            have hall : all.toArray[j]? = some oj := by simpa using hj
            simp only [hall, Option.bind_some, hd]
            split
            · rename_i b hb
              exfalso
              refine hne b ?_
              have hb' : fr[d]? = some (.bool b) := by simpa using hb
              rw [List.getD_eq_getElem?_getD, hb']
              rfl
            · rfl
          rw [hy]
          rfl
      · exact h.elim
    · exact h.elim

section sound
variable {P : Program} {T : Tab} (hT : TabOk P T)
include hT
theorem xops_ok {all : List Oper} {ds : List Deferred} {Q : Exit → Act → World → Prop} (r : Option Nat) (n : Nat) : ∀ {os : List Oper} {fr : Fr} {w : World} {K : Fr → World → Prop}, xops T P all os fr w K →
    (∀ fr w, K fr w → Q .normal ⟨fr.toArray, ds⟩ w) → wpListIn (FR r) n P all.toArray Q os ⟨fr.toArray, ds⟩ w
  | [], fr, w, K, h, hq => hq _ _ h
  | o :: os, fr, w, K, h, hq => by
    rw [xops_cons] at h
    unfold wpListIn
    rcases guK_ok h with ⟨hw, h1⟩ | ⟨hw, h1⟩
    · simp only [hw, if_true]
      obtain ⟨h2, hd⟩ := xv_ok hT h1
      refine wpIn_of_semW r n hd (h2.mono fun x w' hx => hx.mono fun v w'' hv => ?_)
      exact xops_ok r n (putK_ok hv) hq
    · simp only [hw, Bool.false_eq_true, if_false]
      refine ⟨fun f _ => trivial, ?_⟩
      rw [put_eq]
      exact xops_ok r n (putK_ok h1) hq

/-- **The executor is sound.** -/
theorem X_ok (r : Option Nat) : ∀ (c : Code) {Q : Post} {fr : Fr} {ds : List Deferred} {w : World}, X T P r c Q fr ds w → Wp P r c Q fr ds w := by
  intro c
  induction c with
  | skip => intro Q fr ds w h; exact .of fun n => wpIn_skip ⟨fr, ds, rfl, h⟩
  | region id ops draw =>
    intro Q fr ds w h
    cases draw with
    | true => exact h
    | false =>
      refine .of fun n => wpIn_region_list ?_
      have h1 : xops T P ops.toList ops.toList fr w fun fr w => Q .normal fr ds w := h
      have h2 := xops_ok (ds := ds) (Q := liftQ Q) hT r n h1 (fun fr w hk => ⟨fr, ds, rfl, hk⟩)
      simpa using h2
  | seq a b iha ihb =>
    intro Q fr ds w h
    refine .of fun n => wpIn_seq ?_
    have h0 : X T P r a (thenQ (fun fr ds w => X T P r b Q fr ds w) Q) fr ds w := h
    have h1 := (iha h0).out n
    refine wpIn_mono h1 ?_
    rintro e a' w' ⟨fr', ds', rfl, hq⟩
    cases e with
    | normal => exact (ihb hq).out n
    | _ => exact ⟨fr', ds', rfl, hq⟩
  | cond c a b iha ihb =>
    intro Q fr ds w h
    replace h : condX fr c (fun fr => X T P r a Q fr ds w) (fun fr => X T P r b Q fr ds w) := h
    unfold condX at h
    cases c with
    | tmp t =>
      have h2 := getK_ok h
      split at h2
      · rename_i t' ht
        have hev : (Act.mk fr.toArray ds).eval (.tmp t) = .bool t' := by rw [eval_eq]; exact ht
        refine brK_ok h2 ?_ ?_
        · intro hb h3
          subst hb
          have h4 := setK_ok h3
          rw [set_same ht (bool_ne_undef _)] at h4
          exact .of fun n => wpIn_cond_true hev ((iha h4).out n)
        · intro hb h3
          subst hb
          have h4 := setK_ok h3
          rw [set_same ht (bool_ne_undef _)] at h4
          exact .of fun n => wpIn_cond_false hev ((ihb h4).out n)
      · exact h2.elim
    | const v =>
      simp only at h
      split at h
      · refine brK_ok h ?_ ?_
        · intro hb h3
          subst hb
          exact .of fun n => wpIn_cond_true rfl ((iha h3).out n)
        · intro hb h3
          subst hb
          exact .of fun n => wpIn_cond_false rfl ((ihb h3).out n)
      · exact h.elim
    | global g => exact Stk.elim h
    | func f => exact Stk.elim h
  | block id c ih =>
    intro Q fr ds w h
    refine .of fun n => wpIn_block ?_
    have h0 : X T P r c (blockQ id Q) fr ds w := h
    refine wpIn_mono ((ih h0).out n) ?_
    rintro e a' w' ⟨fr', ds', rfl, hq⟩
    cases e with
    | normal => exact ⟨fr', ds', rfl, hq⟩
    | exit j =>
      simp only [Exit.inBlock]
      simp only [blockQ] at hq
      split at hq
      · rename_i hb
        rw [if_pos (Nat.eq_of_beq_eq_true hb)]
        exact ⟨fr', ds', rfl, hq⟩
      · rename_i hb
        rw [if_neg (Nat.ne_of_beq_eq_false hb)]
        exact ⟨fr', ds', rfl, hq⟩
    | _ => exact ⟨fr', ds', rfl, hq⟩
  | loop c ih => intro Q fr ds w h; exact h
  | rangeFunc g ps asg body iha ihb => intro Q fr ds w h; exact h
  | exit id => intro Q fr ds w h; exact .of fun n => wpIn_exit ⟨fr, ds, rfl, h⟩
  | scope c ih =>
    intro Q fr ds w h
    refine .of fun n => wpIn_scope ?_
    have h0 : X T P r c (scopeQ Q) fr ds w := h
    refine wpIn_mono ((ih h0).out n) ?_
    rintro e a' w' ⟨fr', ds', rfl, hq⟩
    cases e with
    | goto l => exact Stk.elim hq
    | _ => exact ⟨fr', ds', rfl, hq⟩
  | label l => intro Q fr ds w h; exact .of fun n => wpIn_label ⟨fr, ds, rfl, h⟩
  | goto l => intro Q fr ds w h; exact .of fun n => wpIn_goto ⟨fr, ds, rfl, h⟩
  | ret => intro Q fr ds w h; exact .of fun n => wpIn_ret ⟨fr, ds, rfl, h⟩
  | refuse why => intro Q fr ds w h; exact Stk.elim h
end sound

end Go.RV
