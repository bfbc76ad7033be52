/- The executor's step: one operation of a loaded function, and that it is sound. Conditions: none. -/
import Derived.Test.YtedoalnjdanebaaRvB
set_option linter.unusedVariables false
set_option linter.unusedSimpArgs false
namespace Go.RV
open Go

/-- lists, forced -/
def lenK : List Value → Nat → Prop → Prop
  | [], 0, K => K
  | _ :: xs, n+1, K => lenK xs n K
  | _, _, _ => Stk "length"
def setsK : List Value → Nat → List Value → (List Value → Prop) → Prop
  | cells, _, [], K => K cells
  | cells, off, v :: vs, K => setK cells off v fun cells => setsK cells (off+1) vs K
def setsL : List Value → Nat → List Value → List Value
  | cells, _, [] => cells
  | cells, off, v :: vs => setsL (cells.set off v) (off+1) vs
def lkF : List Field → Nat → Option Field
  | [], _ => none
  | f :: _, 0 => some f
  | _ :: fs, n+1 => lkF fs n
def vcK (v : Value) (K : List Value → Prop) : Prop :=
  match v with
  | .agg cs => K cs.toList
  | v => K [v]
def leK : Nat → Nat → Prop → Prop   -- the first is at most the second
  | 0, _, K => K
  | n+1, m+1, K => leK n m K
  | _+1, 0, _ => Stk "size"
def repK : Nat → List Value → (List Value → Prop) → Prop
  | 0, _, K => K []
  | n+1, zs, K => repK n zs fun ys => appK zs ys K
def bldK (place : Nat → Option (Nat × Nat)) : List (Nat × Value) → List Value → (List Value → Prop) → Prop
  | [], cells, K => K cells
  | (i, v) :: rest, cells, K => match place i with
    | some (off, n) => vcK v fun cs => lenK cs n (leK (off + n) cells.length (setsK cells off cs fun cells => bldK place rest cells K))
    | none => Stk "no such part"
def lkP : List (Nat × Nat) → Nat → Option (Nat × Nat)
  | [], _ => none
  | f :: _, 0 => some f
  | _ :: fs, n+1 => lkP fs n
def placesK (T : Tab) : List Field → (List (Nat × Nat) → Prop) → Prop
  | [], K => K []
  | f :: fs, K => match tsz T f.type with
    | some n => placesK T fs fun ps => K ((f.offset, n) :: ps)
    | none => Stk "size"
def partsK (fr : Fr) : List (Nat × Operand) → (List (Nat × Value) → Prop) → Prop
  | [], K => K []
  | (i, o) :: os, K => evK fr o fun v => partsK fr os fun vs => K ((i, v) :: vs)

theorem lenK_ok {K : Prop} : ∀ {l : List Value} {n : Nat}, lenK l n K → l.length = n ∧ K
  | [], 0, h => ⟨rfl, h⟩
  | _ :: xs, n+1, h => by have := lenK_ok (l := xs) (n := n) h; exact ⟨by simp [this.1], this.2⟩
  | [], n+1, h => by unfold lenK at h; exact h.elim
  | _ :: _, 0, h => by unfold lenK at h; exact h.elim
theorem lenK_i {K : Prop} : ∀ {l : List Value} {n : Nat}, l.length = n → K → lenK l n K
  | [], 0, _, h => h
  | _ :: xs, n+1, e, h => lenK_i (l := xs) (n := n) (by simpa using e) h
theorem leK_ok {K : Prop} : ∀ {n m : Nat}, leK n m K → n ≤ m ∧ K
  | 0, _, h => ⟨Nat.zero_le _, by simpa [leK] using h⟩
  | n+1, m+1, h => by have := leK_ok (n := n) (m := m) h; exact ⟨by omega, this.2⟩
  | _+1, 0, h => by unfold leK at h; exact h.elim
theorem leK_i {K : Prop} : ∀ {n m : Nat}, n ≤ m → K → leK n m K
  | 0, _, _, h => by simpa [leK] using h
  | n+1, m+1, e, h => leK_i (n := n) (m := m) (by omega) h
  | _+1, 0, e, _ => by omega
theorem setK_i {v : Value} : ∀ {fr : Fr} {n : Nat} {K : Fr → Prop}, K (fr.set n v) → setK fr n v K
  | [], _, _, h => h
  | _ :: _, 0, _, h => h
  | _ :: xs, n+1, _, h => setK_i (fr := xs) (n := n) h
theorem setsK_ok {K : List Value → Prop} : ∀ {vs cells : List Value} {off : Nat}, setsK cells off vs K → K (setsL cells off vs)
  | [], _, _, h => by simpa [setsK, setsL] using h
  | v :: vs, cells, off, h => by
    have h1 : setsK (cells.set off v) (off+1) vs K := setK_ok (K := fun cells => setsK cells (off+1) vs K) (by simpa [setsK] using h)
    exact setsK_ok (vs := vs) (K := K) h1
theorem setsK_i {K : List Value → Prop} : ∀ {vs cells : List Value} {off : Nat}, K (setsL cells off vs) → setsK cells off vs K
  | [], _, _, h => by simpa [setsK, setsL] using h
  | v :: vs, cells, off, h => by
    simp only [setsK]
    exact setK_i (setsK_i h)
theorem lkF_ok : ∀ {l : List Field} {n : Nat}, lkF l n = l[n]?
  | [], _ => rfl
  | _ :: _, 0 => rfl
  | _ :: os, n+1 => by simpa [lkF] using lkF_ok (l := os) (n := n)
theorem lkP_ok : ∀ {l : List (Nat × Nat)} {n : Nat}, lkP l n = l[n]?
  | [], _ => rfl
  | _ :: _, 0 => rfl
  | _ :: os, n+1 => by simpa [lkP] using lkP_ok (l := os) (n := n)
theorem placesK_ok {P : Program} {T : Tab} (hT : TabOk P T) (w : World) : ∀ {fs : List Field} {K : List (Nat × Nat) → Prop}, placesK T fs K →
    ∃ ps, (fs.mapM (fun f : Field => do pure (f.offset, ← sizeOf f.type)) : Sem (List (Nat × Nat))).run P w = .ok ps w ∧ K ps
  | [], K, h => ⟨[], rfl, h⟩
  | f :: fs, K, h => by
    unfold placesK at h
    split at h
    · rename_i n hn
      obtain ⟨ps, hr, hk⟩ := placesK_ok hT w h
      refine ⟨(f.offset, n) :: ps, ?_, hk⟩
      simp only [List.mapM_cons, Sem.run_bind, run_sizeOf_ok hT hn, Result.andThen_ok, Sem.run_pure, hr]
    · exact h.elim
theorem vcK_ok {v : Value} {K : List Value → Prop} (h : vcK v K) : K v.cells.toList := by
  cases v <;> exact h
theorem repK_ok {zs : List Value} : ∀ {n : Nat} {K : List Value → Prop}, repK n zs K → K (List.replicate n zs).flatten
  | 0, _, h => by simpa [repK] using h
  | n+1, K, h => by
    have h1 := repK_ok (n := n) (K := fun ys => appK zs ys K) h
    have h2 := appK_ok h1
    simpa [List.replicate_succ] using h2
theorem setsL_length : ∀ (vs cells : List Value) (off : Nat), (setsL cells off vs).length = cells.length
  | [], _, _ => rfl
  | v :: vs, cells, off => by simp [setsL, setsL_length vs]
theorem foldl_sets (vs : List Value) : ∀ (k off : Nat) (cells : List Value),
    (vs.zipIdx k).foldl (fun (cs : Array Value) (x : Value × Nat) => cs.setIfInBounds (off + x.2) x.1) cells.toArray = (setsL cells (off + k) vs).toArray := by
  induction vs with
  | nil => intro k off cells; rfl
  | cons v vs ih =>
    intro k off cells
    simp only [List.zipIdx_cons, List.foldl_cons, List.setIfInBounds_toArray, setsL]
    rw [ih (k+1) off (cells.set (off + k) v)]
    rfl
theorem fill_ok {place : Nat → Option (Nat × Nat)} : ∀ {parts : List (Nat × Value)} {cells : List Value} {K : List Value → Prop}, bldK place parts cells K →
    ∃ out, Instr.fill place cells.toArray parts = some out.toArray ∧ K out
  | [], cells, K, h => ⟨cells, rfl, h⟩
  | (i, v) :: rest, cells, K, h => by
    unfold bldK at h
    cases hp : place i with
    | none => rw [hp] at h; exact h.elim
    | some x =>
      obtain ⟨off, n⟩ := x
      rw [hp] at h
      have h1 := vcK_ok h
      obtain ⟨hl, h2⟩ := lenK_ok h1
      obtain ⟨hle, h3⟩ := leK_ok h2
      have h4 := setsK_ok h3
      obtain ⟨out, ho, hk⟩ := fill_ok h4
      refine ⟨out, ?_, hk⟩
      unfold Instr.fill
      rw [hp]
      have hs : v.cells.size = n := by simpa using hl
      have hc : ¬ (v.cells.size ≠ n || decide (off + v.cells.size > cells.toArray.size)) = true := by
        simp only [hs, ne_eq, not_true_eq_false, decide_false, Bool.false_or, List.size_toArray, gt_iff_lt, decide_eq_true_eq]
        omega
      simp only [hc, if_false]
      have hf := foldl_sets v.cells.toList 0 off cells
      rw [← ho]
      congr 1
      rw [← Array.foldl_toList, Array.toList_zipIdx]
      have hf' : List.foldl (fun (cs : Array Value) (x : Value × Nat) => cs.setIfInBounds (off + x.2) x.1) cells.toArray v.cells.toList.zipIdx = (setsL cells off v.cells.toList).toArray := by simpa using hf
      exact congrArg (fun z => Instr.fill place z rest) hf'
theorem partsK_ok {fr : Fr} : ∀ {ps : List (Nat × Operand)} {K : List (Nat × Value) → Prop}, partsK fr ps K → K (ps.map fun (i, o) => (i, evL fr o))
  | [], _, h => h
  | (i, o) :: os, K, h => by
    have h1 : partsK fr os fun vs => K ((i, evL fr o) :: vs) := evK_ok (K := fun v => partsK fr os fun vs => K ((i, v) :: vs)) h
    exact partsK_ok (K := fun vs => K ((i, evL fr o) :: vs)) h1

end Go.RV
