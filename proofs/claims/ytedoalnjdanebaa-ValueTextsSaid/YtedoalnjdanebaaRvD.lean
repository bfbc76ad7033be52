/- The executor: operations, regions, code. Conditions: none. -/
import Derived.Test.YtedoalnjdanebaaRvC
set_option linter.unusedVariables false
set_option linter.unusedSimpArgs false
namespace Go.RV
open Go

structure Ix (a : Option Addr) (K : Nat → Nat → Prop) : Prop where
  out : ∃ b off, a = some ⟨b, off, none⟩ ∧ K b off

/-- the address of a part of a slice -/
def sliA (a : Option Addr) (m l size : Nat) : Option Addr := if m = l then a else a.map (·.add (l * size))

theorem add_none (b off n : Nat) : (⟨b, off, none⟩ : Addr).add n = ⟨b, off + n, none⟩ := by
  unfold Addr.add
  split
  · rename_i h; subst h; rfl
  · rfl
theorem sliA_zero (a : Option Addr) (m n : Nat) : sliA a m 0 n = a := by
  unfold sliA
  split
  · rfl
  · cases a <;> simp [Addr.add]

/-- a bound of a slice expression -/
def bndK (fr : Fr) (x : Option Operand) (d y : Nat) (K : Nat → Prop) : Prop :=
  match x with
  | none => K d
  | some o => evK fr o fun v => match v with
    | .int _ i => Bd (0 ≤ i ∧ i ≤ y) (K i.toNat)
    | _ => Stk "a bound"

def isAggD : TypeDesc → Bool
  | .struct _ | .array _ _ => true
  | _ => false

def loadK (T : Tab) (t : Nat) (a : Addr) (w : World) (K : Value → Prop) : Prop :=
  match und T t with
  | some d => match isAggD d with
    | true => match tsz T t with
      | some n => LdN w a n fun cs => K (.agg cs.toArray)
      | none => Stk "size"
    | false => Ld w a K
  | none => Stk "type"

def fieldK (T : Tab) (f : Field) (cs : List Value) (K : Value → Prop) : Prop :=
  match und T f.type with
  | some d => match isAggD d with
    | true => match tsz T f.type with
      | some n => K (.agg ((cs.drop f.offset).take n).toArray)
      | none => Stk "size"
    | false => match cs[f.offset]? with
      | some v => K v
      | none => Stk "field"
  | none => Stk "type"

def cvK (P : Program) (fv : Value) (args : List Value) (w : World) (K : Value → World → Prop) : Prop :=
  match fv with
  | .func (.func g) first cap => appK args cap.toList fun xs => appK first.toList xs fun ys => Fc P g ys w K
  | fv => Cv P fv args w K
theorem cv_i {P : Program} {fv : Value} {args : List Value} {w : World} {K : Value → World → Prop} (h : Cv P fv args w K) : cvK P fv args w K := by
  unfold cvK
  split
  · exact appK_i (appK_i (Cv.to_fc h))
  · exact h

def callK (T : Tab) (P : Program) (o : Oper) (c : Call) (fr : Fr) (w : World) (K : Value → World → Prop) : Prop :=
  match c.callee with
  | .value f => evK fr f fun fv => evsK fr c.args.toList fun args => cvK P fv args w K
  | .builtin .len => evsK fr c.args.toList fun args => match args with
    | [.string s] => match (c.argTypes[0]?).bind (und T) with
      | some .string => K (.int .i64 s.size) w
      | _ => Stk "len"
    | [.slice _ n _] => match (c.argTypes[0]?).bind (und T) with
      | some (.slice _) => K (.int .i64 n) w
      | _ => Stk "len"
    | args => SemN P (Builtin.len_ c.argTypes o.type args.toArray) w K
  | .builtin .cap => evsK fr c.args.toList fun args => match args with
    | [.slice _ _ n] => match (c.argTypes[0]?).bind (und T) with
      | some (.slice _) => K (.int .i64 n) w
      | _ => Stk "cap"
    | args => SemN P (Builtin.cap_ c.argTypes o.type args.toArray) w K
  | .builtin .max => evsK fr c.args.toList fun args => match args with
    | [.int k a, .int _ b] => K (.int k (max a b)) w
    | args => SemN P (Builtin.max_ c.argTypes o.type args.toArray) w K
  | .builtin .min => evsK fr c.args.toList fun args => match args with
    | [.int k a, .int _ b] => K (.int k (min a b)) w
    | args => SemN P (Builtin.min_ c.argTypes o.type args.toArray) w K
  | .builtin .append => evsK fr c.args.toList fun args => SemN P (Builtin.append_ c.argTypes o.type args.toArray) w K
  | .builtin .copy => evsK fr c.args.toList fun args => SemN P (Builtin.copy_ c.argTypes o.type args.toArray) w K
  | _ => SemN P (execOp (evL fr) o) w (NextW P K)

/-- one operation -/
def xv (T : Tab) (P : Program) (o : Oper) (fr : Fr) (w : World) (K : Value → World → Prop) : Prop :=
  match o.op with
  | .move x => evK fr x fun v => K v w
  | .assign x => evK fr x fun v => K v w
  | .pick c a b => evK fr c fun cv => match cv with
    | .bool t => brK t (evK fr a fun v => K v w) (evK fr b fun v => K v w)
    | _ => Stk "pick"
  | .alloc e => match tzero T e with
    | some z => vcK z fun cs => Nw w (.cells cs.toArray e) fun b w => K (.pointer (some ⟨b, 0, none⟩)) w
    | none => Stk "zero"
  | .box e x => evK fr x fun v => vcK v fun cs => Nw w (.cells cs.toArray e) fun b w => K (.pointer (some ⟨b, 0, none⟩)) w
  | .build t parts => partsK fr parts.toList fun ps => match tzero T t with
    | some z => vcK z fun zs => match und T t with
      | some (.struct fs) => placesK T fs.toList fun pl => bldK (lkP pl) ps zs fun cs => K (.agg cs.toArray) w
      | some (.array _ e) => match tsz T e with
        | some n => bldK (fun i => some (i * n, n)) ps zs fun cs => K (.agg cs.toArray) w
        | none => Stk "size"
      | _ => Stk "build"
    | none => Stk "zero"
  | .buildSlice t len parts => partsK fr parts.toList fun ps => match und T t with
    | some (.slice e) => match tsz T e with
      | some n => match tzero T e with
        | some z => vcK z fun zs => lenK zs n (leK (len * n) 100000 (match n with
          | 0 => Stk "an element without cells"
          | _ => repK len zs fun cs => bldK (fun i => some (i * n, n)) ps cs fun cs => Nw w (.cells cs.toArray e) fun b w => K (.slice (some ⟨b, 0, none⟩) len len) w))
        | none => Stk "zero"
      | none => Stk "size"
    | _ => Stk "slice"
  | .load t a => evK fr a fun av => match av with
    | .pointer (some a) => loadK T t a w fun v => K v w
    | _ => Stk "load: no address"
  | .store t a x => evK fr a fun av => evK fr x fun v => match av with
    | .pointer (some a) => match tsz T t with
      | some n => vcK v fun cs => lenK cs n (StN P w a cs fun w => K undef w)
      | none => Stk "size"
    | _ => Stk "store: no address"
  | .nilCheck x => evK fr x fun v => match v with
    | .pointer (some a) => K (.pointer (some a)) w
    | v => SemN P (execOp (evL fr) o) w (NextW P K)
  | .binOp op xt x y _ => evK fr x fun a => evK fr y fun b => binK T P op xt x y a b w K
  | .unOp op _ x => evK fr x fun v => match op, v with
    | .not, .bool b => K (.bool (!b)) w
    | .neg, .int k n => K (.int k (k.wrap (0 - n))) w
    | op, v => SemN P (Op.unary op v) w K
  | .convert src dst x => evK fr x fun v => match v with
    | .int k n => match und T src, und T dst with
      | some (.int _), some (.int k') => K (.int k' (k'.wrap n)) w
      | _, _ => SemN P (convert src dst v) w K
    | v => SemN P (convert src dst v) w K
  | .makeFunc fn first cap => evsK fr first.toList fun xs => evsK fr cap.toList fun ys => K (.func fn xs.toArray ys.toArray) w
  | .slice t x lo hi mx => evK fr x fun v => match und T t, v with
    | some .string, .string s => match mx with
      | none => bndK fr hi s.size s.size fun h => bndK fr lo 0 h fun l => K (.string (s.extract l h)) w
      | some _ => Stk "slice"
    | some (.slice e), .slice a len cap => match tsz T e with
      | some n => match hi, mx with
        | none, some _ => Stk "slice"
        | _, _ => bndK fr mx cap cap fun m => bndK fr hi len m fun h => match lo with
          | none => K (.slice a h m) w
          | some lo => bndK fr (some lo) 0 h fun l => K (.slice (sliA a m l n) (h - l) (m - l)) w
      | none => Stk "size"
    | _, v => SemN P (execOp (evL fr) o) w (NextW P K)
  | .fieldAddr s x f => evK fr x fun v => match v with
    | .pointer (some ⟨b, off, none⟩) => match und T s with
      | some (.struct fs) => match lkF fs.toList f with
        | some fd => match tsz T fd.type with
          | some (_+1) => match fd.offset with
            | 0 => K (.pointer (some ⟨b, off, none⟩)) w
            | n+1 => K (.pointer (some ⟨b, off + (n+1), none⟩)) w
          | _ => Stk "fieldAddr: size"
        | none => Stk "fieldAddr: field"
      | _ => Stk "fieldAddr: struct"
    | _ => Stk "fieldAddr: no address"
  | .field t x f => evK fr x fun v => match v with
    | .agg cs => match und T t with
      | some (.struct fs) => match lkF fs.toList f with
        | some fd => fieldK T fd cs.toList fun v => K v w
        | none => Stk "field"
      | _ => Stk "field"
    | _ => Stk "field"
  | .indexAddr t x ix => evK fr x fun v => evK fr ix fun iv => match iv with
    | .int _ i => match und T t, v with
      | some (.array len e), .pointer (some ⟨b, off, none⟩) => match tsz T e with
        | some n => Bd (0 ≤ i ∧ i < len) (K (.pointer (some ⟨b, off + i.toNat * n, none⟩)) w)
        | none => Stk "size"
      | some (.slice e), .slice a len cap => match tsz T e with
        | some n => Bd (0 ≤ i ∧ i < len) (Ix a (fun b off => K (.pointer (some ⟨b, off + i.toNat * n, none⟩)) w))
        | none => Stk "size"
      | _, _ => Stk "indexAddr"
    | _ => Stk "index"
  | .index t x ix => evK fr x fun v => evK fr ix fun iv => match iv with
    | .int _ i => match und T t, v with
      | some .string, .string s => Bd (0 ≤ i ∧ i < s.size) (K (.int .u8 (byteAt s i.toNat)) w)
      | _, _ => SemN P (Instr.index t v iv) w K
    | _ => Stk "index"
  | .extract x i => evK fr x fun v => match v with
    | .tuple vs => match vs.toList[i]? with
      | some v => K v w
      | none => Stk "extract"
    | _ => Stk "extract"
  | .call c => callK T P o c fr w K
  | .defer _ => Stk "defer"
  | _ => SemN P (execOp (evL fr) o) w (NextW P K)

section sound
variable {P : Program} {T : Tab} (hT : TabOk P T)

theorem sv {w : World} {s : Sem Value} {K : Value → World → Prop} (h : SemW P s w K) : SemW P (do pure (Next.value (← s))) w (NextW P K) :=
  SemW.bind (h.mono fun a w' h => SemW.pure h)
theorem su {w : World} {s : Sem Unit} {K : Value → World → Prop} (h : SemW P s w fun _ w' => K undef w') : SemW P (do s; pure Next.skip) w (NextW P K) :=
  SemW.bind (h.mono fun a w' h => SemW.pure h)
theorem bndK_ok {fr : Fr} {x : Option Operand} {d y : Nat} {K : Nat → Prop} (h : bndK fr x d y K) :
    match x with | none => K d | some o => ∃ k i, evL fr o = .int k i ∧ 0 ≤ i ∧ i ≤ y ∧ K i.toNat := by
  cases x with
  | none => exact h
  | some o =>
    have h1 := evK_ok h
    simp only at h1 ⊢
    split at h1
    · rename_i k i he
      obtain ⟨⟨h2, h3⟩, h4⟩ := h1.out
      exact ⟨k, i, he, h2, h3, h4⟩
    · exact h1.elim
theorem run_sliceBound {w : World} {k : IntKind} {i : Int} {y : Nat} {c : BoundsCode} (h0 : 0 ≤ i) (h1 : i ≤ y) : (Instr.sliceBound (.int k i) y c).run P w = .ok i.toNat w := by
  simp [Instr.sliceBound, asIntOf, h0, h1]

include hT in
theorem run_isAgg_ok {t : Nat} {d : TypeDesc} (h : und T t = some d) (w : World) : (isAgg t).run P w = .ok (isAggD d) w := by
  unfold isAgg
  rw [Sem.run_bind, run_underlying_ok hT h]
  cases d <;> rfl

theorem run_load_ok {w : World} {a : Addr} {v : Value} (h : w.cell? a = some v) : (load a).run P w = .ok v w := by
  simp [load, Sem.run, h]
theorem run_loadCellsFrom {w : World} {a : Addr} : ∀ (vs : List Value) (i : Nat) (acc : Array Value), (∀ j, j < vs.length → w.cell? (a.add (i + j)) = vs[j]?) →
    (loadCellsFrom a i vs.length acc).run P w = .ok (acc ++ vs.toArray) w
  | [], i, acc, _ => by simp [loadCellsFrom]
  | v :: vs, i, acc, h => by
    have h0 : w.cell? (a.add i) = some v := by simpa using h 0 (by simp)
    have hr := run_loadCellsFrom vs (i+1) (acc.push v) (fun j hj => by have := h (j+1) (by simpa using hj); rw [show i + 1 + j = i + (j + 1) by omega]; simpa using this)
    simp only [List.length_cons, loadCellsFrom, Sem.run_bind, run_load_ok h0, Result.andThen_ok, hr]
    congr 1
    apply Array.ext'
    simp
include hT in
theorem loadK_ok {t : Nat} {a : Addr} {w : World} {K : Value → World → Prop} (h : loadK T t a w fun v => K v w) : SemW P (loadVar t a) w K := by
  unfold loadK at h
  split at h
  · rename_i d hd
    have hA := run_isAgg_ok hT hd w
    split at h
    · rename_i hag
      split at h
      · rename_i n hn
        replace h := h.out
        obtain ⟨vs, hl, hc, hk⟩ := h
        refine .of_run ?_ hk
        unfold loadVar
        rw [Sem.run_bind, hA, hag]
        simp only [Result.andThen_ok, if_true, Sem.run_bind, run_sizeOf_ok hT hn, loadCells]
        rw [← hl, run_loadCellsFrom vs 0 #[] (fun j hj => by rw [Nat.zero_add]; exact hc j (by omega))]
        simp
      · exact h.elim
    · rename_i hag
      replace h := h.out
      obtain ⟨v, hv, hk⟩ := h
      refine .of_run ?_ hk
      unfold loadVar
      rw [Sem.run_bind, hA, hag]
      simp only [Result.andThen_ok, Bool.false_eq_true, if_false]
      exact run_load_ok hv
  · exact h.elim
include hT in
theorem fieldK_ok {f : Field} {cs : Array Value} {w : World} {K : Value → World → Prop} (h : fieldK T f cs.toList fun v => K v w) : SemW P (part f.type cs f.offset) w K := by
  unfold fieldK at h
  split at h
  · rename_i d hd
    have hA := run_isAgg_ok hT hd w
    split at h
    · rename_i hag
      split at h
      · rename_i n hn
        refine .of_run ?_ h
        unfold part
        rw [Sem.run_bind, hA, hag]
        simp only [Result.andThen_ok, if_true, Sem.run_bind, run_sizeOf_ok hT hn, Sem.run_pure]
        congr 2
        apply Array.ext'
        simp [List.take_drop, Nat.add_comm]
      · exact h.elim
    · rename_i hag
      split at h
      · rename_i v hv
        refine .of_run ?_ h
        unfold part
        rw [Sem.run_bind, hA, hag]
        have hv' : cs[f.offset]? = some v := by simpa using hv
        simp [hv']
      · exact h.elim
  · exact h.elim
end sound

end Go.RV
