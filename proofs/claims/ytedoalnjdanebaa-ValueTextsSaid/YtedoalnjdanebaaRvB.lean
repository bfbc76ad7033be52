/- The executor's operations, and that each is sound. Conditions: none. -/
import Derived.Test.YtedoalnjdanebaaRvA
import Derived.Laws.StructEq
import Derived.Laws.Small
import Derived.Laws.Entries
import Derived.Laws.Strings
set_option linter.unusedVariables false
set_option linter.unusedSimpArgs false
namespace Go.RV
open Go

/-- numbers -/
def bAnd (k : IntKind) (m n : Int) : Int := k.wrap ((BitVec.ofInt k.bits m &&& BitVec.ofInt k.bits n).toNat : Int)
def bOr (k : IntKind) (m n : Int) : Int := k.wrap ((BitVec.ofInt k.bits m ||| BitVec.ofInt k.bits n).toNat : Int)
def bXor (k : IntKind) (m n : Int) : Int := k.wrap ((BitVec.ofInt k.bits m ^^^ BitVec.ofInt k.bits n).toNat : Int)
def bAndNot (k : IntKind) (m n : Int) : Int := k.wrap ((BitVec.ofInt k.bits m &&& ~~~ BitVec.ofInt k.bits n).toNat : Int)
def bShl (k : IntKind) (m n : Int) : Int := k.wrap (m * 2 ^ (min n.toNat k.bits))
def bShr (k : IntKind) (m n : Int) : Int := m.fdiv (2 ^ (min n.toNat k.bits))
def keq (a b : IntKind) : Bool := decide (a = b)
theorem keq_ok {a b : IntKind} (h : keq a b = true) : a = b := by simpa [keq] using h
def byteAt (s : ByteArray) (i : Nat) : Int := ((s.data.toList.getD i 0).toNat : Int)
def streq (a b : ByteArray) : Bool := a.toList == b.toList

def arK (op : BinOp) (k : IntKind) (m n : Int) (K : Value → Prop) : Prop :=
  match op with
  | .add => K (.int k (k.wrap (m + n)))
  | .sub => K (.int k (k.wrap (m - n)))
  | .mul => K (.int k (k.wrap (m * n)))
  | .quo => Bd (n ≠ 0) (K (.int k (k.wrap (m.tdiv n))))
  | .rem => Bd (n ≠ 0) (K (.int k (m.tmod n)))
  | .and => K (.int k (bAnd k m n))
  | .or => K (.int k (bOr k m n))
  | .xor => K (.int k (bXor k m n))
  | .andNot => K (.int k (bAndNot k m n))
  | .eql => K (.bool (m == n))
  | .neq => K (.bool (m != n))
  | .lss => K (.bool (decide (m < n)))
  | .leq => K (.bool (decide (m ≤ n)))
  | .gtr => K (.bool (decide (n < m)))
  | .geq => K (.bool (decide (n ≤ m)))
  | .shl => Bd (0 ≤ n) (K (.int k (bShl k m n)))
  | .shr => Bd (0 ≤ n) (K (.int k (bShr k m n)))

def isShift : BinOp → Bool
  | .shl | .shr => true
  | _ => false

def strK (op : BinOp) (s t : ByteArray) (K : Value → Prop) : Prop :=
  match op with
  | .add => Bd (s.size + t.size ≤ 9223372036854775807) (K (.string (s ++ t)))
  | .eql => K (.bool (streq s t))
  | .neq => K (.bool (!streq s t))
  | .lss => K (.bool (Op.bytesLess s.toList t.toList))
  | .geq => K (.bool (!Op.bytesLess s.toList t.toList))
  | _ => Stk "a string operation"

theorem arK_ok {P : Program} {op : BinOp} {xt : Nat} {k k' : IntKind} {m n : Int} {w : World} {K : Value → World → Prop} (hk : isShift op = true ∨ k = k')
    (h : arK op k m n fun v => K v w) : SemW P (binOp op xt (.int k m) (.int k' n)) w K := by
  cases op <;> simp only [arK] at h <;> (try have hk : k = k' := by simpa [isShift] using hk) <;> (try subst hk) <;> (try simp only [binOp, ne_eq, not_true_eq_false, if_false, Op.intArith, Op.intCmp, Op.intBits, Op.intDiv, Op.shift])
  all_goals first
    | exact h
    | (obtain ⟨hn, h⟩ := h.out; simp only [hn, if_false]; exact h)
    | (obtain ⟨hn, h⟩ := h.out; simp only [show ¬ n < 0 by omega, if_false]; exact h)
theorem strK_ok {P : Program} {op : BinOp} {xt : Nat} {s t : ByteArray} {w : World} {K : Value → World → Prop}
    (h : strK op s t fun v => K v w) : SemW P (binOp op xt (.string s) (.string t)) w K := by
  cases op <;> simp only [strK] at h <;> first
    | exact h.elim
    | (simp only [binOp, Op.stringOp]; first | exact h | skip)
  obtain ⟨hn, h⟩ := h.out
  rw [if_neg (by simp only [IntKind.max, IntKind.bits]; simp [IntKind.signed]; omega)]
  exact h

/-- '==' where it is asked of what is no number and no string -/
def eqK (T : Tab) (xt : Nat) (cx : Bool) (a b : Value) (K : Bool → Prop) (E : Prop) : Prop :=
  match a, b with
  | .bool x, .bool y => match und T xt with | some .bool => K (x == y) | _ => Stk "=="
  | .pointer none, .pointer y => match und T xt with | some (.pointer _) => K y.isNone | _ => Stk "=="
  | .pointer (some _), .pointer none => match und T xt with | some (.pointer _) => K false | _ => Stk "=="
  | .nilIface, .nilIface => match cx with
    | true => (match und T xt with | some (.interface _) => K true | _ => Stk "==")
    | false => Stk "=="
  | .nilIface, .iface _ _ => match und T xt with | some (.interface _) => K false | _ => Stk "=="
  | .iface _ _, .nilIface => match und T xt with | some (.interface _) => K false | _ => Stk "=="
  | .slice none _ _, .slice y _ _ => match und T xt with | some (.slice _) => K y.isNone | _ => Stk "=="
  | .slice (some _) _ _, .slice none _ _ => match und T xt with | some (.slice _) => K false | _ => Stk "=="
  | .nilFunc, .nilFunc => match und T xt with | some (.func _ _ _) => K true | _ => Stk "=="
  | .func _ _ _, .nilFunc => match und T xt with | some (.func _ _ _) => K false | _ => Stk "=="
  | .nilFunc, .func _ _ _ => match und T xt with | some (.func _ _ _) => K false | _ => Stk "=="
  | _, _ => E

def isConstO : Operand → Bool
  | .const _ => true
  | _ => false

def binK (T : Tab) (P : Program) (op : BinOp) (xt : Nat) (x y : Operand) (a b : Value) (w : World) (K : Value → World → Prop) : Prop :=
  match a, b with
  | .int k m, .int k' n => match isShift op with
    | true => arK op k m n fun v => K v w
    | false => match keq k k' with
      | true => arK op k m n fun v => K v w
      | false => Stk "kinds"
  | .string s, .string t => strK op s t fun v => K v w
  | a, b => match op with
    | .eql => eqK T xt (isConstO x || isConstO y) a b (fun r => K (.bool r) w) (SemN P (do eqGuard .eql xt x y a b; binOp .eql xt a b) w K)
    | .neq => eqK T xt (isConstO x || isConstO y) a b (fun r => K (.bool (!r)) w) (SemN P (do eqGuard .neq xt x y a b; binOp .neq xt a b) w K)
    | op => SemN P (do eqGuard op xt x y a b; binOp op xt a b) w K

theorem run_equalIn_of {P : Program} {T : Tab} (hT : TabOk P T) {xt : Nat} {cx : Bool} {a b : Value} {w : World} {K : Bool → Prop} {E : Prop} (d : Nat) (h : eqK T xt cx a b K E) :
    E ∨ ∃ r, K r ∧ (Op.equalIn (d + 1) xt a b).run P w = .ok r w := by
  unfold eqK at h
  split at h <;> (try (exact .inl h)) <;> right
  all_goals first
    | (split at h <;> first | (exact h.elim) | (rename_i hu; refine ⟨_, h, ?_⟩; have hu' := run_underlying_ok hT hu w; simp only [Op.equalIn, Sem.run_bind, hu', Result.andThen_ok]; rfl))
    | (split at h
       · split at h
         · rename_i hu
           refine ⟨_, h, ?_⟩
           have hu' := run_underlying_ok hT hu w
           simp only [Op.equalIn, Sem.run_bind, hu', Result.andThen_ok]
           rfl
         · exact h.elim
       · exact h.elim)
theorem run_eqGuard_of {P : Program} {T : Tab} {xt : Nat} {x y : Operand} {a b : Value} {w : World} {K : Bool → Prop} {E : Prop} (op : BinOp) (h : eqK T xt (isConstO x || isConstO y) a b K E) :
    E ∨ (eqGuard op xt x y a b).run P w = .ok () w := by
  unfold eqK at h
  split at h <;> (try (exact .inl h)) <;> right
  all_goals first
    | (cases op <;> rfl)
    | skip
  split at h
  · rename_i hc
    cases x <;> cases y <;> simp only [isConstO, Bool.or_false, Bool.false_or, Bool.or_true, Bool.true_or, Bool.false_eq_true] at hc <;> cases op <;> rfl
  · exact h.elim
theorem run_equal_of {P : Program} {T : Tab} (hT : TabOk P T) {xt : Nat} {cx : Bool} {a b : Value} {w : World} {K : Bool → Prop} {E : Prop} (h : eqK T xt cx a b K E) :
    E ∨ ∃ r, K r ∧ (Op.equal xt a b).run P w = .ok r w := run_equalIn_of hT 9999 h
theorem run_bin_of {P : Program} {T : Tab} (hT : TabOk P T) {xt : Nat} {cx : Bool} {a b : Value} {w : World} {K : Bool → Prop} {E : Prop} (h : eqK T xt cx a b K E) :
    E ∨ ∃ r, K r ∧ (binOp .eql xt a b).run P w = .ok (.bool r) w ∧ (binOp .neq xt a b).run P w = .ok (.bool (!r)) w := by
  have h' := run_equal_of hT (w := w) h
  unfold eqK at h
  split at h <;> (try (exact .inl h)) <;> rcases h' with h' | ⟨r, hk, hr⟩ <;> first | exact .inl h' | exact .inr ⟨r, hk, by simp only [binOp, Sem.run_bind, hr, Result.andThen_ok]; rfl, by simp only [binOp, Sem.run_bind, hr, Result.andThen_ok]; rfl⟩

theorem binK_ok {P : Program} {T : Tab} (hT : TabOk P T) {op : BinOp} {xt : Nat} {x y : Operand} {a b : Value} {w : World} {K : Value → World → Prop}
    (h : binK T P op xt x y a b w K) : SemW P (do eqGuard op xt x y a b; binOp op xt a b) w K := by
  unfold binK at h
  split at h
  · rename_i k m k' n
    have hg : (eqGuard op xt x y (.int k m) (.int k' n)).run P w = .ok () w := by cases op <;> rfl
    refine SemW.bind (.of_run hg ?_)
    split at h
    · rename_i hs
      exact arK_ok (.inl hs) h
    · split at h
      · rename_i hk
        exact arK_ok (.inr (keq_ok hk)) h
      · exact h.elim
  · rename_i s t
    have hg : (eqGuard op xt x y (.string s) (.string t)).run P w = .ok () w := by cases op <;> rfl
    exact SemW.bind (.of_run hg (strK_ok h))
  · split at h
    · rcases run_bin_of hT (w := w) h with h1 | ⟨r, hk, hr, _⟩
      · replace h1 := h1.out; exact h1
      · rcases run_eqGuard_of (P := P) (w := w) .eql h with h1 | hg
        · replace h1 := h1.out; exact h1
        · exact SemW.bind (.of_run hg (.of_run hr hk))
    · rcases run_bin_of hT (w := w) h with h1 | ⟨r, hk, _, hr⟩
      · replace h1 := h1.out; exact h1
      · rcases run_eqGuard_of (P := P) (w := w) .neq h with h1 | hg
        · replace h1 := h1.out; exact h1
        · exact SemW.bind (.of_run hg (.of_run hr hk))
    · replace h := h.out; exact h

end Go.RV
