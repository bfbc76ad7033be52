/- Chapter 28 in plain terms: messages, their texts, how they are read. Conditions: none. -/
import Derived.Test.YtnhlpmnehdackaaE6
import Derived.Test.YtnhlpmnehdackaaA10
import Derived.Test.YtnhlpmnehdackaaH1
import Derived.Test.YtnhlpmnehdackaaPa6
set_option maxRecDepth 20000
set_option linter.unusedVariables false
set_option linter.unusedSimpArgs false
namespace Go.RV
open Go Go.Proofs

/-- both sums, byte by byte -/
def sumS (st : Int × Int) (l : List UInt8) : Int × Int := l.foldl (fun s c => ((s.1 + c.toNat) % 65535, (s.2 + (s.1 + c.toNat) % 65535) % 65535)) st
def sumI (l : List UInt8) : Int := (sumS (1, 0) l).2 * 65536 + (sumS (1, 0) l).1
/-- a sibling: who, which, what -/
structure Sc where
  r : Int
  n : Int
  d : Bool
  v : List UInt8
def encC (x : Sc) : List Value := [.int .u8 x.r, .int .u32 x.n, .bool x.d, .string (strY x.v)]
theorem encC_len (x : Sc) : (encC x).length = 4 := rfl
theorem encC_one (x : Sc) : ∀ y ∈ encC x, one y = true := by
  intro y hy
  simp [encC] at hy
  rcases hy with rfl | rfl | rfl | rfl <;> rfl
/-- a message -/
structure Mx where
  a : Bool
  p : List UInt8
  f : Nat → Int
  xs : List Sc
  g : Nat → Int
def zeroM : Mx := ⟨false, [], zeroF, [], zeroF⟩
def msgL (a : Bool) (p : List UInt8) (f : Nat → Int) (A : Option Addr) (l c : Nat) (g : Nat → Int) : List Value := .bool a :: .string (strY p) :: (vecF f ++ (Value.slice A l c :: vecF g))
def msgC (a : Bool) (p : List UInt8) (f : Nat → Int) (A : Option Addr) (l c : Nat) (g : Nat → Int) : Value := .agg (msgL a p f A l c g).toArray
def msgV (m : Mx) (A : Option Addr) (c : Nat) : Value := msgC m.a m.p m.f A m.xs.length c m.g
def lessC (a b : Sc) : Bool := decide (a.n < b.n) || (a.n == b.n && decide (a.r < b.r))
def risesC : List Sc → Bool
  | [] => true
  | x :: r => (match r with
    | [] => true
    | y :: _ => lessC x y) && risesC r
def checkC (f : Nat → Int) (xs : List Sc) : Bool := mayVB f && (decide (xs.length ≤ 8) && (xs.all (fun x => hasB f x.r x.n) && risesC xs))
def namedB (p : List UInt8) : Bool := decide ((C04.parseT p).2.1 = 0) && decide (0 < (C04.parseT p).1.length)
def mayM (m : Mx) : Bool := namedB m.p && (if m.a then mayVB m.g && (!veq m.g zeroF && (veq m.f zeroF && m.xs.isEmpty)) else checkC m.f m.xs && (m.xs.all (fun x => okCB x.d x.v) && (!veq m.f zeroF && veq m.g zeroF)))
def num2 (f : Nat → Int) : Nat → List UInt8
  | 0 => []
  | k+1 => if 0 < f k then num2 f k ++ be (f k) 2 else num2 f k
def ctxT (f : Nat → Int) : List UInt8 := be (bitsN f 8) 1 ++ num2 f 8
def sibT (x : Sc) : List UInt8 := be x.r 1 ++ be x.n 2 ++ conT x.d x.v
def sibsT (xs : List Sc) : List UInt8 := xs.flatMap sibT
def bodyT (m : Mx) : List UInt8 :=
  if m.a then be 2 1 ++ be m.p.length 1 ++ m.p ++ ctxT m.g else be 1 1 ++ be m.p.length 1 ++ m.p ++ ctxT m.f ++ be m.xs.length 1 ++ sibsT m.xs
def summedT (s : List UInt8) : List UInt8 := s ++ be (sumI s) 4
def putM (m : Mx) : List UInt8 × Int := if mayM m then (summedT (bodyT m), 0) else ([], 4)

/- reading -/
def num1 (s : RS) : Int := numF 0 (fixedR s (1 : Nat)).1
def aft1 (s : RS) : RS := (fixedR s (1 : Nat)).2
def tk2 (b : Int) (s : RS) : Nat → RS × (Nat → Int)
  | 0 => (s, zeroF)
  | k+1 => if bitB b k then ((fixedR (tk2 b s k).1 (2 : Nat)).2, upd (tk2 b s k).2 k (numF 0 (fixedR (tk2 b s k).1 (2 : Nat)).1)) else tk2 b s k
def ctxR (s : RS) : RS × (Nat → Int) := tk2 (num1 s) (aft1 s) 8
/-- behind a sibling's dot -/
def dotR (s : RS) : RS := (fixedR (aft1 s) (2 : Nat)).2
def sib1 (s : RS) : RS × Sc :=
  (if (takeC (tellS (dotR s))).2 ≠ 0 then ⟨[], (takeC (tellS (dotR s))).2⟩ else conR (tellS (dotR s)),
   ⟨num1 s, numF 0 (fixedR (aft1 s) (2 : Nat)).1, (takeC (tellS (dotR s))).1.1, (takeC (tellS (dotR s))).1.2⟩)
def sibsR (s : RS) : Nat → RS × List Sc
  | 0 => (s, [])
  | k+1 => if (sibsR s k).1.e ≠ 0 then sibsR s k else ((sib1 (sibsR s k).1).1, if (sib1 (sibsR s k).1).1.e ≠ 0 then (sibsR s k).2 else (sibsR s k).2 ++ [(sib1 (sibsR s k).1).2])
/-- where the path's text is read: behind the kind, and the path's length -/
def pathR (s : RS) : List UInt8 × RS := fixedR (aft1 (aft1 s)) (num1 (aft1 s))
/-- what is read, with the state behind it -/
def readA (s : RS) : RS × Mx := ((ctxR (pathR s).2).1, ⟨true, (pathR s).1, zeroF, [], (ctxR (pathR s).2).2⟩)
def entR (s : RS) : RS × List Sc := sibsR (aft1 (ctxR (pathR s).2).1) (num1 (ctxR (pathR s).2).1).toNat
def readE (s : RS) : RS × Mx := ((entR s).1, ⟨false, (pathR s).1, (ctxR (pathR s).2).2, (entR s).2, zeroF⟩)
def readS (s : RS) : RS × Mx := if num1 s = 2 then readA s else readE s
def finM (body : List UInt8) (t : RS × Mx) : Mx × Int := if t.1.e ≠ 0 then (zeroM, t.1.e) else if t.1.rest ≠ [] ∨ mayM t.2 = false ∨ bodyT t.2 ≠ body then (zeroM, 4) else (t.2, 0)
def readM (body : List UInt8) : Mx × Int :=
  if (aft1 ⟨body, 0⟩).e = 0 ∧ num1 ⟨body, 0⟩ ≠ 1 ∧ num1 ⟨body, 0⟩ ≠ 2 then (zeroM, 4) else finM body (readS ⟨body, 0⟩)
def takeM (s : List UInt8) : Mx × Int :=
  if 4096 < s.length then (zeroM, 3) else if s.length < 4 then (zeroM, 10) else if summedT (s.take (s.length - 4)) ≠ s then (zeroM, 9) else readM (s.take (s.length - 4))
def eqSc (a b : Sc) : Bool := (a.r == b.r && (a.n == b.n && true)) && ((a.d == b.d && (decide (a.v = b.v) && true)) && true)
def eqCs : List Sc → List Sc → Bool
  | [], [] => true
  | a :: x, b :: y => eqSc a b && eqCs x y
  | _, _ => false
def sameM (m k : Mx) : Bool := m.a == k.a && (decide (m.p = k.p) && (veq m.g k.g && (veq m.f k.f && eqCs m.xs k.xs)))
end Go.RV
