/- Chapter 28 in plain terms: messages, their texts, how they are read. Conditions: none. -/
import Derived.Test.YtnhlpmnehdackaaGreatE6
import Derived.Test.YtnhlpmnehdackaaGreatA10
import Derived.Test.YtnhlpmnehdackaaGreatH1
import Derived.Test.YtnhlpmnehdackaaGreatPa6
import Derived.Test.YtnhlpmnehdackaaGreatA9
set_option maxRecDepth 20000
set_option linter.unusedVariables false
set_option linter.unusedSimpArgs false
namespace Go.RV
open Go Go.Proofs

/-- both sums, byte by byte -/
def sumS (st : Int × Int) (l : List UInt8) : Int × Int := l.foldl (fun s c => ((s.1 + c.toNat) % 65535, (s.2 + (s.1 + c.toNat) % 65535) % 65535)) st
def sumI (l : List UInt8) : Int := (sumS (1, 0) l).2 * 65536 + (sumS (1, 0) l).1
/-- a sibling: who, which, what -/
structure Sc where
  r : Int
  n : Int
  d : Bool
  v : List UInt8
def encC (x : Sc) : List Value := [.int .u8 x.r, .int .u32 x.n, .bool x.d, .string (strY x.v)]
theorem encC_len (x : Sc) : (encC x).length = 4 := rfl
theorem encC_one (x : Sc) : ∀ y ∈ encC x, one y = true := by
  intro y hy
  simp [encC] at hy
  rcases hy with rfl | rfl | rfl | rfl <;> rfl
/-- a message -/
structure Mx where
  a : Bool
  p : List UInt8
  f : Nat → Int
  xs : List Sc
  g : Nat → Int
def zeroM : Mx := ⟨false, [], zeroF, [], zeroF⟩
def msgL (a : Bool) (p : List UInt8) (f : Nat → Int) (A : Option Addr) (l c : Nat) (g : Nat → Int) : List Value := .bool a :: .string (strY p) :: (vecF f ++ (Value.slice A l c :: vecF g))
def msgC (a : Bool) (p : List UInt8) (f : Nat → Int) (A : Option Addr) (l c : Nat) (g : Nat → Int) : Value := .agg (msgL a p f A l c g).toArray
def msgV (m : Mx) (A : Option Addr) (c : Nat) : Value := msgC m.a m.p m.f A m.xs.length c m.g
def lessC (a b : Sc) : Bool := decide (a.n < b.n) || (a.n == b.n && decide (a.r < b.r))
def risesC : List Sc → Bool
  | [] => true
  | x :: r => (match r with
    | [] => true
    | y :: _ => lessC x y) && risesC r
def checkC (f : Nat → Int) (xs : List Sc) : Bool := mayVB f && (decide (xs.length ≤ 8) && (xs.all (fun x => hasB f x.r x.n) && risesC xs))
def namedB (p : List UInt8) : Bool := decide ((C04.parseT p).2.1 = 0) && decide (0 < (C04.parseT p).1.length)
def mayM (m : Mx) : Bool := namedB m.p && (if m.a then mayVB m.g && (!veq m.g zeroF && (veq m.f zeroF && m.xs.isEmpty)) else checkC m.f m.xs && (m.xs.all (fun x => okCB x.d x.v) && (!veq m.f zeroF && veq m.g zeroF)))
def num2 (f : Nat → Int) : Nat → List UInt8
  | 0 => []
  | k+1 => if 0 < f k then num2 f k ++ be (f k) 2 else num2 f k
def ctxT (f : Nat → Int) : List UInt8 := be (bitsN f 8) 1 ++ num2 f 8
def sibT (x : Sc) : List UInt8 := be x.r 1 ++ be x.n 2 ++ conT x.d x.v
def sibsT (xs : List Sc) : List UInt8 := xs.flatMap sibT
def bodyT (m : Mx) : List UInt8 :=
  if m.a then be 2 1 ++ be m.p.length 1 ++ m.p ++ ctxT m.g else be 1 1 ++ be m.p.length 1 ++ m.p ++ ctxT m.f ++ be m.xs.length 1 ++ sibsT m.xs
def summedT (s : List UInt8) : List UInt8 := s ++ be (sumI s) 4
def putM (m : Mx) : List UInt8 × Int := if mayM m then (summedT (bodyT m), 0) else ([], 4)

/- reading -/
def num1 (s : RS) : Int := numF 0 (fixedR s (1 : Nat)).1
def aft1 (s : RS) : RS := (fixedR s (1 : Nat)).2
def tk2 (b : Int) (s : RS) : Nat → RS × (Nat → Int)
  | 0 => (s, zeroF)
  | k+1 => if bitB b k then ((fixedR (tk2 b s k).1 (2 : Nat)).2, upd (tk2 b s k).2 k (numF 0 (fixedR (tk2 b s k).1 (2 : Nat)).1)) else tk2 b s k
def ctxR (s : RS) : RS × (Nat → Int) := tk2 (num1 s) (aft1 s) 8
/-- behind a sibling's dot -/
def dotR (s : RS) : RS := (fixedR (aft1 s) (2 : Nat)).2
def sib1 (s : RS) : RS × Sc :=
  (if (takeC (tellS (dotR s))).2 ≠ 0 then ⟨[], (takeC (tellS (dotR s))).2⟩ else conR (tellS (dotR s)),
   ⟨num1 s, numF 0 (fixedR (aft1 s) (2 : Nat)).1, (takeC (tellS (dotR s))).1.1, (takeC (tellS (dotR s))).1.2⟩)
def sibsR (s : RS) : Nat → RS × List Sc
  | 0 => (s, [])
  | k+1 => if (sibsR s k).1.e ≠ 0 then sibsR s k else ((sib1 (sibsR s k).1).1, if (sib1 (sibsR s k).1).1.e ≠ 0 then (sibsR s k).2 else (sibsR s k).2 ++ [(sib1 (sibsR s k).1).2])
/-- where the path's text is read: behind the kind, and the path's length -/
def pathR (s : RS) : List UInt8 × RS := fixedR (aft1 (aft1 s)) (num1 (aft1 s))
/-- what is read, with the state behind it -/
def readA (s : RS) : RS × Mx := ((ctxR (pathR s).2).1, ⟨true, (pathR s).1, zeroF, [], (ctxR (pathR s).2).2⟩)
def entR (s : RS) : RS × List Sc := sibsR (aft1 (ctxR (pathR s).2).1) (num1 (ctxR (pathR s).2).1).toNat
def readE (s : RS) : RS × Mx := ((entR s).1, ⟨false, (pathR s).1, (ctxR (pathR s).2).2, (entR s).2, zeroF⟩)
def readS (s : RS) : RS × Mx := if num1 s = 2 then readA s else readE s
def finM (body : List UInt8) (t : RS × Mx) : Mx × Int := if t.1.e ≠ 0 then (zeroM, t.1.e) else if t.1.rest ≠ [] ∨ mayM t.2 = false ∨ bodyT t.2 ≠ body then (zeroM, 4) else (t.2, 0)
def readM (body : List UInt8) : Mx × Int :=
  if (aft1 ⟨body, 0⟩).e = 0 ∧ num1 ⟨body, 0⟩ ≠ 1 ∧ num1 ⟨body, 0⟩ ≠ 2 then (zeroM, 4) else finM body (readS ⟨body, 0⟩)
def takeM (s : List UInt8) : Mx × Int :=
  if 4096 < s.length then (zeroM, 3) else if s.length < 4 then (zeroM, 10) else if summedT (s.take (s.length - 4)) ≠ s then (zeroM, 9) else readM (s.take (s.length - 4))
def eqSc (a b : Sc) : Bool := (a.r == b.r && (a.n == b.n && true)) && ((a.d == b.d && (decide (a.v = b.v) && true)) && true)
def eqCs : List Sc → List Sc → Bool
  | [], [] => true
  | a :: x, b :: y => eqSc a b && eqCs x y
  | _, _ => false
def sameM (m k : Mx) : Bool := m.a == k.a && (decide (m.p = k.p) && (veq m.g k.g && (veq m.f k.f && eqCs m.xs k.xs)))
end Go.RV

/- Plain laws of chapter 28: errors stick; what is written is read. Conditions: none. -/
set_option maxRecDepth 20000
set_option linter.unusedVariables false
set_option linter.unusedSimpArgs false
namespace Go.RV
open Go Go.Proofs

theorem tk2_err {s : RS} (k : Nat) : tk2 0 s k = (s, zeroF) := by
  induction k with
  | zero => rfl
  | succ k ih =>
    have hb : bitB 0 k = false := by
      unfold bitB
      rw [Int.zero_ediv]
      rfl
    rw [tk2, hb, if_neg (by decide), ih]
section
variable {s : RS} (h : s.e ≠ 0)
include h
theorem aft1_err : aft1 s = s := by unfold aft1; rw [fixedR_err h]
theorem num1_err : num1 s = 0 := by unfold num1; rw [fixedR_err h]; rfl
theorem ctxR_err : ctxR s = (s, zeroF) := by unfold ctxR; rw [num1_err h, aft1_err h, tk2_err]
theorem sibsR_err (k : Nat) : sibsR s k = (s, []) := by
  induction k with
  | zero => rfl
  | succ k ih => rw [sibsR, ih, if_pos h]
theorem pathR_err : pathR s = ([], s) := by unfold pathR; rw [aft1_err h, aft1_err h, fixedR_err h]
end
theorem readA_path {s : RS} (h : (pathR s).2.e ≠ 0) : (readA s).1 = (pathR s).2 := by unfold readA; rw [ctxR_err h]
theorem readE_ctx {s : RS} (h : (ctxR (pathR s).2).1.e ≠ 0) : (readE s).1 = (ctxR (pathR s).2).1 := by
  unfold readE entR
  rw [aft1_err h, sibsR_err h]
theorem readE_path {s : RS} (h : (pathR s).2.e ≠ 0) : (readE s).1 = (pathR s).2 := by
  have h2 : (ctxR (pathR s).2).1 = (pathR s).2 := by rw [ctxR_err h]
  rw [readE_ctx (by rw [h2]; exact h), h2]
theorem readS_path {s : RS} (h : (pathR s).2.e ≠ 0) : (readS s).1 = (pathR s).2 := by
  unfold readS
  split
  · exact readA_path h
  · exact readE_path h
theorem pathR_kind {s : RS} (h : (aft1 s).e ≠ 0) : (pathR s).2 = aft1 s := by
  unfold pathR
  rw [aft1_err h, fixedR_err h]
theorem num1_kind {s : RS} (h : (aft1 s).e ≠ 0) : num1 s = 0 := by
  unfold aft1 at h
  unfold num1
  rw [fixedR_e h]
  rfl

/-- the types' bounds -/
structure okM (m : Mx) : Prop where
  f : ∀ j, j < 8 → 0 ≤ m.f j ∧ m.f j ≤ 4294967295
  g : ∀ j, j < 8 → 0 ≤ m.g j ∧ m.g j ≤ 4294967295
  x : ∀ x ∈ m.xs, 0 ≤ x.r ∧ x.r ≤ 255 ∧ 0 ≤ x.n ∧ x.n ≤ 4294967295
theorem num1_lt (s : RS) : 0 ≤ num1 s ∧ num1 s < 256 := by
  have := numF_lt s 1
  unfold num1
  constructor
  · exact this.1
  · have := this.2; simpa using this
theorem tk2_bound (b : Int) (s : RS) : ∀ i j, 0 ≤ (tk2 b s i).2 j ∧ (tk2 b s i).2 j ≤ 65535
  | 0, j => by show 0 ≤ (0 : Int) ∧ (0 : Int) ≤ _; decide
  | i+1, j => by
    have ih := tk2_bound b s i j
    rw [tk2]
    split
    · simp only [upd]
      split
      · have := numF_lt (tk2 b s i).1 2
        simp only [show (256 : Int) ^ 2 = 65536 from by decide] at this
        omega
      · exact ih
    · exact ih
theorem sibsR_in (s : RS) : ∀ k, ∀ x ∈ (sibsR s k).2, 0 ≤ x.r ∧ x.r ≤ 255 ∧ 0 ≤ x.n ∧ x.n ≤ 65535 ∧ x.v.length ≤ 256
  | 0, x, hx => by simp [sibsR] at hx
  | k+1, x, hx => by
    have ih := sibsR_in s k x
    rw [sibsR] at hx
    split at hx
    · exact ih hx
    · simp only at hx
      split at hx
      · exact ih hx
      · rcases List.mem_append.1 hx with hx | hx
        · exact ih hx
        · obtain rfl := List.mem_singleton.1 hx
          have h1 := num1_lt (sibsR s k).1
          have h2 := numF_lt (aft1 (sibsR s k).1) 2
          simp only [show (256 : Int) ^ 2 = 65536 from by decide] at h2
          refine ⟨h1.1, ?_, h2.1, ?_, takeC_len _⟩
          · have := h1.2; simp only [sib1]; omega
          · have := h2.2; simp only [sib1]; omega
theorem zeroF_ok : ∀ j, j < 8 → 0 ≤ zeroF j ∧ zeroF j ≤ 4294967295 := fun j _ => by show 0 ≤ (0 : Int) ∧ (0 : Int) ≤ _; decide
theorem readS_ok (s : RS) : okM (readS s).2 := by
  unfold readS
  split
  · refine ⟨zeroF_ok, fun j _ => ?_, fun x hx => by cases hx⟩
    have := tk2_bound (num1 (pathR s).2) (aft1 (pathR s).2) 8 j
    simp only [readA, ctxR]; omega
  · refine ⟨fun j _ => ?_, zeroF_ok, fun x hx => ?_⟩
    · have := tk2_bound (num1 (pathR s).2) (aft1 (pathR s).2) 8 j
      simp only [readE, ctxR]; omega
    · have := sibsR_in _ _ x hx
      omega
theorem takeM_ok (s : List UInt8) : okM (takeM s).1 := by
  have hz : okM zeroM := ⟨zeroF_ok, zeroF_ok, fun x hx => by cases hx⟩
  unfold takeM readM finM
  repeat' split
  all_goals first | exact hz | exact readS_ok _

/-- what is read of a message's text -/
def normM (m : Mx) : Mx := if m.a then ⟨true, m.p, zeroF, [], fun j => if j < 8 then m.g j else 0⟩ else ⟨false, m.p, fun j => if j < 8 then m.f j else 0, m.xs, zeroF⟩
def x2 (f : Nat → Int) (i : Nat) : List UInt8 := if 0 < f i then be (f i) 2 else []
theorem num2_x (f : Nat → Int) (k : Nat) : num2 f (k + 1) = num2 f k ++ x2 f k := by
  show (if 0 < f k then num2 f k ++ be (f k) 2 else num2 f k) = _
  unfold x2
  split <;> simp
def k2 (f : Nat → Int) (rest : List UInt8) : Nat → List UInt8
  | 0 => rest
  | k+1 => x2 f (7 - k) ++ k2 f rest k
theorem num_k2 (f : Nat → Int) (rest : List UInt8) : ∀ i, i ≤ 8 → num2 f i ++ k2 f rest (8 - i) = k2 f rest 8
  | 0, _ => by simp [num2]
  | i+1, h => by
    have ih := num_k2 f rest i (by omega)
    rw [← ih, num2_x, show 8 - i = (8 - (i + 1)) + 1 from by omega, k2, show 7 - (8 - (i + 1)) = i from by omega, List.append_assoc]
theorem tk2_back (f : Nat → Int) (hf : ∀ j, j < 8 → 0 ≤ f j ∧ f j ≤ 65535) (rest : List UInt8) : ∀ i, i ≤ 8 → tk2 (bitsN f 8) ⟨k2 f rest 8, 0⟩ i = (⟨k2 f rest (8 - i), 0⟩, fun j => if j < i then f j else 0)
  | 0, _ => by
    show (_, _) = (_, _)
    congr 2
  | i+1, h => by
    have ih := tk2_back f hf rest i (by omega)
    have hfi := hf i (by omega)
    rw [tk2, ih, bitsN_bit f 8 i (by omega)]
    simp only
    rw [show 8 - i = (8 - (i + 1)) + 1 from by omega, k2, show 7 - (8 - (i + 1)) = i from by omega]
    have hu : ∀ x, x = f i → upd (fun j => if j < i then f j else 0) i x = fun j => if j < i + 1 then f j else 0 := fun x hx => updJ (h := f) (f := fun _ => 0) hx
    by_cases hp : 0 < f i
    · rw [x2, if_pos hp, fixedR_all (by rw [be_len])]
      simp only [hp, decide_true, if_true]
      rw [hu _ (by rw [numF_be2 hfi.1]; omega)]
    · have h0 : f i = 0 := by omega
      rw [x2, if_neg hp]
      simp only [hp, decide_false, Bool.false_eq_true, if_false, List.nil_append]
      rw [← hu 0 h0.symm]
      congr 1
      funext j
      unfold upd
      by_cases e : j = i
      · subst e; simp
      · simp [e]
theorem first1 {n : Int} (h0 : 0 ≤ n) (h1 : n < 256) (rest : List UInt8) : num1 ⟨be n 1 ++ rest, 0⟩ = n ∧ aft1 ⟨be n 1 ++ rest, 0⟩ = ⟨rest, 0⟩ := by
  unfold num1 aft1
  rw [fixedR_all (by rw [be_len])]
  refine ⟨?_, rfl⟩
  rw [numF_be1 h0]
  omega
theorem ctx_back (f : Nat → Int) (hf : ∀ j, j < 8 → 0 ≤ f j ∧ f j ≤ 65535) (rest : List UInt8) : ctxR ⟨ctxT f ++ rest, 0⟩ = (⟨rest, 0⟩, fun j => if j < 8 then f j else 0) := by
  have hb := bitsN_lt f 8
  obtain ⟨h1, h2⟩ := first1 hb.1 hb.2 (num2 f 8 ++ rest)
  unfold ctxR ctxT
  rw [List.append_assoc, h1, h2, show num2 f 8 ++ rest = k2 f rest 8 from num_k2 f rest 8 (Nat.le_refl _), tk2_back f hf rest 8 (Nat.le_refl _)]
  rfl
theorem sib_back (x : Sc) (hr : 0 ≤ x.r ∧ x.r ≤ 255) (hn : 0 ≤ x.n ∧ x.n ≤ 65535) (hok : okCB x.d x.v = true) (rest : List UInt8) : sib1 ⟨sibT x ++ rest, 0⟩ = (⟨rest, 0⟩, x) := by
  obtain ⟨h1, h2⟩ := first1 hr.1 (by omega) (be x.n 2 ++ (conT x.d x.v ++ rest))
  have e : sibT x ++ rest = be x.r 1 ++ (be x.n 2 ++ (conT x.d x.v ++ rest)) := by simp [sibT]
  rw [← e] at h1 h2
  have h3 : fixedR ⟨be x.n 2 ++ (conT x.d x.v ++ rest), 0⟩ (2 : Nat) = (be x.n 2, ⟨conT x.d x.v ++ rest, 0⟩) := fixedR_all (by rw [be_len])
  obtain ⟨c1, c2⟩ := con_back x.d x.v hok rest
  unfold sib1 dotR
  rw [h1, h2, h3]
  simp only
  rw [c1, c2, numF_be2 hn.1, show x.n % 65536 = x.n from by omega]
  simp
theorem sibs_back (xs : List Sc) (hx : ∀ x ∈ xs, (0 ≤ x.r ∧ x.r ≤ 255) ∧ (0 ≤ x.n ∧ x.n ≤ 65535) ∧ okCB x.d x.v = true) (rest : List UInt8) : ∀ k, k ≤ xs.length → sibsR ⟨sibsT xs ++ rest, 0⟩ k = (⟨sibsT (xs.drop k) ++ rest, 0⟩, xs.take k)
  | 0, _ => by simp [sibsR]
  | k+1, h => by
    have ih := sibs_back xs hx rest k (by omega)
    have hk : k < xs.length := by omega
    obtain ⟨a1, a2, a3⟩ := hx xs[k] (List.getElem_mem hk)
    have ed : xs.drop k = xs[k] :: xs.drop (k+1) := (List.getElem_cons_drop hk).symm
    have e1 : sib1 ⟨sibsT (xs.drop k) ++ rest, 0⟩ = (⟨sibsT (xs.drop (k+1)) ++ rest, 0⟩, xs[k]) := by
      rw [ed, show sibsT (xs[k] :: xs.drop (k+1)) = sibT xs[k] ++ sibsT (xs.drop (k+1)) from rfl, List.append_assoc]
      exact sib_back xs[k] a1 a2 a3 _
    rw [sibsR, ih]
    simp only [e1]
    rw [List.take_succ_eq_append_getElem hk]
    simp
theorem mayVB_le {f : Nat → Int} (h : mayVB f = true) : ∀ j, j < 8 → f j ≤ 65535 := by
  intro j hj
  unfold mayVB at h
  have := anyJ_false.1 (by simpa using h) j hj
  have := of_decide_eq_false this
  omega
theorem hasB_dot {f : Nat → Int} {r n : Int} (h : hasB f r n = true) : r < 8 ∧ 1 ≤ n ∧ n ≤ 65535 := by
  unfold hasB mayDotB at h
  simp only [Bool.and_eq_true, decide_eq_true_eq] at h
  omega
theorem checkC_parts {f : Nat → Int} {xs : List Sc} (h : checkC f xs = true) : mayVB f = true ∧ xs.length ≤ 8 ∧ ∀ x ∈ xs, hasB f x.r x.n = true := by
  unfold checkC at h
  simp only [Bool.and_eq_true, decide_eq_true_eq, List.all_eq_true] at h
  exact ⟨h.1, h.2.1, h.2.2.1⟩
theorem mayM_parts {m : Mx} (h : mayM m = true) : namedB m.p = true ∧ (m.a = true → mayVB m.g = true ∧ veq m.g zeroF = false ∧ veq m.f zeroF = true ∧ m.xs = []) ∧
    (m.a = false → mayVB m.f = true ∧ m.xs.length ≤ 8 ∧ (∀ x ∈ m.xs, hasB m.f x.r x.n = true ∧ okCB x.d x.v = true) ∧ veq m.f zeroF = false ∧ veq m.g zeroF = true) := by
  unfold mayM at h
  rw [Bool.and_eq_true] at h
  refine ⟨h.1, fun ha => ?_, fun ha => ?_⟩
  · rw [if_pos ha] at h
    simp only [Bool.and_eq_true, Bool.not_eq_true', List.isEmpty_iff] at h
    exact ⟨h.2.1, h.2.2.1, h.2.2.2.1, h.2.2.2.2⟩
  · rw [if_neg (by rw [ha]; decide)] at h
    simp only [Bool.and_eq_true, Bool.not_eq_true', List.all_eq_true] at h
    obtain ⟨c1, c2, c3⟩ := checkC_parts h.2.1
    exact ⟨c1, c2, fun x hx => ⟨c3 x hx, h.2.2.1 x hx⟩, h.2.2.2.1, h.2.2.2.2⟩
theorem namedB_len {p : List UInt8} (h : namedB p = true) : p.length ≤ 36 := by
  unfold namedB at h
  simp only [Bool.and_eq_true, decide_eq_true_eq] at h
  have h1 := h.1
  unfold C04.parseT C04.readT at h1
  split at h1
  · exact absurd h1 (by decide)
  · omega
theorem path_back {k : Int} (hk : 0 ≤ k ∧ k < 256) {p : List UInt8} (hp : p.length ≤ 36) (rest : List UInt8) : num1 ⟨be k 1 ++ (be p.length 1 ++ (p ++ rest)), 0⟩ = k ∧ (aft1 ⟨be k 1 ++ (be p.length 1 ++ (p ++ rest)), 0⟩).e = 0 ∧ pathR ⟨be k 1 ++ (be p.length 1 ++ (p ++ rest)), 0⟩ = (p, ⟨rest, 0⟩) := by
  obtain ⟨h1, h2⟩ := first1 hk.1 hk.2 (be p.length 1 ++ (p ++ rest))
  obtain ⟨h3, h4⟩ := first1 (n := p.length) (by omega) (by omega) (p ++ rest)
  refine ⟨h1, by rw [h2], ?_⟩
  unfold pathR
  rw [h2, h3, h4]
  exact fixedR_all rfl
/-- a message's text is read as the message, and what stands behind it is left -/
theorem read_back (m : Mx) (ho : okM m) (hm : mayM m = true) (rest : List UInt8) : num1 ⟨bodyT m ++ rest, 0⟩ = (if m.a then 2 else 1) ∧ readS ⟨bodyT m ++ rest, 0⟩ = (⟨rest, 0⟩, normM m) := by
  obtain ⟨h1, h2, h3⟩ := mayM_parts hm
  have hp := namedB_len h1
  unfold readS
  cases ha : m.a with
  | true =>
    obtain ⟨a1, a2, a3, a4⟩ := h2 ha
    have hg : ∀ j, j < 8 → 0 ≤ m.g j ∧ m.g j ≤ 65535 := fun j hj => ⟨(ho.g j hj).1, mayVB_le a1 j hj⟩
    have e : bodyT m ++ rest = be 2 1 ++ (be m.p.length 1 ++ (m.p ++ (ctxT m.g ++ rest))) := by
      unfold bodyT
      rw [if_pos ha]
      simp
    obtain ⟨b1, _, b2⟩ := path_back (k := 2) (by decide) hp (ctxT m.g ++ rest)
    rw [e]
    refine ⟨by rw [b1]; rfl, ?_⟩
    rw [b1, if_pos rfl]
    unfold readA
    rw [b2]
    simp only
    rw [ctx_back m.g hg]
    unfold normM
    rw [if_pos ha]
  | false =>
    obtain ⟨a1, a2, a3, a4, a5⟩ := h3 ha
    have hf : ∀ j, j < 8 → 0 ≤ m.f j ∧ m.f j ≤ 65535 := fun j hj => ⟨(ho.f j hj).1, mayVB_le a1 j hj⟩
    have e : bodyT m ++ rest = be 1 1 ++ (be m.p.length 1 ++ (m.p ++ (ctxT m.f ++ (be m.xs.length 1 ++ (sibsT m.xs ++ rest))))) := by
      unfold bodyT
      rw [if_neg (by rw [ha]; decide)]
      simp
    obtain ⟨b1, _, b2⟩ := path_back (k := 1) (by decide) hp (ctxT m.f ++ (be m.xs.length 1 ++ (sibsT m.xs ++ rest)))
    obtain ⟨b3, b4⟩ := first1 (n := m.xs.length) (by omega) (by omega) (sibsT m.xs ++ rest)
    have b5 := sibs_back m.xs (fun x hx => ⟨by have := ho.x x hx; omega, ⟨(ho.x x hx).2.2.1, (hasB_dot (a3 x hx).1).2.2⟩, (a3 x hx).2⟩) rest m.xs.length (Nat.le_refl _)
    rw [List.drop_length, List.take_length] at b5
    rw [e]
    refine ⟨by rw [b1]; rfl, ?_⟩
    rw [b1, if_neg (by decide)]
    unfold readE entR
    rw [b2]
    simp only
    rw [ctx_back m.f hf]
    simp only
    rw [b3, b4, Int.toNat_natCast, b5]
    unfold normM
    rw [if_neg (by rw [ha]; decide)]
    rfl
end Go.RV

/- Contracts of functions of chapter 28: sums. Conditions: none. -/
set_option maxRecDepth 20000
set_option linter.unusedVariables false
set_option linter.unusedSimpArgs false
namespace Go.RV
open Go Go.Proofs

def bothO (a c : Int) : Obj := .cells #[.int .u64 a, .int .u64 c] 166 (0, 0)
theorem sumS_lt : ∀ (l : List UInt8) (a c : Int), 0 ≤ a ∧ a < 65535 → 0 ≤ c ∧ c < 65535 → (0 ≤ (sumS (a, c) l).1 ∧ (sumS (a, c) l).1 < 65535) ∧ (0 ≤ (sumS (a, c) l).2 ∧ (sumS (a, c) l).2 < 65535)
  | [], a, c, ha, hc => ⟨ha, hc⟩
  | x :: l, a, c, ha, hc => sumS_lt l _ _ ⟨Int.emod_nonneg _ (by decide), Int.emod_lt_of_pos _ (by decide)⟩ ⟨Int.emod_nonneg _ (by decide), Int.emod_lt_of_pos _ (by decide)⟩
theorem sumS_snoc (st : Int × Int) (l : List UInt8) {i : Nat} (h : i < l.length) : sumS st (l.take (i + 1)) = (((sumS st (l.take i)).1 + l[i].toNat) % 65535, ((sumS st (l.take i)).2 + ((sumS st (l.take i)).1 + l[i].toNat) % 65535) % 65535) := by
  unfold sumS
  rw [List.take_succ_eq_append_getElem h, List.foldl_append]
  rfl
theorem add_c (b : Nat) (a c : Int) (x : Nat) (ha : 0 ≤ a ∧ a < 65535) (hc : 0 ≤ c ∧ c < 65535) (hx : x < 256) (w : World) (hS : St [b] w w [(b, bothO a c)]) :
    Fc Tryz.prog 107 [.pointer (some ⟨b, 0, none⟩), .int .u8 x] w fun v w' => St [b] w w' [(b, bothO ((a + x) % 65535) ((c + (a + x) % 65535) % 65535))] := by
  refine fc_i TB_ok Tryz.func107 rfl (by kernel_rfl) ?_
  have hS : Sf [b] w w [] [(b, .cells #[.int .u64 a, .int .u64 c] 166 (0, 0))] := ⟨hS⟩
  repeat ((conv => whnf); first | (apply q_i; focus (intro w1 hS; (conv => whnf); first | exact ⟨rfl, rfl⟩ | ((refine ld_f hS 0 rfl rfl ?_); (conv => whnf); exact ⟨rfl, rfl⟩) | ((refine ldA_f hS 0 rfl rfl ?_); (conv => whnf); exact ⟨rfl, rfl⟩) | ((refine .mk (by decide) ?_); (conv => whnf); exact ⟨rfl, rfl⟩) | ((refine .mk ⟨by omega, by omega⟩ ?_); (conv => whnf); exact ⟨rfl, rfl⟩))) | (refine nw_f hS ?_; intro b w1 hS) | (refine as_i hS ?_) | (refine as_i (hS.subs (List.nil_sublist _) (by repeat (first | exact List.Sublist.refl _ | apply List.Sublist.cons_cons | apply List.Sublist.cons))) ?_) | (refine as_i (hS.subs (List.Sublist.refl _) (by repeat (first | exact List.Sublist.refl _ | apply List.Sublist.cons_cons | apply List.Sublist.cons))) ?_) | (refine bar_f hS ?_) | (refine ld_f hS 0 rfl rfl ?_) | (refine ldA_f hS 0 rfl rfl ?_) | (refine stN_f hS 0 rfl (Nat.le_of_ble_eq_true rfl) rfl rfl ?_; (conv => whnf); intro w1 hS) | (refine stM_f hS 0 rfl (Nat.le_of_ble_eq_true rfl) rfl ?_; (conv => whnf); intro w1 hS) | (refine .mk (by decide) ?_) | (refine .mk ⟨by omega, by omega⟩ ?_) | (refine drawf TB_ok rfl (by kernel_rfl) (by kernel_rfl) hS (List.Sublist.refl _) (List.Sublist.refl _) ?_; intro w1 hS) | (refine br_t (by assumption) ?_) | (refine br_f (by assumption) ?_))
  have e0 : IntKind.u64.wrap (x : Int) = x := wrap_u64 (by omega) (by omega)
  have e1 : (IntKind.u64.wrap (a + IntKind.u64.wrap (x : Int))).tmod 65535 = (a + x) % 65535 := by
    rw [e0, wrap_u64 (by omega) (by omega), Int.tmod_eq_emod_of_nonneg (by omega)]
  have b1 : 0 ≤ (a + x) % 65535 ∧ (a + x) % 65535 < 65535 := ⟨Int.emod_nonneg _ (by decide), Int.emod_lt_of_pos _ (by decide)⟩
  have e2 : (IntKind.u64.wrap (c + (a + x) % 65535)).tmod 65535 = (c + (a + x) % 65535) % 65535 := by
    rw [wrap_u64 (by omega) (by omega), Int.tmod_eq_emod_of_nonneg (by omega)]
  rw [e1, e2] at hS
  exact hS.st
theorem says_c (w : World) : Fc Tryz.prog 105 [.int .u32 1] w fun v w' => v = .agg #[.int .u64 1, .int .u64 0] ∧ St [] w w' [] := by
  refine fc_i TB_ok Tryz.func105 rfl (by kernel_rfl) ?_
  have hS := Sf.refl w
  repeat ((conv => whnf); first | (apply q_i; focus (intro w1 hS; (conv => whnf); first | exact ⟨rfl, rfl⟩ | ((refine ld_f hS 0 rfl rfl ?_); (conv => whnf); exact ⟨rfl, rfl⟩) | ((refine ldA_f hS 0 rfl rfl ?_); (conv => whnf); exact ⟨rfl, rfl⟩) | ((refine .mk (by decide) ?_); (conv => whnf); exact ⟨rfl, rfl⟩) | ((refine .mk ⟨by omega, by omega⟩ ?_); (conv => whnf); exact ⟨rfl, rfl⟩))) | (refine nw_f hS ?_; intro b w1 hS) | (refine as_i hS ?_) | (refine as_i (hS.subs (List.nil_sublist _) (by repeat (first | exact List.Sublist.refl _ | apply List.Sublist.cons_cons | apply List.Sublist.cons))) ?_) | (refine as_i (hS.subs (List.Sublist.refl _) (by repeat (first | exact List.Sublist.refl _ | apply List.Sublist.cons_cons | apply List.Sublist.cons))) ?_) | (refine bar_f hS ?_) | (refine ld_f hS 0 rfl rfl ?_) | (refine ldA_f hS 0 rfl rfl ?_) | (refine stN_f hS 0 rfl (Nat.le_of_ble_eq_true rfl) rfl rfl ?_; (conv => whnf); intro w1 hS) | (refine stM_f hS 0 rfl (Nat.le_of_ble_eq_true rfl) rfl ?_; (conv => whnf); intro w1 hS) | (refine .mk (by decide) ?_) | (refine .mk ⟨by omega, by omega⟩ ?_) | (refine drawf TB_ok rfl (by kernel_rfl) (by kernel_rfl) hS (List.Sublist.refl _) (List.Sublist.refl _) ?_; intro w1 hS) | (refine br_t (by assumption) ?_) | (refine br_f (by assumption) ?_))
  exact ⟨rfl, hS.nil⟩
theorem each_c (b : Nat) (s : List UInt8) (hs : s.length ≤ 4611686018427387904) (w : World) (hS : St [b] w w [(b, bothO 1 0)]) :
    Fc Tryz.prog 106 [.string (strY s), .func (.func 107) #[.pointer (some ⟨b, 0, none⟩)] #[]] w fun v w' => St [b] w w' [(b, bothO (sumS (1, 0) s).1 (sumS (1, 0) s).2)] := by
  refine fc_i TB_ok Tryz.func106 rfl (by kernel_rfl) ?_
  have hS : Sf [b] w w ([(b, bothO 1 0)] ++ []) [] := ⟨hS⟩
  have hsz := strY_size s
  repeat ((conv => whnf); first | (apply q_i; focus (intro w1 hS; (conv => whnf); first | exact ⟨rfl, rfl⟩)) | (refine nw_f hS ?_; intro b w1 hS) | (refine as_i hS ?_) | (refine as_i (hS.subs (List.nil_sublist _) (by repeat (first | exact List.Sublist.refl _ | apply List.Sublist.cons_cons | apply List.Sublist.cons))) ?_) | (refine as_i (hS.subs (List.Sublist.refl _) (by repeat (first | exact List.Sublist.refl _ | apply List.Sublist.cons_cons | apply List.Sublist.cons))) ?_) | (refine bar_f hS ?_) | (refine drawf TB_ok rfl (by kernel_rfl) (by kernel_rfl) hS (List.Sublist.refl _) (List.Sublist.refl _) ?_; intro w1 hS) | (refine br_t (by assumption) ?_) | (refine br_f (by assumption) ?_))
  refine loop_i TB_ok (fun i : Nat => [(7, .int .i64 i)]) (fun i w' => i ≤ s.length ∧ Sf [b] w w' ([(b, bothO (sumS (1, 0) (s.take i)).1 (sumS (1, 0) (s.take i)).2)] ++ []) []) (fun i => s.length - i) 0 rfl ⟨Nat.zero_le _, hS⟩ ?_
  rintro i us w2 ⟨hi, hS⟩
  (conv => whnf)
  refine br_i (fun hb => ?_) (fun hb => ?_)
  · have hlt : i < s.length := by have := of_decide_eq_true hb; omega
    have hl := sumS_lt (s.take i) 1 0 (by decide) (by decide)
    have hsn := sumS_snoc (1, 0) s hlt
    have hby := byteAt_strY hlt
    repeat ((conv => whnf); first | (apply q_i; focus (intro w1 hS; (conv => whnf); first | exact ⟨rfl, rfl⟩ | ((refine .mk ⟨by omega, by omega⟩ ?_); (conv => whnf); exact ⟨rfl, rfl⟩))) | (refine nw_f hS ?_; intro b w1 hS) | (refine as_i hS ?_) | (refine as_i (hS.subs (List.nil_sublist _) (by repeat (first | exact List.Sublist.refl _ | apply List.Sublist.cons_cons | apply List.Sublist.cons))) ?_) | (refine as_i (hS.subs (List.Sublist.refl _) (by repeat (first | exact List.Sublist.refl _ | apply List.Sublist.cons_cons | apply List.Sublist.cons))) ?_) | (refine bar_f hS ?_) | (refine .mk ⟨by omega, by omega⟩ ?_) | (refine drawf TB_ok rfl (by kernel_rfl) (by kernel_rfl) hS (List.Sublist.refl _) (List.Sublist.refl _) ?_; intro w1 hS) | (refine br_t (by assumption) ?_) | (refine br_f (by assumption) ?_))
    have hadd := add_c b (sumS (1, 0) (s.take i)).1 (sumS (1, 0) (s.take i)).2 s[i].toNat hl.1 hl.2 (UInt8.toNat_lt _) w2 hS.ownF
    rw [← hby] at hadd
    (conv => whnf)
    refine fc_m hadd ?_
    rintro v w3 hS'
    replace hS := hS.callW hS'
    rw [hby] at hS
    repeat ((conv => whnf); first | (apply q_i; focus (intro w1 hS; (conv => whnf); first | exact ⟨rfl, rfl⟩)) | (refine nw_f hS ?_; intro b w1 hS) | (refine as_i hS ?_) | (refine as_i (hS.subs (List.nil_sublist _) (by repeat (first | exact List.Sublist.refl _ | apply List.Sublist.cons_cons | apply List.Sublist.cons))) ?_) | (refine as_i (hS.subs (List.Sublist.refl _) (by repeat (first | exact List.Sublist.refl _ | apply List.Sublist.cons_cons | apply List.Sublist.cons))) ?_) | (refine bar_f hS ?_) | (refine drawf TB_ok rfl (by kernel_rfl) (by kernel_rfl) hS (List.Sublist.refl _) (List.Sublist.refl _) ?_; intro w1 hS) | (refine br_t (by assumption) ?_) | (refine br_f (by assumption) ?_))
    refine ⟨rfl, i + 1, ?_, ⟨by omega, ?_⟩, by omega⟩
    · rw [wi hlt (by omega)]
      rfl
    · rw [hsn]
      exact hS
  · have hge : i = s.length := by have := of_decide_eq_false hb; omega
    rw [hge, List.take_length] at hS
    repeat ((conv => whnf); first | (apply q_i; focus (intro w1 hS; (conv => whnf); first | exact ⟨rfl, rfl⟩)) | (refine nw_f hS ?_; intro b w1 hS) | (refine as_i hS ?_) | (refine as_i (hS.subs (List.nil_sublist _) (by repeat (first | exact List.Sublist.refl _ | apply List.Sublist.cons_cons | apply List.Sublist.cons))) ?_) | (refine as_i (hS.subs (List.Sublist.refl _) (by repeat (first | exact List.Sublist.refl _ | apply List.Sublist.cons_cons | apply List.Sublist.cons))) ?_) | (refine bar_f hS ?_) | (refine drawf TB_ok rfl (by kernel_rfl) (by kernel_rfl) hS (List.Sublist.refl _) (List.Sublist.refl _) ?_; intro w1 hS) | (refine br_t (by assumption) ?_) | (refine br_f (by assumption) ?_))
    have h2 := hS.fr (List.Sublist.refl _)
    rw [List.append_nil] at h2
    exact h2
theorem or_add16 {n c : Nat} (hc : c < 65536) : (n * 65536) ||| c = n * 65536 + c := by
  have h := Nat.shiftLeft_add_eq_or_of_lt (i := 16) (b := c) hc n
  rw [Nat.shiftLeft_eq] at h
  exact h.symm
theorem orv16 {n : Int} {c : Nat} (h0 : 0 ≤ n) (h1 : n < 65536) (hc : c < 65536) : bOr .u32 (bShl .u32 n 16) (c : Int) = n * 65536 + c := by
  obtain ⟨m, rfl⟩ := Int.eq_ofNat_of_zero_le h0
  have e8 : bShl .u32 (m : Int) 16 = ((m * 65536 : Nat) : Int) := by
    unfold bShl
    have e : min (16 : Int).toNat IntKind.u32.bits = 16 := rfl
    rw [e]
    show IntKind.u32.wrap ((m : Int) * 65536) = _
    rw [wrap_u32 (by omega) (by omega)]
    omega
  rw [e8]
  unfold bOr
  have hb : IntKind.u32.bits = 32 := rfl
  rw [hb]
  have e1 : BitVec.ofInt 32 ((m * 65536 : Nat) : Int) = BitVec.ofNat 32 (m * 65536) := BitVec.ofInt_natCast 32 _
  have e2 : BitVec.ofInt 32 ((c : Nat) : Int) = BitVec.ofNat 32 c := BitVec.ofInt_natCast 32 _
  rw [e1, e2, BitVec.toNat_or, BitVec.toNat_ofNat, BitVec.toNat_ofNat, Nat.mod_eq_of_lt (by omega), Nat.mod_eq_of_lt (by omega), or_add16 hc, wrap_u32 (by omega) (by omega)]
  omega
theorem number_c (a c : Int) (ha : 0 ≤ a ∧ a < 65535) (hc : 0 ≤ c ∧ c < 65535) (w : World) : Fc Tryz.prog 108 [.agg #[.int .u64 a, .int .u64 c]] w fun v w' => v = .int .u32 (c * 65536 + a) ∧ St [] w w' [] := by
  refine fc_i TB_ok Tryz.func108 rfl (by kernel_rfl) ?_
  have hS := Sf.refl w
  have e0 : IntKind.u32.wrap c = c := wrap_u32 (by omega) (by omega)
  have e1 : IntKind.u32.wrap a = a := wrap_u32 (by omega) (by omega)
  have e2 := orv16 (n := c) (c := a.toNat) hc.1 (by omega) (by omega)
  rw [show ((a.toNat : Nat) : Int) = a from by omega] at e2
  repeat ((conv => whnf); first | (apply q_i; focus (intro w1 hS; (conv => whnf); first | exact ⟨rfl, rfl⟩ | ((refine ld_f hS 0 rfl rfl ?_); (conv => whnf); exact ⟨rfl, rfl⟩) | ((refine ldA_f hS 0 rfl rfl ?_); (conv => whnf); exact ⟨rfl, rfl⟩) | ((refine .mk ⟨by omega, by omega⟩ ?_); (conv => whnf); exact ⟨rfl, rfl⟩) | ((refine .mk (by decide) ?_); (conv => whnf); exact ⟨rfl, rfl⟩))) | (refine nw_f hS ?_; intro b w1 hS) | (refine as_i hS ?_) | (refine as_i (hS.subs (List.nil_sublist _) (by repeat (first | exact List.Sublist.refl _ | apply List.Sublist.cons_cons | apply List.Sublist.cons))) ?_) | (refine as_i (hS.subs (List.Sublist.refl _) (by repeat (first | exact List.Sublist.refl _ | apply List.Sublist.cons_cons | apply List.Sublist.cons))) ?_) | (refine bar_f hS ?_) | (refine ld_f hS 0 rfl rfl ?_) | (refine ldA_f hS 0 rfl rfl ?_) | (refine stN_f hS 0 rfl (Nat.le_of_ble_eq_true rfl) rfl rfl ?_; (conv => whnf); intro w1 hS) | (refine stM_f hS 0 rfl (Nat.le_of_ble_eq_true rfl) rfl ?_; (conv => whnf); intro w1 hS) | (refine .mk ⟨by omega, by omega⟩ ?_) | (refine .mk (by decide) ?_) | (refine drawf TB_ok rfl (by kernel_rfl) (by kernel_rfl) hS (List.Sublist.refl _) (List.Sublist.refl _) ?_; intro w1 hS) | (refine br_t (by assumption) ?_) | (refine br_f (by assumption) ?_))
  rw [← e2]
  refine ⟨?_, hS.nil⟩
  show Value.int .u32 (bOr .u32 (bShl .u32 (IntKind.u32.wrap c) 16) (IntKind.u32.wrap a)) = _
  rw [e0, e1]
theorem update_c (s : List UInt8) (hs : s.length ≤ 4611686018427387904) (w : World) : Fc Tryz.prog 84 [.int .u32 1, .string (strY s)] w fun v w' => v = .int .u32 (sumI s) ∧ St [] w w' [] := by
  refine fc_i TB_ok Tryz.func84 rfl (by kernel_rfl) ?_
  have hS := Sf.refl w
  have hl := sumS_lt s 1 0 (by decide) (by decide)
  repeat ((conv => whnf); first | (apply q_i; focus (intro w1 hS; (conv => whnf); first | exact ⟨rfl, rfl⟩ | ((refine ld_f hS 0 rfl rfl ?_); (conv => whnf); exact ⟨rfl, rfl⟩) | ((refine ldA_f hS 0 rfl rfl ?_); (conv => whnf); exact ⟨rfl, rfl⟩) | ((refine fc_m (says_c _) ?_; rintro v w3 ⟨rfl, hS'⟩; replace hS := hS.call0 hS'); (conv => whnf); exact ⟨rfl, rfl⟩))) | (refine nw_f hS ?_; intro b w1 hS) | (refine as_i hS ?_) | (refine as_i (hS.subs (List.nil_sublist _) (by repeat (first | exact List.Sublist.refl _ | apply List.Sublist.cons_cons | apply List.Sublist.cons))) ?_) | (refine as_i (hS.subs (List.Sublist.refl _) (by repeat (first | exact List.Sublist.refl _ | apply List.Sublist.cons_cons | apply List.Sublist.cons))) ?_) | (refine bar_f hS ?_) | (refine ld_f hS 0 rfl rfl ?_) | (refine ldA_f hS 0 rfl rfl ?_) | (refine stN_f hS 0 rfl (Nat.le_of_ble_eq_true rfl) rfl rfl ?_; (conv => whnf); intro w1 hS) | (refine stM_f hS 0 rfl (Nat.le_of_ble_eq_true rfl) rfl ?_; (conv => whnf); intro w1 hS) | (refine fc_m (says_c _) ?_; rintro v w3 ⟨rfl, hS'⟩; replace hS := hS.call0 hS') | (refine drawf TB_ok rfl (by kernel_rfl) (by kernel_rfl) hS (List.Sublist.refl _) (List.Sublist.refl _) ?_; intro w1 hS) | (refine br_t (by assumption) ?_) | (refine br_f (by assumption) ?_))
  obtain ⟨bb, hbb⟩ : ∃ x, x = b := ⟨b, rfl⟩
  subst hbb
  replace hS : Sf [] w _ ([(bb, bothO 1 0)] ++ []) [] := ⟨hS.st⟩
  (conv => whnf)
  refine fc_m (each_c bb s hs _ hS.ownF) ?_
  rintro v w4 hS'
  replace hS := hS.callW hS'
  unfold sumI
  generalize sumS (1, 0) s = z at *
  obtain ⟨a, c⟩ := z
  simp only at hl hS
  replace hS : Sf [] w w4 [] [(bb, .cells #[.int .u64 a, .int .u64 c] 166 (0, 0))] := ⟨by simpa [bothO] using hS.st⟩
  repeat ((conv => whnf); first | (apply q_i; focus (intro w1 hS; (conv => whnf); first | exact ⟨rfl, rfl⟩ | ((refine ld_f hS 0 rfl rfl ?_); (conv => whnf); exact ⟨rfl, rfl⟩) | ((refine ldA_f hS 0 rfl rfl ?_); (conv => whnf); exact ⟨rfl, rfl⟩) | ((refine fc_m (number_c a c hl.1 hl.2 _) ?_; rintro v w3 ⟨rfl, hS'⟩; replace hS := hS.call0 hS'); (conv => whnf); exact ⟨rfl, rfl⟩))) | (refine nw_f hS ?_; intro b w1 hS) | (refine as_i hS ?_) | (refine as_i (hS.subs (List.nil_sublist _) (by repeat (first | exact List.Sublist.refl _ | apply List.Sublist.cons_cons | apply List.Sublist.cons))) ?_) | (refine as_i (hS.subs (List.Sublist.refl _) (by repeat (first | exact List.Sublist.refl _ | apply List.Sublist.cons_cons | apply List.Sublist.cons))) ?_) | (refine bar_f hS ?_) | (refine ld_f hS 0 rfl rfl ?_) | (refine ldA_f hS 0 rfl rfl ?_) | (refine stN_f hS 0 rfl (Nat.le_of_ble_eq_true rfl) rfl rfl ?_; (conv => whnf); intro w1 hS) | (refine stM_f hS 0 rfl (Nat.le_of_ble_eq_true rfl) rfl ?_; (conv => whnf); intro w1 hS) | (refine fc_m (number_c a c hl.1 hl.2 _) ?_; rintro v w3 ⟨rfl, hS'⟩; replace hS := hS.call0 hS') | (refine drawf TB_ok rfl (by kernel_rfl) (by kernel_rfl) hS (List.Sublist.refl _) (List.Sublist.refl _) ?_; intro w1 hS) | (refine br_t (by assumption) ?_) | (refine br_f (by assumption) ?_))
  exact ⟨rfl, hS.nil⟩
theorem sum_c (s : List UInt8) (hs : s.length ≤ 4611686018427387904) (w : World) : Fc Tryz.prog 53 [.string (strY s)] w fun v w' => v = .int .u32 (sumI s) ∧ St [] w w' [] := by
  refine fc_i TB_ok Tryz.func53 rfl (by kernel_rfl) ?_
  have hS := Sf.refl w
  repeat ((conv => whnf); first | (apply q_i; focus (intro w1 hS; (conv => whnf); first | exact ⟨rfl, rfl⟩ | ((refine ld_f hS 0 rfl rfl ?_); (conv => whnf); exact ⟨rfl, rfl⟩) | ((refine ldA_f hS 0 rfl rfl ?_); (conv => whnf); exact ⟨rfl, rfl⟩) | ((refine fc_m (update_c s hs _) ?_; rintro v w3 ⟨rfl, hS'⟩; replace hS := hS.call0 hS'); (conv => whnf); exact ⟨rfl, rfl⟩))) | (refine nw_f hS ?_; intro b w1 hS) | (refine as_i hS ?_) | (refine as_i (hS.subs (List.nil_sublist _) (by repeat (first | exact List.Sublist.refl _ | apply List.Sublist.cons_cons | apply List.Sublist.cons))) ?_) | (refine as_i (hS.subs (List.Sublist.refl _) (by repeat (first | exact List.Sublist.refl _ | apply List.Sublist.cons_cons | apply List.Sublist.cons))) ?_) | (refine bar_f hS ?_) | (refine ld_f hS 0 rfl rfl ?_) | (refine ldA_f hS 0 rfl rfl ?_) | (refine stN_f hS 0 rfl (Nat.le_of_ble_eq_true rfl) rfl rfl ?_; (conv => whnf); intro w1 hS) | (refine stM_f hS 0 rfl (Nat.le_of_ble_eq_true rfl) rfl ?_; (conv => whnf); intro w1 hS) | (refine fc_m (update_c s hs _) ?_; rintro v w3 ⟨rfl, hS'⟩; replace hS := hS.call0 hS') | (refine drawf TB_ok rfl (by kernel_rfl) (by kernel_rfl) hS (List.Sublist.refl _) (List.Sublist.refl _) ?_; intro w1 hS) | (refine br_t (by assumption) ?_) | (refine br_f (by assumption) ?_))
  exact ⟨rfl, hS.nil⟩
theorem sumI_lt (s : List UInt8) : 0 ≤ sumI s ∧ sumI s ≤ 4294967295 := by
  have hl := sumS_lt s 1 0 (by decide) (by decide)
  unfold sumI
  omega
theorem summed_c (s : List UInt8) (hs : s.length ≤ 1073741824) (w : World) : Fc Tryz.prog 23 [.string (strY s)] w fun v w' => v = .string (strY (summedT s)) ∧ St [] w w' [] := by
  refine fc_i TB_ok Tryz.func23 rfl (by kernel_rfl) ?_
  have hS := Sf.refl w
  have hsl := sumI_lt s
  repeat ((conv => whnf); first | (apply q_i; focus (intro w1 hS; (conv => whnf); first | exact ⟨rfl, rfl⟩ | ((refine ld_f hS 0 rfl rfl ?_); (conv => whnf); exact ⟨rfl, rfl⟩) | ((refine ldA_f hS 0 rfl rfl ?_); (conv => whnf); exact ⟨rfl, rfl⟩))) | (refine nw_f hS ?_; intro b w1 hS) | (refine as_i hS ?_) | (refine as_i (hS.subs (List.nil_sublist _) (by repeat (first | exact List.Sublist.refl _ | apply List.Sublist.cons_cons | apply List.Sublist.cons))) ?_) | (refine as_i (hS.subs (List.Sublist.refl _) (by repeat (first | exact List.Sublist.refl _ | apply List.Sublist.cons_cons | apply List.Sublist.cons))) ?_) | (refine bar_f hS ?_) | (refine ld_f hS 0 rfl rfl ?_) | (refine ldA_f hS 0 rfl rfl ?_) | (refine stN_f hS 0 rfl (Nat.le_of_ble_eq_true rfl) rfl rfl ?_; (conv => whnf); intro w1 hS) | (refine stM_f hS 0 rfl (Nat.le_of_ble_eq_true rfl) rfl ?_; (conv => whnf); intro w1 hS) | (refine drawf TB_ok rfl (by kernel_rfl) (by kernel_rfl) hS (List.Sublist.refl _) (List.Sublist.refl _) ?_; intro w1 hS) | (refine br_t (by assumption) ?_) | (refine br_f (by assumption) ?_))
  obtain ⟨bw, hbw⟩ : ∃ x, x = b := ⟨b, rfl⟩
  subst hbw
  replace hS : Sf [] w _ ([(bw, Obj.cells #[.slice none 0 0] 106 (0, 0))] ++ []) [] := ⟨hS.st⟩
  repeat ((conv => whnf); first | (apply q_i; focus (intro w1 hS; (conv => whnf); first | exact ⟨rfl, rfl⟩ | ((refine ld_f hS 0 rfl rfl ?_); (conv => whnf); exact ⟨rfl, rfl⟩) | ((refine ldA_f hS 0 rfl rfl ?_); (conv => whnf); exact ⟨rfl, rfl⟩))) | (refine nw_f hS ?_; intro b w1 hS) | (refine as_i hS ?_) | (refine as_i (hS.subs (List.nil_sublist _) (by repeat (first | exact List.Sublist.refl _ | apply List.Sublist.cons_cons | apply List.Sublist.cons))) ?_) | (refine as_i (hS.subs (List.Sublist.refl _) (by repeat (first | exact List.Sublist.refl _ | apply List.Sublist.cons_cons | apply List.Sublist.cons))) ?_) | (refine bar_f hS ?_) | (refine ld_f hS 0 rfl rfl ?_) | (refine ldA_f hS 0 rfl rfl ?_) | (refine stN_f hS 0 rfl (Nat.le_of_ble_eq_true rfl) rfl rfl ?_; (conv => whnf); intro w1 hS) | (refine stM_f hS 0 rfl (Nat.le_of_ble_eq_true rfl) rfl ?_; (conv => whnf); intro w1 hS) | (refine drawf TB_ok rfl (by kernel_rfl) (by kernel_rfl) hS (List.Sublist.refl _) (List.Sublist.refl _) ?_; intro w1 hS) | (refine br_t (by assumption) ?_) | (refine br_f (by assumption) ?_))
  refine fc_m (raw_c bw [] s _ (Wr.new bw) _ hS.ownF (by simp; omega)) ?_
  rintro v w2 ⟨L1, hW1, hS'⟩
  replace hS := hS.callW hS'
  rw [List.nil_append] at hW1
  repeat ((conv => whnf); first | (apply q_i; focus (intro w1 hS; (conv => whnf); first | exact ⟨rfl, rfl⟩ | ((refine ld_f hS 0 rfl rfl ?_); (conv => whnf); exact ⟨rfl, rfl⟩) | ((refine ldA_f hS 0 rfl rfl ?_); (conv => whnf); exact ⟨rfl, rfl⟩) | ((refine fc_m (sum_c s (by omega) _) ?_; rintro v w3 ⟨rfl, hS'⟩; replace hS := hS.call0 hS'); (conv => whnf); exact ⟨rfl, rfl⟩))) | (refine nw_f hS ?_; intro b w1 hS) | (refine as_i hS ?_) | (refine as_i (hS.subs (List.nil_sublist _) (by repeat (first | exact List.Sublist.refl _ | apply List.Sublist.cons_cons | apply List.Sublist.cons))) ?_) | (refine as_i (hS.subs (List.Sublist.refl _) (by repeat (first | exact List.Sublist.refl _ | apply List.Sublist.cons_cons | apply List.Sublist.cons))) ?_) | (refine bar_f hS ?_) | (refine ld_f hS 0 rfl rfl ?_) | (refine ldA_f hS 0 rfl rfl ?_) | (refine stN_f hS 0 rfl (Nat.le_of_ble_eq_true rfl) rfl rfl ?_; (conv => whnf); intro w1 hS) | (refine stM_f hS 0 rfl (Nat.le_of_ble_eq_true rfl) rfl ?_; (conv => whnf); intro w1 hS) | (refine fc_m (sum_c s (by omega) _) ?_; rintro v w3 ⟨rfl, hS'⟩; replace hS := hS.call0 hS') | (refine drawf TB_ok rfl (by kernel_rfl) (by kernel_rfl) hS (List.Sublist.refl _) (List.Sublist.refl _) ?_; intro w1 hS) | (refine br_t (by assumption) ?_) | (refine br_f (by assumption) ?_))
  refine fc_m (w32_c bw _ L1 hW1 (sumI s) hsl.1 hsl.2 _ hS.ownF (by omega)) ?_
  rintro v w3 ⟨L2, hW2, hS'⟩
  replace hS := hS.callW hS'
  repeat ((conv => whnf); first | (apply q_i; focus (intro w1 hS; (conv => whnf); first | exact ⟨rfl, rfl⟩ | ((refine ld_f hS 0 rfl rfl ?_); (conv => whnf); exact ⟨rfl, rfl⟩) | ((refine ldA_f hS 0 rfl rfl ?_); (conv => whnf); exact ⟨rfl, rfl⟩))) | (refine nw_f hS ?_; intro b w1 hS) | (refine as_i hS ?_) | (refine as_i (hS.subs (List.nil_sublist _) (by repeat (first | exact List.Sublist.refl _ | apply List.Sublist.cons_cons | apply List.Sublist.cons))) ?_) | (refine as_i (hS.subs (List.Sublist.refl _) (by repeat (first | exact List.Sublist.refl _ | apply List.Sublist.cons_cons | apply List.Sublist.cons))) ?_) | (refine bar_f hS ?_) | (refine ld_f hS 0 rfl rfl ?_) | (refine ldA_f hS 0 rfl rfl ?_) | (refine stN_f hS 0 rfl (Nat.le_of_ble_eq_true rfl) rfl rfl ?_; (conv => whnf); intro w1 hS) | (refine stM_f hS 0 rfl (Nat.le_of_ble_eq_true rfl) rfl ?_; (conv => whnf); intro w1 hS) | (refine drawf TB_ok rfl (by kernel_rfl) (by kernel_rfl) hS (List.Sublist.refl _) (List.Sublist.refl _) ?_; intro w1 hS) | (refine br_t (by assumption) ?_) | (refine br_f (by assumption) ?_))
  refine fc_m (bytes_c bw _ L2 hW2 _ hS.ownF) ?_
  rintro v w4 ⟨rfl, hS'⟩
  replace hS := hS.call0 hS'
  repeat ((conv => whnf); first | (apply q_i; focus (intro w1 hS; (conv => whnf); first | exact ⟨rfl, rfl⟩ | ((refine ld_f hS 0 rfl rfl ?_); (conv => whnf); exact ⟨rfl, rfl⟩) | ((refine ldA_f hS 0 rfl rfl ?_); (conv => whnf); exact ⟨rfl, rfl⟩))) | (refine nw_f hS ?_; intro b w1 hS) | (refine as_i hS ?_) | (refine as_i (hS.subs (List.nil_sublist _) (by repeat (first | exact List.Sublist.refl _ | apply List.Sublist.cons_cons | apply List.Sublist.cons))) ?_) | (refine as_i (hS.subs (List.Sublist.refl _) (by repeat (first | exact List.Sublist.refl _ | apply List.Sublist.cons_cons | apply List.Sublist.cons))) ?_) | (refine bar_f hS ?_) | (refine ld_f hS 0 rfl rfl ?_) | (refine ldA_f hS 0 rfl rfl ?_) | (refine stN_f hS 0 rfl (Nat.le_of_ble_eq_true rfl) rfl rfl ?_; (conv => whnf); intro w1 hS) | (refine stM_f hS 0 rfl (Nat.le_of_ble_eq_true rfl) rfl ?_; (conv => whnf); intro w1 hS) | (refine drawf TB_ok rfl (by kernel_rfl) (by kernel_rfl) hS (List.Sublist.refl _) (List.Sublist.refl _) ?_; intro w1 hS) | (refine br_t (by assumption) ?_) | (refine br_f (by assumption) ?_))
  exact ⟨rfl, hS.nil⟩
end Go.RV

/- Contracts of functions of chapter 28: what may be. Conditions: none. -/
set_option maxRecDepth 20000
set_option linter.unusedVariables false
set_option linter.unusedSimpArgs false
namespace Go.RV
open Go Go.Proofs

theorem ord_lessC (a b : Sc) : decide (0 ≤ ordI a.r a.n b.r b.n) = !lessC a b := ord_less ⟨a.r, a.n, []⟩ ⟨b.r, b.n, []⟩
def TellsC (w : World) (f : Value) (p : Sc → Bool) (xs : List Sc) : Prop := ∀ x ∈ xs, ∀ w', St [] w w' [] → Cv Tryz.prog f [.agg (encC x).toArray] w' fun v w'' => v = .bool (p x) ∧ St [] w' w'' []
theorem risesC_iff : ∀ xs : List Sc, risesC xs = true ↔ ∀ j (h : j + 1 < xs.length), lessC xs[j] xs[j + 1] = true
  | [] => by simp [risesC]
  | [x] => by simp [risesC]
  | x :: y :: r => by
    have ih := risesC_iff (y :: r)
    rw [risesC, Bool.and_eq_true, ih]
    constructor
    · rintro ⟨h1, h2⟩ j hj
      cases j with
      | zero => exact h1
      | succ j => exact h2 j (by simpa using hj)
    · intro h
      exact ⟨h 0 (by simp), fun j hj => h (j + 1) (by simpa using hj)⟩
def okAtC (f : Nat → Int) (xs : List Sc) (j : Nat) : Prop := ∀ h : j < xs.length, hasB f xs[j].r xs[j].n = true ∧ ∀ h0 : 0 < j, lessC (xs[j - 1]'(by omega)) xs[j] = true
theorem checkC_iff (f : Nat → Int) (xs : List Sc) : checkC f xs = true ↔ mayVB f = true ∧ xs.length ≤ 8 ∧ ∀ j, j < xs.length → okAtC f xs j := by
  unfold checkC okAtC
  simp only [Bool.and_eq_true, decide_eq_true_eq, List.all_eq_true, risesC_iff]
  constructor
  · rintro ⟨h1, h2, h3, h4⟩
    refine ⟨h1, h2, fun j _ hj => ⟨h3 _ (List.getElem_mem hj), fun h0 => ?_⟩⟩
    obtain ⟨k, rfl⟩ : ∃ k, j = k + 1 := ⟨j - 1, by omega⟩
    exact h4 k hj
  · rintro ⟨h1, h2, h3⟩
    refine ⟨h1, h2, fun x hx => ?_, fun j hj => ?_⟩
    · obtain ⟨j, hj, rfl⟩ := List.getElem_of_mem hx
      exact (h3 j hj hj).1
    · exact (h3 (j + 1) hj hj).2 (by omega)
theorem scheckC_c (f : Nat → Int) (hf : ∀ j, j < 8 → 0 ≤ f j ∧ f j ≤ 4294967295) (A : Option Addr) (c : Nat) (xs : List Sc) (w : World) (hR : Rd w A (flat encC xs)) (hn : xs.length ≤ 4611686018427387904) (hr : ∀ x ∈ xs, 0 ≤ x.r) :
    Fc Tryz.prog 65 [regV f A xs.length c] w fun v w' => v = .int .i64 (if checkC f xs then 0 else 4) ∧ St [] w w' [] := by
  refine fc_i TB_ok Tryz.func65 rfl (by kernel_rfl) ?_
  have hS := Sf.refl w
  have hput := fun w => put_c f hf w
  have hci := checkC_iff f xs
  cases hm : mayVB f with
  | false =>
    rw [hm] at hput
    have hc : checkC f xs = false := by unfold checkC; rw [hm]; rfl
    rw [hc]
    repeat ((conv => whnf); first | (apply q_i; focus (intro w1 hS; (conv => whnf); first | exact ⟨rfl, rfl⟩ | ((refine ld_f hS 0 rfl rfl ?_); (conv => whnf); exact ⟨rfl, rfl⟩) | ((refine ldA_f hS 0 rfl rfl ?_); (conv => whnf); exact ⟨rfl, rfl⟩) | ((refine ldN_f hS 0 rfl (Nat.le_of_ble_eq_true rfl) ?_); (conv => whnf); exact ⟨rfl, rfl⟩) | ((refine fc_m (hput _) ?_; rintro v w3 ⟨rfl, hS'⟩; replace hS := hS.call0 hS'); (conv => whnf); exact ⟨rfl, rfl⟩))) | (refine nw_f hS ?_; intro b w1 hS) | (refine as_i hS ?_) | (refine as_i (hS.subs (List.nil_sublist _) (by repeat (first | exact List.Sublist.refl _ | apply List.Sublist.cons_cons | apply List.Sublist.cons))) ?_) | (refine as_i (hS.subs (List.Sublist.refl _) (by repeat (first | exact List.Sublist.refl _ | apply List.Sublist.cons_cons | apply List.Sublist.cons))) ?_) | (refine bar_f hS ?_) | (refine ld_f hS 0 rfl rfl ?_) | (refine ldA_f hS 0 rfl rfl ?_) | (refine stN_f hS 0 rfl (Nat.le_of_ble_eq_true rfl) rfl rfl ?_; (conv => whnf); intro w1 hS) | (refine stM_f hS 0 rfl (Nat.le_of_ble_eq_true rfl) rfl ?_; (conv => whnf); intro w1 hS) | (refine ldN_f hS 0 rfl (Nat.le_of_ble_eq_true rfl) ?_) | (refine fc_m (hput _) ?_; rintro v w3 ⟨rfl, hS'⟩; replace hS := hS.call0 hS') | (refine drawf TB_ok rfl (by kernel_rfl) (by kernel_rfl) hS (List.Sublist.refl _) (List.Sublist.refl _) ?_; intro w1 hS) | (refine br_t (by assumption) ?_) | (refine br_f (by assumption) ?_))
    exact ⟨rfl, hS.nil⟩
  | true =>
    rw [hm] at hput
    by_cases h8 : 8 < xs.length
    · have g8 : decide ((8 : Int) < (xs.length : Int)) = true := decide_eq_true (by omega)
      have hc : checkC f xs = false := by
        cases hc : checkC f xs with
        | false => rfl
        | true => have := (hci.1 hc).2.1; omega
      rw [hc]
      repeat ((conv => whnf); first | (apply q_i; focus (intro w1 hS; (conv => whnf); first | exact ⟨rfl, rfl⟩ | ((refine ld_f hS 0 rfl rfl ?_); (conv => whnf); exact ⟨rfl, rfl⟩) | ((refine ldA_f hS 0 rfl rfl ?_); (conv => whnf); exact ⟨rfl, rfl⟩) | ((refine ldN_f hS 0 rfl (Nat.le_of_ble_eq_true rfl) ?_); (conv => whnf); exact ⟨rfl, rfl⟩) | ((refine fc_m (hput _) ?_; rintro v w3 ⟨rfl, hS'⟩; replace hS := hS.call0 hS'); (conv => whnf); exact ⟨rfl, rfl⟩))) | (refine nw_f hS ?_; intro b w1 hS) | (refine as_i hS ?_) | (refine as_i (hS.subs (List.nil_sublist _) (by repeat (first | exact List.Sublist.refl _ | apply List.Sublist.cons_cons | apply List.Sublist.cons))) ?_) | (refine as_i (hS.subs (List.Sublist.refl _) (by repeat (first | exact List.Sublist.refl _ | apply List.Sublist.cons_cons | apply List.Sublist.cons))) ?_) | (refine bar_f hS ?_) | (refine ld_f hS 0 rfl rfl ?_) | (refine ldA_f hS 0 rfl rfl ?_) | (refine stN_f hS 0 rfl (Nat.le_of_ble_eq_true rfl) rfl rfl ?_; (conv => whnf); intro w1 hS) | (refine stM_f hS 0 rfl (Nat.le_of_ble_eq_true rfl) rfl ?_; (conv => whnf); intro w1 hS) | (refine ldN_f hS 0 rfl (Nat.le_of_ble_eq_true rfl) ?_) | (refine fc_m (hput _) ?_; rintro v w3 ⟨rfl, hS'⟩; replace hS := hS.call0 hS') | (refine drawf TB_ok rfl (by kernel_rfl) (by kernel_rfl) hS (List.Sublist.refl _) (List.Sublist.refl _) ?_; intro w1 hS) | (refine br_t (by assumption) ?_) | (refine br_f (by assumption) ?_))
      exact ⟨rfl, hS.nil⟩
    · have g8 : decide ((8 : Int) < (xs.length : Int)) = false := decide_eq_false (by omega)
      repeat ((conv => whnf); first | (apply q_i; focus (intro w1 hS; (conv => whnf); first | exact ⟨rfl, rfl⟩ | ((refine ld_f hS 0 rfl rfl ?_); (conv => whnf); exact ⟨rfl, rfl⟩) | ((refine ldA_f hS 0 rfl rfl ?_); (conv => whnf); exact ⟨rfl, rfl⟩) | ((refine ldN_f hS 0 rfl (Nat.le_of_ble_eq_true rfl) ?_); (conv => whnf); exact ⟨rfl, rfl⟩) | ((refine fc_m (hput _) ?_; rintro v w3 ⟨rfl, hS'⟩; replace hS := hS.call0 hS'); (conv => whnf); exact ⟨rfl, rfl⟩))) | (refine nw_f hS ?_; intro b w1 hS) | (refine as_i hS ?_) | (refine as_i (hS.subs (List.nil_sublist _) (by repeat (first | exact List.Sublist.refl _ | apply List.Sublist.cons_cons | apply List.Sublist.cons))) ?_) | (refine as_i (hS.subs (List.Sublist.refl _) (by repeat (first | exact List.Sublist.refl _ | apply List.Sublist.cons_cons | apply List.Sublist.cons))) ?_) | (refine bar_f hS ?_) | (refine ld_f hS 0 rfl rfl ?_) | (refine ldA_f hS 0 rfl rfl ?_) | (refine stN_f hS 0 rfl (Nat.le_of_ble_eq_true rfl) rfl rfl ?_; (conv => whnf); intro w1 hS) | (refine stM_f hS 0 rfl (Nat.le_of_ble_eq_true rfl) rfl ?_; (conv => whnf); intro w1 hS) | (refine ldN_f hS 0 rfl (Nat.le_of_ble_eq_true rfl) ?_) | (refine fc_m (hput _) ?_; rintro v w3 ⟨rfl, hS'⟩; replace hS := hS.call0 hS') | (refine drawf TB_ok rfl (by kernel_rfl) (by kernel_rfl) hS (List.Sublist.refl _) (List.Sublist.refl _) ?_; intro w1 hS) | (refine br_t (by assumption) ?_) | (refine br_f (by assumption) ?_))
      refine loop_i TB_ok (fun i : Nat => [(24, .int .i64 i)]) (fun i w' => i ≤ xs.length ∧ (∀ j, j < i → okAtC f xs j) ∧ Sf [] w w' [] [_]) (fun i => xs.length - i) 0 rfl ⟨Nat.zero_le _, fun j h => by omega, hS⟩ ?_
      rintro i us w2 ⟨hi, hj, hS⟩
      by_cases hlt : i < xs.length
      · have h1 : decide ((i : Int) < (xs.length : Int)) = true := decide_eq_true (by omega)
        obtain ⟨x, off, rfl⟩ := hR.form (flat_ne encC_len (by omega) hlt)
        have hh := fun w => has_c f xs[i].r xs[i].n (hr _ (List.getElem_mem hlt)) w
        have bad : ¬ okAtC f xs i → checkC f xs = false := fun h => by
          cases hc : checkC f xs with
          | false => rfl
          | true => exact absurd ((hci.1 hc).2.2 i hlt) h
        cases hb : hasB f xs[i].r xs[i].n with
        | false =>
          rw [hb] at hh
          rw [bad (fun h => by have := (h hlt).1; rw [hb] at this; cases this)]
          repeat ((conv => whnf); first | (apply q_i; focus (intro w1 hS; (conv => whnf); first | exact ⟨rfl, rfl⟩ | ((refine ld_f hS 0 rfl rfl ?_); (conv => whnf); exact ⟨rfl, rfl⟩) | ((refine ld_f hS 1 rfl rfl ?_); (conv => whnf); exact ⟨rfl, rfl⟩) | ((refine ldA_f hS 0 rfl rfl ?_); (conv => whnf); exact ⟨rfl, rfl⟩) | ((refine ldA_f hS 1 rfl rfl ?_); (conv => whnf); exact ⟨rfl, rfl⟩) | ((refine .mk ⟨by omega, by omega⟩ ?_; refine ix_i rfl ?_); (conv => whnf); exact ⟨rfl, rfl⟩) | ((refine ldN_el encC_len (hR.below hS.nil).at (i := i) hlt rfl rfl ?_); (conv => whnf); exact ⟨rfl, rfl⟩))) | (refine nw_f hS ?_; intro b w1 hS) | (refine as_i hS ?_) | (refine as_i (hS.subs (List.nil_sublist _) (by repeat (first | exact List.Sublist.refl _ | apply List.Sublist.cons_cons | apply List.Sublist.cons))) ?_) | (refine as_i (hS.subs (List.Sublist.refl _) (by repeat (first | exact List.Sublist.refl _ | apply List.Sublist.cons_cons | apply List.Sublist.cons))) ?_) | (refine bar_f hS ?_) | (refine ld_f hS 0 rfl rfl ?_) | (refine ld_f hS 1 rfl rfl ?_) | (refine ldA_f hS 0 rfl rfl ?_) | (refine ldA_f hS 1 rfl rfl ?_) | (refine stN_f hS 0 rfl (Nat.le_of_ble_eq_true rfl) rfl rfl ?_; (conv => whnf); intro w1 hS) | (refine stN_f hS 1 rfl (Nat.le_of_ble_eq_true rfl) rfl rfl ?_; (conv => whnf); intro w1 hS) | (refine stM_f hS 0 rfl (Nat.le_of_ble_eq_true rfl) rfl ?_; (conv => whnf); intro w1 hS) | (refine stM_f hS 1 rfl (Nat.le_of_ble_eq_true rfl) rfl ?_; (conv => whnf); intro w1 hS) | (refine .mk ⟨by omega, by omega⟩ ?_; refine ix_i rfl ?_) | (refine ldN_el encC_len (hR.below hS.nil).at (i := i) hlt rfl rfl ?_) | (refine br_t (by assumption) ?_) | (refine br_f (by assumption) ?_))
          refine drawf (Ls := [_, _]) TB_ok rfl (by kernel_rfl) (by kernel_rfl) hS (List.Sublist.refl _) (List.Sublist.refl _) ?_; intro w1 hS
          repeat ((conv => whnf); first | (apply q_i; focus (intro w1 hS; (conv => whnf); first | exact ⟨rfl, rfl⟩ | ((refine ld_f hS 0 rfl rfl ?_); (conv => whnf); exact ⟨rfl, rfl⟩) | ((refine ld_f hS 1 rfl rfl ?_); (conv => whnf); exact ⟨rfl, rfl⟩) | ((refine ldA_f hS 0 rfl rfl ?_); (conv => whnf); exact ⟨rfl, rfl⟩) | ((refine ldA_f hS 1 rfl rfl ?_); (conv => whnf); exact ⟨rfl, rfl⟩) | ((refine ldN_f hS 0 rfl (Nat.le_of_ble_eq_true rfl) ?_); (conv => whnf); exact ⟨rfl, rfl⟩) | ((refine ldN_f hS 1 rfl (Nat.le_of_ble_eq_true rfl) ?_); (conv => whnf); exact ⟨rfl, rfl⟩) | ((refine fc_m (hh _) ?_; rintro v w3 ⟨rfl, hS'⟩; replace hS := hS.call0 hS'); (conv => whnf); exact ⟨rfl, rfl⟩))) | (refine nw_f hS ?_; intro b w1 hS) | (refine as_i hS ?_) | (refine as_i (hS.subs (List.nil_sublist _) (by repeat (first | exact List.Sublist.refl _ | apply List.Sublist.cons_cons | apply List.Sublist.cons))) ?_) | (refine as_i (hS.subs (List.Sublist.refl _) (by repeat (first | exact List.Sublist.refl _ | apply List.Sublist.cons_cons | apply List.Sublist.cons))) ?_) | (refine bar_f hS ?_) | (refine ld_f hS 0 rfl rfl ?_) | (refine ld_f hS 1 rfl rfl ?_) | (refine ldA_f hS 0 rfl rfl ?_) | (refine ldA_f hS 1 rfl rfl ?_) | (refine stN_f hS 0 rfl (Nat.le_of_ble_eq_true rfl) rfl rfl ?_; (conv => whnf); intro w1 hS) | (refine stN_f hS 1 rfl (Nat.le_of_ble_eq_true rfl) rfl rfl ?_; (conv => whnf); intro w1 hS) | (refine stM_f hS 0 rfl (Nat.le_of_ble_eq_true rfl) rfl ?_; (conv => whnf); intro w1 hS) | (refine stM_f hS 1 rfl (Nat.le_of_ble_eq_true rfl) rfl ?_; (conv => whnf); intro w1 hS) | (refine ldN_f hS 0 rfl (Nat.le_of_ble_eq_true rfl) ?_) | (refine ldN_f hS 1 rfl (Nat.le_of_ble_eq_true rfl) ?_) | (refine fc_m (hh _) ?_; rintro v w3 ⟨rfl, hS'⟩; replace hS := hS.call0 hS') | (refine drawf TB_ok rfl (by kernel_rfl) (by kernel_rfl) hS (List.Sublist.refl _) (List.Sublist.refl _) ?_; intro w1 hS) | (refine br_t (by assumption) ?_) | (refine br_f (by assumption) ?_))
          exact ⟨rfl, hS.nil⟩
        | true =>
          rw [hb] at hh
          by_cases h0 : 0 < i
          · have g0 : decide ((0 : Int) < (i : Int)) = true := decide_eq_true (by omega)
            have hw : IntKind.i64.wrap ((i : Int) - 1) = (i : Int) - 1 := wrap_i64 (by omega) (by omega)
            have hlt1 : i - 1 < xs.length := by omega
            have hol := ord_lessC xs[i - 1] xs[i]
            cases hl : lessC xs[i - 1] xs[i] with
            | false =>
              rw [hl] at hol
              rw [bad (fun h => by have := (h hlt).2 h0; rw [hl] at this; cases this)]
              repeat ((conv => whnf); first | (apply q_i; focus (intro w1 hS; (conv => whnf); first | exact ⟨rfl, rfl⟩ | ((refine ld_f hS 0 rfl rfl ?_); (conv => whnf); exact ⟨rfl, rfl⟩) | ((refine ld_f hS 1 rfl rfl ?_); (conv => whnf); exact ⟨rfl, rfl⟩) | ((refine ldA_f hS 0 rfl rfl ?_); (conv => whnf); exact ⟨rfl, rfl⟩) | ((refine ldA_f hS 1 rfl rfl ?_); (conv => whnf); exact ⟨rfl, rfl⟩) | ((refine .mk ⟨by omega, by omega⟩ ?_; refine ix_i rfl ?_); (conv => whnf); exact ⟨rfl, rfl⟩) | ((refine ldN_el encC_len (hR.below hS.nil).at (i := i) hlt rfl rfl ?_); (conv => whnf); exact ⟨rfl, rfl⟩))) | (refine nw_f hS ?_; intro b w1 hS) | (refine as_i hS ?_) | (refine as_i (hS.subs (List.nil_sublist _) (by repeat (first | exact List.Sublist.refl _ | apply List.Sublist.cons_cons | apply List.Sublist.cons))) ?_) | (refine as_i (hS.subs (List.Sublist.refl _) (by repeat (first | exact List.Sublist.refl _ | apply List.Sublist.cons_cons | apply List.Sublist.cons))) ?_) | (refine bar_f hS ?_) | (refine ld_f hS 0 rfl rfl ?_) | (refine ld_f hS 1 rfl rfl ?_) | (refine ldA_f hS 0 rfl rfl ?_) | (refine ldA_f hS 1 rfl rfl ?_) | (refine stN_f hS 0 rfl (Nat.le_of_ble_eq_true rfl) rfl rfl ?_; (conv => whnf); intro w1 hS) | (refine stN_f hS 1 rfl (Nat.le_of_ble_eq_true rfl) rfl rfl ?_; (conv => whnf); intro w1 hS) | (refine stM_f hS 0 rfl (Nat.le_of_ble_eq_true rfl) rfl ?_; (conv => whnf); intro w1 hS) | (refine stM_f hS 1 rfl (Nat.le_of_ble_eq_true rfl) rfl ?_; (conv => whnf); intro w1 hS) | (refine .mk ⟨by omega, by omega⟩ ?_; refine ix_i rfl ?_) | (refine ldN_el encC_len (hR.below hS.nil).at (i := i) hlt rfl rfl ?_) | (refine br_t (by assumption) ?_) | (refine br_f (by assumption) ?_))
              refine drawf (Ls := [_, _]) TB_ok rfl (by kernel_rfl) (by kernel_rfl) hS (List.Sublist.refl _) (List.Sublist.refl _) ?_; intro w1 hS
              repeat ((conv => whnf); first | (apply q_i; focus (intro w1 hS; (conv => whnf); first | exact ⟨rfl, rfl⟩ | ((refine ld_f hS 0 rfl rfl ?_); (conv => whnf); exact ⟨rfl, rfl⟩) | ((refine ld_f hS 1 rfl rfl ?_); (conv => whnf); exact ⟨rfl, rfl⟩) | ((refine ldA_f hS 0 rfl rfl ?_); (conv => whnf); exact ⟨rfl, rfl⟩) | ((refine ldA_f hS 1 rfl rfl ?_); (conv => whnf); exact ⟨rfl, rfl⟩) | ((refine ldN_f hS 0 rfl (Nat.le_of_ble_eq_true rfl) ?_); (conv => whnf); exact ⟨rfl, rfl⟩) | ((refine ldN_f hS 1 rfl (Nat.le_of_ble_eq_true rfl) ?_); (conv => whnf); exact ⟨rfl, rfl⟩) | ((refine fc_m (hh _) ?_; rintro v w3 ⟨rfl, hS'⟩; replace hS := hS.call0 hS'); (conv => whnf); exact ⟨rfl, rfl⟩) | ((refine .mk ⟨by omega, by omega⟩ ?_; refine ix_i rfl ?_); (conv => whnf); exact ⟨rfl, rfl⟩) | ((refine ldN_elp encC_len (hR.below hS.nil).at (i := i - 1) (j0 := 0) hlt1 (by show off + (IntKind.i64.wrap ((i : Int) - 1)).toNat * 4 = off + (i - 1) * 4 + 0; omega) (Nat.le_of_ble_eq_true rfl) [.int .u8 xs[i - 1].r, .int .u32 xs[i - 1].n] rfl ?_); (conv => whnf); exact ⟨rfl, rfl⟩) | ((refine fc_m (order_c _ _ _ _ _) ?_; rintro v w3 ⟨rfl, hS'⟩; replace hS := hS.call0 hS'); (conv => whnf); exact ⟨rfl, rfl⟩))) | (refine nw_f hS ?_; intro b w1 hS) | (refine as_i hS ?_) | (refine as_i (hS.subs (List.nil_sublist _) (by repeat (first | exact List.Sublist.refl _ | apply List.Sublist.cons_cons | apply List.Sublist.cons))) ?_) | (refine as_i (hS.subs (List.Sublist.refl _) (by repeat (first | exact List.Sublist.refl _ | apply List.Sublist.cons_cons | apply List.Sublist.cons))) ?_) | (refine bar_f hS ?_) | (refine ld_f hS 0 rfl rfl ?_) | (refine ld_f hS 1 rfl rfl ?_) | (refine ldA_f hS 0 rfl rfl ?_) | (refine ldA_f hS 1 rfl rfl ?_) | (refine stN_f hS 0 rfl (Nat.le_of_ble_eq_true rfl) rfl rfl ?_; (conv => whnf); intro w1 hS) | (refine stN_f hS 1 rfl (Nat.le_of_ble_eq_true rfl) rfl rfl ?_; (conv => whnf); intro w1 hS) | (refine stM_f hS 0 rfl (Nat.le_of_ble_eq_true rfl) rfl ?_; (conv => whnf); intro w1 hS) | (refine stM_f hS 1 rfl (Nat.le_of_ble_eq_true rfl) rfl ?_; (conv => whnf); intro w1 hS) | (refine ldN_f hS 0 rfl (Nat.le_of_ble_eq_true rfl) ?_) | (refine ldN_f hS 1 rfl (Nat.le_of_ble_eq_true rfl) ?_) | (refine fc_m (hh _) ?_; rintro v w3 ⟨rfl, hS'⟩; replace hS := hS.call0 hS') | (refine .mk ⟨by omega, by omega⟩ ?_; refine ix_i rfl ?_) | (refine ldN_elp encC_len (hR.below hS.nil).at (i := i - 1) (j0 := 0) hlt1 (by show off + (IntKind.i64.wrap ((i : Int) - 1)).toNat * 4 = off + (i - 1) * 4 + 0; omega) (Nat.le_of_ble_eq_true rfl) [.int .u8 xs[i - 1].r, .int .u32 xs[i - 1].n] rfl ?_) | (refine fc_m (order_c _ _ _ _ _) ?_; rintro v w3 ⟨rfl, hS'⟩; replace hS := hS.call0 hS') | (refine drawf TB_ok rfl (by kernel_rfl) (by kernel_rfl) hS (List.Sublist.refl _) (List.Sublist.refl _) ?_; intro w1 hS) | (refine br_t (by assumption) ?_) | (refine br_f (by assumption) ?_))
              exact ⟨rfl, hS.nil⟩
            | true =>
              rw [hl] at hol
              repeat ((conv => whnf); first | (apply q_i; focus (intro w1 hS; (conv => whnf); first | exact ⟨rfl, rfl⟩ | ((refine ld_f hS 0 rfl rfl ?_); (conv => whnf); exact ⟨rfl, rfl⟩) | ((refine ld_f hS 1 rfl rfl ?_); (conv => whnf); exact ⟨rfl, rfl⟩) | ((refine ldA_f hS 0 rfl rfl ?_); (conv => whnf); exact ⟨rfl, rfl⟩) | ((refine ldA_f hS 1 rfl rfl ?_); (conv => whnf); exact ⟨rfl, rfl⟩) | ((refine .mk ⟨by omega, by omega⟩ ?_; refine ix_i rfl ?_); (conv => whnf); exact ⟨rfl, rfl⟩) | ((refine ldN_el encC_len (hR.below hS.nil).at (i := i) hlt rfl rfl ?_); (conv => whnf); exact ⟨rfl, rfl⟩))) | (refine nw_f hS ?_; intro b w1 hS) | (refine as_i hS ?_) | (refine as_i (hS.subs (List.nil_sublist _) (by repeat (first | exact List.Sublist.refl _ | apply List.Sublist.cons_cons | apply List.Sublist.cons))) ?_) | (refine as_i (hS.subs (List.Sublist.refl _) (by repeat (first | exact List.Sublist.refl _ | apply List.Sublist.cons_cons | apply List.Sublist.cons))) ?_) | (refine bar_f hS ?_) | (refine ld_f hS 0 rfl rfl ?_) | (refine ld_f hS 1 rfl rfl ?_) | (refine ldA_f hS 0 rfl rfl ?_) | (refine ldA_f hS 1 rfl rfl ?_) | (refine stN_f hS 0 rfl (Nat.le_of_ble_eq_true rfl) rfl rfl ?_; (conv => whnf); intro w1 hS) | (refine stN_f hS 1 rfl (Nat.le_of_ble_eq_true rfl) rfl rfl ?_; (conv => whnf); intro w1 hS) | (refine stM_f hS 0 rfl (Nat.le_of_ble_eq_true rfl) rfl ?_; (conv => whnf); intro w1 hS) | (refine stM_f hS 1 rfl (Nat.le_of_ble_eq_true rfl) rfl ?_; (conv => whnf); intro w1 hS) | (refine .mk ⟨by omega, by omega⟩ ?_; refine ix_i rfl ?_) | (refine ldN_el encC_len (hR.below hS.nil).at (i := i) hlt rfl rfl ?_) | (refine br_t (by assumption) ?_) | (refine br_f (by assumption) ?_))
              refine drawf (Ls := [_, _]) TB_ok rfl (by kernel_rfl) (by kernel_rfl) hS (List.Sublist.refl _) (List.Sublist.refl _) ?_; intro w1 hS
              repeat ((conv => whnf); first | (apply q_i; focus (intro w1 hS; (conv => whnf); first | exact ⟨rfl, rfl⟩ | ((refine ld_f hS 0 rfl rfl ?_); (conv => whnf); exact ⟨rfl, rfl⟩) | ((refine ld_f hS 1 rfl rfl ?_); (conv => whnf); exact ⟨rfl, rfl⟩) | ((refine ldA_f hS 0 rfl rfl ?_); (conv => whnf); exact ⟨rfl, rfl⟩) | ((refine ldA_f hS 1 rfl rfl ?_); (conv => whnf); exact ⟨rfl, rfl⟩) | ((refine ldN_f hS 0 rfl (Nat.le_of_ble_eq_true rfl) ?_); (conv => whnf); exact ⟨rfl, rfl⟩) | ((refine ldN_f hS 1 rfl (Nat.le_of_ble_eq_true rfl) ?_); (conv => whnf); exact ⟨rfl, rfl⟩) | ((refine fc_m (hh _) ?_; rintro v w3 ⟨rfl, hS'⟩; replace hS := hS.call0 hS'); (conv => whnf); exact ⟨rfl, rfl⟩) | ((refine .mk ⟨by omega, by omega⟩ ?_; refine ix_i rfl ?_); (conv => whnf); exact ⟨rfl, rfl⟩) | ((refine ldN_elp encC_len (hR.below hS.nil).at (i := i - 1) (j0 := 0) hlt1 (by show off + (IntKind.i64.wrap ((i : Int) - 1)).toNat * 4 = off + (i - 1) * 4 + 0; omega) (Nat.le_of_ble_eq_true rfl) [.int .u8 xs[i - 1].r, .int .u32 xs[i - 1].n] rfl ?_); (conv => whnf); exact ⟨rfl, rfl⟩) | ((refine fc_m (order_c _ _ _ _ _) ?_; rintro v w3 ⟨rfl, hS'⟩; replace hS := hS.call0 hS'); (conv => whnf); exact ⟨rfl, rfl⟩))) | (refine nw_f hS ?_; intro b w1 hS) | (refine as_i hS ?_) | (refine as_i (hS.subs (List.nil_sublist _) (by repeat (first | exact List.Sublist.refl _ | apply List.Sublist.cons_cons | apply List.Sublist.cons))) ?_) | (refine as_i (hS.subs (List.Sublist.refl _) (by repeat (first | exact List.Sublist.refl _ | apply List.Sublist.cons_cons | apply List.Sublist.cons))) ?_) | (refine bar_f hS ?_) | (refine ld_f hS 0 rfl rfl ?_) | (refine ld_f hS 1 rfl rfl ?_) | (refine ldA_f hS 0 rfl rfl ?_) | (refine ldA_f hS 1 rfl rfl ?_) | (refine stN_f hS 0 rfl (Nat.le_of_ble_eq_true rfl) rfl rfl ?_; (conv => whnf); intro w1 hS) | (refine stN_f hS 1 rfl (Nat.le_of_ble_eq_true rfl) rfl rfl ?_; (conv => whnf); intro w1 hS) | (refine stM_f hS 0 rfl (Nat.le_of_ble_eq_true rfl) rfl ?_; (conv => whnf); intro w1 hS) | (refine stM_f hS 1 rfl (Nat.le_of_ble_eq_true rfl) rfl ?_; (conv => whnf); intro w1 hS) | (refine ldN_f hS 0 rfl (Nat.le_of_ble_eq_true rfl) ?_) | (refine ldN_f hS 1 rfl (Nat.le_of_ble_eq_true rfl) ?_) | (refine fc_m (hh _) ?_; rintro v w3 ⟨rfl, hS'⟩; replace hS := hS.call0 hS') | (refine .mk ⟨by omega, by omega⟩ ?_; refine ix_i rfl ?_) | (refine ldN_elp encC_len (hR.below hS.nil).at (i := i - 1) (j0 := 0) hlt1 (by show off + (IntKind.i64.wrap ((i : Int) - 1)).toNat * 4 = off + (i - 1) * 4 + 0; omega) (Nat.le_of_ble_eq_true rfl) [.int .u8 xs[i - 1].r, .int .u32 xs[i - 1].n] rfl ?_) | (refine fc_m (order_c _ _ _ _ _) ?_; rintro v w3 ⟨rfl, hS'⟩; replace hS := hS.call0 hS') | (refine drawf TB_ok rfl (by kernel_rfl) (by kernel_rfl) hS (List.Sublist.refl _) (List.Sublist.refl _) ?_; intro w1 hS) | (refine br_t (by assumption) ?_) | (refine br_f (by assumption) ?_))
              refine ⟨rfl, i + 1, ?_, ⟨by omega, fun j h => ?_, hS.subs (List.Sublist.refl _) (.cons _ (.refl _))⟩, by omega⟩
              · rw [wi hlt (by omega)]
                rfl
              · by_cases e : j = i
                · subst e; exact fun _ => ⟨hb, fun _ => hl⟩
                · exact hj j (by omega)
          · have g0 : decide ((0 : Int) < (i : Int)) = false := decide_eq_false (by omega)
            repeat ((conv => whnf); first | (apply q_i; focus (intro w1 hS; (conv => whnf); first | exact ⟨rfl, rfl⟩ | ((refine ld_f hS 0 rfl rfl ?_); (conv => whnf); exact ⟨rfl, rfl⟩) | ((refine ld_f hS 1 rfl rfl ?_); (conv => whnf); exact ⟨rfl, rfl⟩) | ((refine ldA_f hS 0 rfl rfl ?_); (conv => whnf); exact ⟨rfl, rfl⟩) | ((refine ldA_f hS 1 rfl rfl ?_); (conv => whnf); exact ⟨rfl, rfl⟩) | ((refine .mk ⟨by omega, by omega⟩ ?_; refine ix_i rfl ?_); (conv => whnf); exact ⟨rfl, rfl⟩) | ((refine ldN_el encC_len (hR.below hS.nil).at (i := i) hlt rfl rfl ?_); (conv => whnf); exact ⟨rfl, rfl⟩))) | (refine nw_f hS ?_; intro b w1 hS) | (refine as_i hS ?_) | (refine as_i (hS.subs (List.nil_sublist _) (by repeat (first | exact List.Sublist.refl _ | apply List.Sublist.cons_cons | apply List.Sublist.cons))) ?_) | (refine as_i (hS.subs (List.Sublist.refl _) (by repeat (first | exact List.Sublist.refl _ | apply List.Sublist.cons_cons | apply List.Sublist.cons))) ?_) | (refine bar_f hS ?_) | (refine ld_f hS 0 rfl rfl ?_) | (refine ld_f hS 1 rfl rfl ?_) | (refine ldA_f hS 0 rfl rfl ?_) | (refine ldA_f hS 1 rfl rfl ?_) | (refine stN_f hS 0 rfl (Nat.le_of_ble_eq_true rfl) rfl rfl ?_; (conv => whnf); intro w1 hS) | (refine stN_f hS 1 rfl (Nat.le_of_ble_eq_true rfl) rfl rfl ?_; (conv => whnf); intro w1 hS) | (refine stM_f hS 0 rfl (Nat.le_of_ble_eq_true rfl) rfl ?_; (conv => whnf); intro w1 hS) | (refine stM_f hS 1 rfl (Nat.le_of_ble_eq_true rfl) rfl ?_; (conv => whnf); intro w1 hS) | (refine .mk ⟨by omega, by omega⟩ ?_; refine ix_i rfl ?_) | (refine ldN_el encC_len (hR.below hS.nil).at (i := i) hlt rfl rfl ?_) | (refine br_t (by assumption) ?_) | (refine br_f (by assumption) ?_))
            refine drawf (Ls := [_, _]) TB_ok rfl (by kernel_rfl) (by kernel_rfl) hS (List.Sublist.refl _) (List.Sublist.refl _) ?_; intro w1 hS
            repeat ((conv => whnf); first | (apply q_i; focus (intro w1 hS; (conv => whnf); first | exact ⟨rfl, rfl⟩ | ((refine ld_f hS 0 rfl rfl ?_); (conv => whnf); exact ⟨rfl, rfl⟩) | ((refine ld_f hS 1 rfl rfl ?_); (conv => whnf); exact ⟨rfl, rfl⟩) | ((refine ldA_f hS 0 rfl rfl ?_); (conv => whnf); exact ⟨rfl, rfl⟩) | ((refine ldA_f hS 1 rfl rfl ?_); (conv => whnf); exact ⟨rfl, rfl⟩) | ((refine ldN_f hS 0 rfl (Nat.le_of_ble_eq_true rfl) ?_); (conv => whnf); exact ⟨rfl, rfl⟩) | ((refine ldN_f hS 1 rfl (Nat.le_of_ble_eq_true rfl) ?_); (conv => whnf); exact ⟨rfl, rfl⟩) | ((refine fc_m (hh _) ?_; rintro v w3 ⟨rfl, hS'⟩; replace hS := hS.call0 hS'); (conv => whnf); exact ⟨rfl, rfl⟩))) | (refine nw_f hS ?_; intro b w1 hS) | (refine as_i hS ?_) | (refine as_i (hS.subs (List.nil_sublist _) (by repeat (first | exact List.Sublist.refl _ | apply List.Sublist.cons_cons | apply List.Sublist.cons))) ?_) | (refine as_i (hS.subs (List.Sublist.refl _) (by repeat (first | exact List.Sublist.refl _ | apply List.Sublist.cons_cons | apply List.Sublist.cons))) ?_) | (refine bar_f hS ?_) | (refine ld_f hS 0 rfl rfl ?_) | (refine ld_f hS 1 rfl rfl ?_) | (refine ldA_f hS 0 rfl rfl ?_) | (refine ldA_f hS 1 rfl rfl ?_) | (refine stN_f hS 0 rfl (Nat.le_of_ble_eq_true rfl) rfl rfl ?_; (conv => whnf); intro w1 hS) | (refine stN_f hS 1 rfl (Nat.le_of_ble_eq_true rfl) rfl rfl ?_; (conv => whnf); intro w1 hS) | (refine stM_f hS 0 rfl (Nat.le_of_ble_eq_true rfl) rfl ?_; (conv => whnf); intro w1 hS) | (refine stM_f hS 1 rfl (Nat.le_of_ble_eq_true rfl) rfl ?_; (conv => whnf); intro w1 hS) | (refine ldN_f hS 0 rfl (Nat.le_of_ble_eq_true rfl) ?_) | (refine ldN_f hS 1 rfl (Nat.le_of_ble_eq_true rfl) ?_) | (refine fc_m (hh _) ?_; rintro v w3 ⟨rfl, hS'⟩; replace hS := hS.call0 hS') | (refine drawf TB_ok rfl (by kernel_rfl) (by kernel_rfl) hS (List.Sublist.refl _) (List.Sublist.refl _) ?_; intro w1 hS) | (refine br_t (by assumption) ?_) | (refine br_f (by assumption) ?_))
            refine ⟨rfl, i + 1, ?_, ⟨by omega, fun j h => ?_, hS.subs (List.Sublist.refl _) (.cons _ (.refl _))⟩, by omega⟩
            · rw [wi hlt (by omega)]
              rfl
            · by_cases e : j = i
              · subst e; exact fun _ => ⟨hb, fun h => absurd h h0⟩
              · exact hj j (by omega)
      · have h1 : decide ((i : Int) < (xs.length : Int)) = false := decide_eq_false (by omega)
        rw [hci.2 ⟨hm, by omega, fun j h => hj j (by omega)⟩]
        repeat ((conv => whnf); first | (apply q_i; focus (intro w1 hS; (conv => whnf); first | exact ⟨rfl, rfl⟩ | ((refine ld_f hS 0 rfl rfl ?_); (conv => whnf); exact ⟨rfl, rfl⟩) | ((refine ldA_f hS 0 rfl rfl ?_); (conv => whnf); exact ⟨rfl, rfl⟩))) | (refine nw_f hS ?_; intro b w1 hS) | (refine as_i hS ?_) | (refine as_i (hS.subs (List.nil_sublist _) (by repeat (first | exact List.Sublist.refl _ | apply List.Sublist.cons_cons | apply List.Sublist.cons))) ?_) | (refine as_i (hS.subs (List.Sublist.refl _) (by repeat (first | exact List.Sublist.refl _ | apply List.Sublist.cons_cons | apply List.Sublist.cons))) ?_) | (refine bar_f hS ?_) | (refine ld_f hS 0 rfl rfl ?_) | (refine ldA_f hS 0 rfl rfl ?_) | (refine stN_f hS 0 rfl (Nat.le_of_ble_eq_true rfl) rfl rfl ?_; (conv => whnf); intro w1 hS) | (refine stM_f hS 0 rfl (Nat.le_of_ble_eq_true rfl) rfl ?_; (conv => whnf); intro w1 hS) | (refine drawf TB_ok rfl (by kernel_rfl) (by kernel_rfl) hS (List.Sublist.refl _) (List.Sublist.refl _) ?_; intro w1 hS) | (refine br_t (by assumption) ?_) | (refine br_f (by assumption) ?_))
        exact ⟨rfl, hS.nil⟩
theorem indexC_c (A : Option Addr) (c : Nat) (xs : List Sc) (f : Value) (p : Sc → Bool) (w : World) (hR : Rd w A (flat encC xs)) (hn : xs.length ≤ 4611686018427387904) (hf : TellsC w f p xs) :
    Fc Tryz.prog 95 [.slice A xs.length c, f] w fun v w' => (∃ i : Int, v = .int .i64 i ∧ decide (0 ≤ i) = xs.any p) ∧ St [] w w' [] := by
  refine fc_i TB_ok Tryz.func95 rfl (by kernel_rfl) ?_
  have hS := Sf.refl w
  repeat ((conv => whnf); first | (apply q_i; focus (intro w1 hS; (conv => whnf); first | exact ⟨rfl, rfl⟩)) | (refine nw_f hS ?_; intro b w1 hS) | (refine as_i hS ?_) | (refine as_i (hS.subs (List.nil_sublist _) (by repeat (first | exact List.Sublist.refl _ | apply List.Sublist.cons_cons | apply List.Sublist.cons))) ?_) | (refine as_i (hS.subs (List.Sublist.refl _) (by repeat (first | exact List.Sublist.refl _ | apply List.Sublist.cons_cons | apply List.Sublist.cons))) ?_) | (refine bar_f hS ?_) | (refine drawf TB_ok rfl (by kernel_rfl) (by kernel_rfl) hS (List.Sublist.refl _) (List.Sublist.refl _) ?_; intro w1 hS) | (refine br_t (by assumption) ?_) | (refine br_f (by assumption) ?_))
  refine loop_i TB_ok (fun i : Nat => [(8, .int .i64 i)]) (fun i w' => i ≤ xs.length ∧ (xs.take i).any p = false ∧ Sf [] w w' [] []) (fun i => xs.length - i) 0 rfl ⟨Nat.zero_le _, by simp, hS⟩ ?_
  rintro i us w2 ⟨hi, hno, hS⟩
  (conv => whnf)
  refine br_i (fun hb => ?_) (fun hb => ?_)
  · have hlt : i < xs.length := by have := of_decide_eq_true hb; omega
    obtain ⟨b, off, rfl⟩ := hR.form (flat_ne encC_len (by omega) hlt)
    have hfi := hf xs[i] (List.getElem_mem hlt)
    cases hp : p xs[i] with
    | true =>
      rw [hp] at hfi
      repeat ((conv => whnf); first | (apply q_i; focus (intro w1 hS; (conv => whnf); first | exact ⟨rfl, rfl⟩ | ((refine .mk ⟨by omega, by omega⟩ ?_; refine ix_i rfl ?_); (conv => whnf); exact ⟨rfl, rfl⟩) | ((refine ldN_el encC_len (hR.below hS.nil).at (i := i) hlt rfl rfl ?_); (conv => whnf); exact ⟨rfl, rfl⟩))) | (refine nw_f hS ?_; intro b w1 hS) | (refine as_i hS ?_) | (refine as_i (hS.subs (List.nil_sublist _) (by repeat (first | exact List.Sublist.refl _ | apply List.Sublist.cons_cons | apply List.Sublist.cons))) ?_) | (refine as_i (hS.subs (List.Sublist.refl _) (by repeat (first | exact List.Sublist.refl _ | apply List.Sublist.cons_cons | apply List.Sublist.cons))) ?_) | (refine bar_f hS ?_) | (refine .mk ⟨by omega, by omega⟩ ?_; refine ix_i rfl ?_) | (refine ldN_el encC_len (hR.below hS.nil).at (i := i) hlt rfl rfl ?_) | (refine drawf TB_ok rfl (by kernel_rfl) (by kernel_rfl) hS (List.Sublist.refl _) (List.Sublist.refl _) ?_; intro w1 hS) | (refine br_t (by assumption) ?_) | (refine br_f (by assumption) ?_))
      refine cv_i (Cv.mono (hfi _ hS.nil) ?_)
      rintro v w6 ⟨rfl, hS'⟩
      replace hS := hS.call0 hS'
      repeat ((conv => whnf); first | (apply q_i; focus (intro w1 hS; (conv => whnf); first | exact ⟨rfl, rfl⟩)) | (refine nw_f hS ?_; intro b w1 hS) | (refine as_i hS ?_) | (refine as_i (hS.subs (List.nil_sublist _) (by repeat (first | exact List.Sublist.refl _ | apply List.Sublist.cons_cons | apply List.Sublist.cons))) ?_) | (refine as_i (hS.subs (List.Sublist.refl _) (by repeat (first | exact List.Sublist.refl _ | apply List.Sublist.cons_cons | apply List.Sublist.cons))) ?_) | (refine bar_f hS ?_) | (refine drawf TB_ok rfl (by kernel_rfl) (by kernel_rfl) hS (List.Sublist.refl _) (List.Sublist.refl _) ?_; intro w1 hS) | (refine br_t (by assumption) ?_) | (refine br_f (by assumption) ?_))
      have hz : xs.any p = true := List.any_eq_true.2 ⟨xs[i], List.getElem_mem hlt, hp⟩
      exact ⟨⟨(i : Int), rfl, by rw [hz]; exact decide_eq_true (by omega)⟩, hS.nil⟩
    | false =>
      rw [hp] at hfi
      repeat ((conv => whnf); first | (apply q_i; focus (intro w1 hS; (conv => whnf); first | exact ⟨rfl, rfl⟩ | ((refine .mk ⟨by omega, by omega⟩ ?_; refine ix_i rfl ?_); (conv => whnf); exact ⟨rfl, rfl⟩) | ((refine ldN_el encC_len (hR.below hS.nil).at (i := i) hlt rfl rfl ?_); (conv => whnf); exact ⟨rfl, rfl⟩))) | (refine nw_f hS ?_; intro b w1 hS) | (refine as_i hS ?_) | (refine as_i (hS.subs (List.nil_sublist _) (by repeat (first | exact List.Sublist.refl _ | apply List.Sublist.cons_cons | apply List.Sublist.cons))) ?_) | (refine as_i (hS.subs (List.Sublist.refl _) (by repeat (first | exact List.Sublist.refl _ | apply List.Sublist.cons_cons | apply List.Sublist.cons))) ?_) | (refine bar_f hS ?_) | (refine .mk ⟨by omega, by omega⟩ ?_; refine ix_i rfl ?_) | (refine ldN_el encC_len (hR.below hS.nil).at (i := i) hlt rfl rfl ?_) | (refine drawf TB_ok rfl (by kernel_rfl) (by kernel_rfl) hS (List.Sublist.refl _) (List.Sublist.refl _) ?_; intro w1 hS) | (refine br_t (by assumption) ?_) | (refine br_f (by assumption) ?_))
      refine cv_i (Cv.mono (hfi _ hS.nil) ?_)
      rintro v w6 ⟨rfl, hS'⟩
      replace hS := hS.call0 hS'
      repeat ((conv => whnf); first | (apply q_i; focus (intro w1 hS; (conv => whnf); first | exact ⟨rfl, rfl⟩)) | (refine nw_f hS ?_; intro b w1 hS) | (refine as_i hS ?_) | (refine as_i (hS.subs (List.nil_sublist _) (by repeat (first | exact List.Sublist.refl _ | apply List.Sublist.cons_cons | apply List.Sublist.cons))) ?_) | (refine as_i (hS.subs (List.Sublist.refl _) (by repeat (first | exact List.Sublist.refl _ | apply List.Sublist.cons_cons | apply List.Sublist.cons))) ?_) | (refine bar_f hS ?_) | (refine drawf TB_ok rfl (by kernel_rfl) (by kernel_rfl) hS (List.Sublist.refl _) (List.Sublist.refl _) ?_; intro w1 hS) | (refine br_t (by assumption) ?_) | (refine br_f (by assumption) ?_))
      refine ⟨rfl, i + 1, ?_, ⟨by omega, ?_, hS⟩, by omega⟩
      · rw [wi hlt (by omega)]
        rfl
      · rw [List.take_succ_eq_append_getElem hlt, List.any_append, hno]
        simp [hp]
  · have hge : i = xs.length := by have := of_decide_eq_false hb; omega
    rw [hge, List.take_length] at hno
    repeat ((conv => whnf); first | (apply q_i; focus (intro w1 hS; (conv => whnf); first | exact ⟨rfl, rfl⟩)) | (refine nw_f hS ?_; intro b w1 hS) | (refine as_i hS ?_) | (refine as_i (hS.subs (List.nil_sublist _) (by repeat (first | exact List.Sublist.refl _ | apply List.Sublist.cons_cons | apply List.Sublist.cons))) ?_) | (refine as_i (hS.subs (List.Sublist.refl _) (by repeat (first | exact List.Sublist.refl _ | apply List.Sublist.cons_cons | apply List.Sublist.cons))) ?_) | (refine bar_f hS ?_) | (refine drawf TB_ok rfl (by kernel_rfl) (by kernel_rfl) hS (List.Sublist.refl _) (List.Sublist.refl _) ?_; intro w1 hS) | (refine br_t (by assumption) ?_) | (refine br_f (by assumption) ?_))
    exact ⟨⟨-1, rfl, by rw [hno]; rfl⟩, hS.nil⟩
theorem containsC_c (A : Option Addr) (c : Nat) (xs : List Sc) (f : Value) (p : Sc → Bool) (w : World) (hR : Rd w A (flat encC xs)) (hn : xs.length ≤ 4611686018427387904) (hf : TellsC w f p xs) :
    Fc Tryz.prog 66 [.slice A xs.length c, f] w fun v w' => v = .bool (xs.any p) ∧ St [] w w' [] := by
  refine fc_i TB_ok Tryz.func66 rfl (by kernel_rfl) ?_
  have hS := Sf.refl w
  repeat ((conv => whnf); first | (apply q_i; focus (intro w1 hS; (conv => whnf); first | exact ⟨rfl, rfl⟩)) | (refine nw_f hS ?_; intro b w1 hS) | (refine as_i hS ?_) | (refine as_i (hS.subs (List.nil_sublist _) (by repeat (first | exact List.Sublist.refl _ | apply List.Sublist.cons_cons | apply List.Sublist.cons))) ?_) | (refine as_i (hS.subs (List.Sublist.refl _) (by repeat (first | exact List.Sublist.refl _ | apply List.Sublist.cons_cons | apply List.Sublist.cons))) ?_) | (refine bar_f hS ?_) | (refine drawf TB_ok rfl (by kernel_rfl) (by kernel_rfl) hS (List.Sublist.refl _) (List.Sublist.refl _) ?_; intro w1 hS) | (refine br_t (by assumption) ?_) | (refine br_f (by assumption) ?_))
  refine fc_m (indexC_c A c xs f p _ hR hn hf) ?_
  rintro v w1 ⟨⟨i, rfl, hi⟩, hS'⟩
  replace hS := hS.call0 hS'
  repeat ((conv => whnf); first | (apply q_i; focus (intro w1 hS; (conv => whnf); first | exact ⟨rfl, rfl⟩)) | (refine nw_f hS ?_; intro b w1 hS) | (refine as_i hS ?_) | (refine as_i (hS.subs (List.nil_sublist _) (by repeat (first | exact List.Sublist.refl _ | apply List.Sublist.cons_cons | apply List.Sublist.cons))) ?_) | (refine as_i (hS.subs (List.Sublist.refl _) (by repeat (first | exact List.Sublist.refl _ | apply List.Sublist.cons_cons | apply List.Sublist.cons))) ?_) | (refine bar_f hS ?_) | (refine drawf TB_ok rfl (by kernel_rfl) (by kernel_rfl) hS (List.Sublist.refl _) (List.Sublist.refl _) ?_; intro w1 hS) | (refine br_t (by assumption) ?_) | (refine br_f (by assumption) ?_))
  exact ⟨congrArg Value.bool hi, hS.nil⟩
theorem bad_c (x : Sc) (hx : x.v.length ≤ 1073741824) (w : World) : Fc Tryz.prog 67 [.agg (encC x).toArray] w fun v w' => v = .bool (!okCB x.d x.v) ∧ St [] w w' [] := by
  refine fc_i TB_ok Tryz.func67 rfl (by kernel_rfl) ?_
  have hS := Sf.refl w
  have hp := fun w => putCon_c x.d x.v hx w
  cases hok : okCB x.d x.v with
  | false =>
    rw [hok] at hp
    repeat ((conv => whnf); first | (apply q_i; focus (intro w1 hS; (conv => whnf); first | exact ⟨rfl, rfl⟩ | ((refine ld_f hS 0 rfl rfl ?_); (conv => whnf); exact ⟨rfl, rfl⟩) | ((refine ldA_f hS 0 rfl rfl ?_); (conv => whnf); exact ⟨rfl, rfl⟩) | ((refine ldN_f hS 0 rfl (Nat.le_of_ble_eq_true rfl) ?_); (conv => whnf); exact ⟨rfl, rfl⟩) | ((refine fc_m (hp _) ?_; rintro v w3 ⟨rfl, hS'⟩; replace hS := hS.call0 hS'); (conv => whnf); exact ⟨rfl, rfl⟩))) | (refine nw_f hS ?_; intro b w1 hS) | (refine as_i hS ?_) | (refine as_i (hS.subs (List.nil_sublist _) (by repeat (first | exact List.Sublist.refl _ | apply List.Sublist.cons_cons | apply List.Sublist.cons))) ?_) | (refine as_i (hS.subs (List.Sublist.refl _) (by repeat (first | exact List.Sublist.refl _ | apply List.Sublist.cons_cons | apply List.Sublist.cons))) ?_) | (refine bar_f hS ?_) | (refine ld_f hS 0 rfl rfl ?_) | (refine ldA_f hS 0 rfl rfl ?_) | (refine stN_f hS 0 rfl (Nat.le_of_ble_eq_true rfl) rfl rfl ?_; (conv => whnf); intro w1 hS) | (refine stM_f hS 0 rfl (Nat.le_of_ble_eq_true rfl) rfl ?_; (conv => whnf); intro w1 hS) | (refine ldN_f hS 0 rfl (Nat.le_of_ble_eq_true rfl) ?_) | (refine fc_m (hp _) ?_; rintro v w3 ⟨rfl, hS'⟩; replace hS := hS.call0 hS') | (refine drawf TB_ok rfl (by kernel_rfl) (by kernel_rfl) hS (List.Sublist.refl _) (List.Sublist.refl _) ?_; intro w1 hS) | (refine br_t (by assumption) ?_) | (refine br_f (by assumption) ?_))
    exact ⟨rfl, hS.nil⟩
  | true =>
    rw [hok] at hp
    repeat ((conv => whnf); first | (apply q_i; focus (intro w1 hS; (conv => whnf); first | exact ⟨rfl, rfl⟩ | ((refine ld_f hS 0 rfl rfl ?_); (conv => whnf); exact ⟨rfl, rfl⟩) | ((refine ldA_f hS 0 rfl rfl ?_); (conv => whnf); exact ⟨rfl, rfl⟩) | ((refine ldN_f hS 0 rfl (Nat.le_of_ble_eq_true rfl) ?_); (conv => whnf); exact ⟨rfl, rfl⟩) | ((refine fc_m (hp _) ?_; rintro v w3 ⟨rfl, hS'⟩; replace hS := hS.call0 hS'); (conv => whnf); exact ⟨rfl, rfl⟩))) | (refine nw_f hS ?_; intro b w1 hS) | (refine as_i hS ?_) | (refine as_i (hS.subs (List.nil_sublist _) (by repeat (first | exact List.Sublist.refl _ | apply List.Sublist.cons_cons | apply List.Sublist.cons))) ?_) | (refine as_i (hS.subs (List.Sublist.refl _) (by repeat (first | exact List.Sublist.refl _ | apply List.Sublist.cons_cons | apply List.Sublist.cons))) ?_) | (refine bar_f hS ?_) | (refine ld_f hS 0 rfl rfl ?_) | (refine ldA_f hS 0 rfl rfl ?_) | (refine stN_f hS 0 rfl (Nat.le_of_ble_eq_true rfl) rfl rfl ?_; (conv => whnf); intro w1 hS) | (refine stM_f hS 0 rfl (Nat.le_of_ble_eq_true rfl) rfl ?_; (conv => whnf); intro w1 hS) | (refine ldN_f hS 0 rfl (Nat.le_of_ble_eq_true rfl) ?_) | (refine fc_m (hp _) ?_; rintro v w3 ⟨rfl, hS'⟩; replace hS := hS.call0 hS') | (refine drawf TB_ok rfl (by kernel_rfl) (by kernel_rfl) hS (List.Sublist.refl _) (List.Sublist.refl _) ?_; intro w1 hS) | (refine br_t (by assumption) ?_) | (refine br_f (by assumption) ?_))
    exact ⟨rfl, hS.nil⟩
end Go.RV

/- Contracts of functions of chapter 28: contexts that are written; what may be. Conditions: none. -/
set_option maxRecDepth 20000
set_option linter.unusedVariables false
set_option linter.unusedSimpArgs false
namespace Go.RV
open Go Go.Proofs Go.RowKit

theorem idxV {P : Program} {T : Tab} (hT : TabOk P T) {t e : TypeId} (hu : P.underlying t = some (.array 8 e)) (he : P.underlying e = some (.int .u32)) (hs : tsz T e = some 1) {f : Nat → Int} {i : Nat} (hi : i < 8) {w : World} {K : Value → World → Prop} (k : K (.int .u32 (f i)) w) :
    SemN P (Instr.index t (.agg (vecF f).toArray) (.int .i64 (i : Int))) w K := by
  refine ⟨SemW.of_run (a := .int .u32 (f i)) (w' := w) ?_ k⟩
  unfold Instr.index
  have hp : (part e (vecF f).toArray (i * 1)).run P w = .ok (.int .u32 (f i)) w := part_plain ⟨_, he, by simp, by simp⟩ (by simpa using vget (f := f) hi (by omega))
  have hlt : 0 ≤ (i : Int) ∧ (i : Int) < ((8 : Nat) : Int) := by omega
  simp only [Sem.run_bind, asIntOf, Sem.run_pure, Result.andThen_ok, run_underlying hu, if_pos hlt, run_sizeOf_ok hT hs, Int.toNat_natCast, hp]
theorem idxVec {f : Nat → Int} {i : Nat} (hi : i < 8) {w : World} {K : Value → World → Prop} (k : K (.int .u32 (f i)) w) :
    SemN Tryz.prog (Instr.index 24 (.agg (vecF f).toArray) (.int .i64 (i : Int))) w K := idxV TB_ok Tryz.underlying24 Tryz.underlying22 rfl hi k
theorem num2_len (f : Nat → Int) : ∀ k, (num2 f k).length ≤ 2 * k
  | 0 => Nat.le_refl _
  | k+1 => by
    have := num2_len f k
    unfold num2
    split
    · rw [List.length_append, be_len]; omega
    · omega
theorem mput_c (bw : Nat) (bs : List UInt8) (L : LM) (hW : Wr bw bs L) (f : Nat → Int) (hf : ∀ j, j < 8 → 0 ≤ f j ∧ f j ≤ 65535) (w : World) (hS : St (keys L) w w L) (hn : bs.length ≤ 1073741824) :
    Fc Tryz.prog 56 [.pointer (some ⟨bw, 0, none⟩), vecV f] w fun v w' => ∃ L', Wr bw (bs ++ ctxT f) L' ∧ St (keys L) w w' L' := by
  refine fc_i TB_ok Tryz.func56 rfl (by kernel_rfl) ?_
  have hS : Sf (keys L) w w (L ++ []) [] := ⟨by simpa using hS⟩
  repeat ((conv => whnf); first | (apply q_i; focus (intro w1 hS; (conv => whnf); first | exact ⟨rfl, rfl⟩ | ((refine ld_f hS 0 rfl rfl ?_); (conv => whnf); exact ⟨rfl, rfl⟩) | ((refine ldA_f hS 0 rfl rfl ?_); (conv => whnf); exact ⟨rfl, rfl⟩))) | (refine nw_f hS ?_; intro b w1 hS) | (refine as_i hS ?_) | (refine as_i (hS.subs (List.nil_sublist _) (by repeat (first | exact List.Sublist.refl _ | apply List.Sublist.cons_cons | apply List.Sublist.cons))) ?_) | (refine as_i (hS.subs (List.Sublist.refl _) (by repeat (first | exact List.Sublist.refl _ | apply List.Sublist.cons_cons | apply List.Sublist.cons))) ?_) | (refine bar_f hS ?_) | (refine ld_f hS 0 rfl rfl ?_) | (refine ldA_f hS 0 rfl rfl ?_) | (refine stN_f hS 0 rfl (Nat.le_of_ble_eq_true rfl) rfl rfl ?_; (conv => whnf); intro w1 hS) | (refine stM_f hS 0 rfl (Nat.le_of_ble_eq_true rfl) rfl ?_; (conv => whnf); intro w1 hS) | (refine drawf TB_ok rfl (by kernel_rfl) (by kernel_rfl) hS (List.Sublist.refl _) (List.Sublist.refl _) ?_; intro w1 hS) | (refine br_t (by assumption) ?_) | (refine br_f (by assumption) ?_))
  refine loop_i TB_ok (fun i : Nat => [(10, .int .i64 i), (4, .int .u8 (bitsN f i))]) (fun i w' => i ≤ 8 ∧ Sf (keys L) w w' (L ++ []) [_]) (fun i => 8 - i) 0 rfl ⟨Nat.zero_le _, hS⟩ ?_
  rintro i us w2 ⟨hi, hS⟩
  (conv => whnf)
  refine br_i (fun hb => ?_) (fun hb => ?_)
  · have hlt : i < 8 := by have := of_decide_eq_true hb; omega
    have hfi := hf i hlt
    have hbl := bitsN_lt f i
    repeat ((conv => whnf); first | (apply q_i; focus (intro w1 hS; (conv => whnf); first | exact ⟨rfl, rfl⟩ | ((refine ld_f hS 0 rfl rfl ?_); (conv => whnf); exact ⟨rfl, rfl⟩) | ((refine ldA_f hS 0 rfl rfl ?_); (conv => whnf); exact ⟨rfl, rfl⟩) | ((refine idxVec (f := f) hlt ?_); (conv => whnf); exact ⟨rfl, rfl⟩))) | (refine nw_f hS ?_; intro b w1 hS) | (refine as_i hS ?_) | (refine as_i (hS.subs (List.nil_sublist _) (by repeat (first | exact List.Sublist.refl _ | apply List.Sublist.cons_cons | apply List.Sublist.cons))) ?_) | (refine as_i (hS.subs (List.Sublist.refl _) (by repeat (first | exact List.Sublist.refl _ | apply List.Sublist.cons_cons | apply List.Sublist.cons))) ?_) | (refine bar_f hS ?_) | (refine ld_f hS 0 rfl rfl ?_) | (refine ldA_f hS 0 rfl rfl ?_) | (refine stN_f hS 0 rfl (Nat.le_of_ble_eq_true rfl) rfl rfl ?_; (conv => whnf); intro w1 hS) | (refine stM_f hS 0 rfl (Nat.le_of_ble_eq_true rfl) rfl ?_; (conv => whnf); intro w1 hS) | (refine idxVec (f := f) hlt ?_) | (refine drawf TB_ok rfl (by kernel_rfl) (by kernel_rfl) hS (List.Sublist.refl _) (List.Sublist.refl _) ?_; intro w1 hS) | (refine br_t (by assumption) ?_) | (refine br_f (by assumption) ?_))
    refine br_i (fun h1 => ?_) (fun h1 => ?_)
    · have h1' : 0 < f i := of_decide_eq_true h1
      repeat ((conv => whnf); first | (apply q_i; focus (intro w1 hS; (conv => whnf); first | exact ⟨rfl, rfl⟩ | ((refine ld_f hS 0 rfl rfl ?_); (conv => whnf); exact ⟨rfl, rfl⟩) | ((refine ldA_f hS 0 rfl rfl ?_); (conv => whnf); exact ⟨rfl, rfl⟩) | ((refine .mk (by show (0 : Int) ≤ ((i : Nat) : Int); omega) ?_); (conv => whnf); exact ⟨rfl, rfl⟩))) | (refine nw_f hS ?_; intro b w1 hS) | (refine as_i hS ?_) | (refine as_i (hS.subs (List.nil_sublist _) (by repeat (first | exact List.Sublist.refl _ | apply List.Sublist.cons_cons | apply List.Sublist.cons))) ?_) | (refine as_i (hS.subs (List.Sublist.refl _) (by repeat (first | exact List.Sublist.refl _ | apply List.Sublist.cons_cons | apply List.Sublist.cons))) ?_) | (refine bar_f hS ?_) | (refine ld_f hS 0 rfl rfl ?_) | (refine ldA_f hS 0 rfl rfl ?_) | (refine stN_f hS 0 rfl (Nat.le_of_ble_eq_true rfl) rfl rfl ?_; (conv => whnf); intro w1 hS) | (refine stM_f hS 0 rfl (Nat.le_of_ble_eq_true rfl) rfl ?_; (conv => whnf); intro w1 hS) | (refine .mk (by show (0 : Int) ≤ ((i : Nat) : Int); omega) ?_) | (refine drawf TB_ok rfl (by kernel_rfl) (by kernel_rfl) hS (List.Sublist.refl _) (List.Sublist.refl _) ?_; intro w1 hS) | (refine br_t (by assumption) ?_) | (refine br_f (by assumption) ?_))
      refine ⟨rfl, i + 1, ?_, ⟨by omega, hS⟩, by omega⟩
      have e1 : bitsN f (i + 1) = bOr .u8 (bitsN f i) (bShl .u8 1 (i : Int)) := by rw [orBit' hbl.1 hbl.2 hlt, bitsN, if_pos h1']
      rw [wi8 hlt, e1]
      rfl
    · have h1' : ¬ 0 < f i := of_decide_eq_false h1
      repeat ((conv => whnf); first | (apply q_i; focus (intro w1 hS; (conv => whnf); first | exact ⟨rfl, rfl⟩ | ((refine ld_f hS 0 rfl rfl ?_); (conv => whnf); exact ⟨rfl, rfl⟩) | ((refine ldA_f hS 0 rfl rfl ?_); (conv => whnf); exact ⟨rfl, rfl⟩))) | (refine nw_f hS ?_; intro b w1 hS) | (refine as_i hS ?_) | (refine as_i (hS.subs (List.nil_sublist _) (by repeat (first | exact List.Sublist.refl _ | apply List.Sublist.cons_cons | apply List.Sublist.cons))) ?_) | (refine as_i (hS.subs (List.Sublist.refl _) (by repeat (first | exact List.Sublist.refl _ | apply List.Sublist.cons_cons | apply List.Sublist.cons))) ?_) | (refine bar_f hS ?_) | (refine ld_f hS 0 rfl rfl ?_) | (refine ldA_f hS 0 rfl rfl ?_) | (refine stN_f hS 0 rfl (Nat.le_of_ble_eq_true rfl) rfl rfl ?_; (conv => whnf); intro w1 hS) | (refine stM_f hS 0 rfl (Nat.le_of_ble_eq_true rfl) rfl ?_; (conv => whnf); intro w1 hS) | (refine drawf TB_ok rfl (by kernel_rfl) (by kernel_rfl) hS (List.Sublist.refl _) (List.Sublist.refl _) ?_; intro w1 hS) | (refine br_t (by assumption) ?_) | (refine br_f (by assumption) ?_))
      refine ⟨rfl, i + 1, ?_, ⟨by omega, hS⟩, by omega⟩
      rw [wi8 hlt, show bitsN f (i + 1) = bitsN f i from by rw [bitsN, if_neg h1']]
      rfl
  · have hge : i = 8 := by have := of_decide_eq_false hb; omega
    subst hge
    have hbl := bitsN_lt f 8
    repeat ((conv => whnf); first | (apply q_i; focus (intro w1 hS; (conv => whnf); first | exact ⟨rfl, rfl⟩ | ((refine ld_f hS 0 rfl rfl ?_); (conv => whnf); exact ⟨rfl, rfl⟩) | ((refine ldA_f hS 0 rfl rfl ?_); (conv => whnf); exact ⟨rfl, rfl⟩))) | (refine nw_f hS ?_; intro b w1 hS) | (refine as_i hS ?_) | (refine as_i (hS.subs (List.nil_sublist _) (by repeat (first | exact List.Sublist.refl _ | apply List.Sublist.cons_cons | apply List.Sublist.cons))) ?_) | (refine as_i (hS.subs (List.Sublist.refl _) (by repeat (first | exact List.Sublist.refl _ | apply List.Sublist.cons_cons | apply List.Sublist.cons))) ?_) | (refine bar_f hS ?_) | (refine ld_f hS 0 rfl rfl ?_) | (refine ldA_f hS 0 rfl rfl ?_) | (refine stN_f hS 0 rfl (Nat.le_of_ble_eq_true rfl) rfl rfl ?_; (conv => whnf); intro w1 hS) | (refine stM_f hS 0 rfl (Nat.le_of_ble_eq_true rfl) rfl ?_; (conv => whnf); intro w1 hS) | (refine drawf TB_ok rfl (by kernel_rfl) (by kernel_rfl) hS (List.Sublist.refl _) (List.Sublist.refl _) ?_; intro w1 hS) | (refine br_t (by assumption) ?_) | (refine br_f (by assumption) ?_))
    refine fc_m (w8_c bw bs L hW (bitsN f 8) hbl.1 (by omega) _ hS.ownF (by omega)) ?_
    rintro v w3 ⟨L1, hW1, hS'⟩
    replace hS := hS.callW hS'
    repeat ((conv => whnf); first | (apply q_i; focus (intro w1 hS; (conv => whnf); first | exact ⟨rfl, rfl⟩ | ((refine ld_f hS 0 rfl rfl ?_); (conv => whnf); exact ⟨rfl, rfl⟩) | ((refine ldA_f hS 0 rfl rfl ?_); (conv => whnf); exact ⟨rfl, rfl⟩))) | (refine nw_f hS ?_; intro b w1 hS) | (refine as_i hS ?_) | (refine as_i (hS.subs (List.nil_sublist _) (by repeat (first | exact List.Sublist.refl _ | apply List.Sublist.cons_cons | apply List.Sublist.cons))) ?_) | (refine as_i (hS.subs (List.Sublist.refl _) (by repeat (first | exact List.Sublist.refl _ | apply List.Sublist.cons_cons | apply List.Sublist.cons))) ?_) | (refine bar_f hS ?_) | (refine ld_f hS 0 rfl rfl ?_) | (refine ldA_f hS 0 rfl rfl ?_) | (refine stN_f hS 0 rfl (Nat.le_of_ble_eq_true rfl) rfl rfl ?_; (conv => whnf); intro w1 hS) | (refine stM_f hS 0 rfl (Nat.le_of_ble_eq_true rfl) rfl ?_; (conv => whnf); intro w1 hS) | (refine drawf TB_ok rfl (by kernel_rfl) (by kernel_rfl) hS (List.Sublist.refl _) (List.Sublist.refl _) ?_; intro w1 hS) | (refine br_t (by assumption) ?_) | (refine br_f (by assumption) ?_))
    refine loop_i TB_ok (fun i : Nat => [(25, .int .i64 i)]) (fun i w' => i ≤ 8 ∧ ∃ L', Wr bw (bs ++ be (bitsN f 8) 1 ++ num2 f i) L' ∧ Sf (keys L) w w' (L' ++ []) [_]) (fun i => 8 - i) 0 rfl ⟨Nat.zero_le _, L1, by simpa [num2] using hW1, hS⟩ ?_
    rintro i us w4 ⟨hi, L2, hW2, hS⟩
    (conv => whnf)
    refine br_i (fun hb => ?_) (fun hb => ?_)
    · have hlt : i < 8 := by have := of_decide_eq_true hb; omega
      have hfi := hf i hlt
      have hnl := num2_len f i
      have hbe := be_len (bitsN f 8) 1
      have hw16 : IntKind.u16.wrap (f i) = f i := by rw [wrap_u16_mod]; omega
      repeat ((conv => whnf); first | (apply q_i; focus (intro w1 hS; (conv => whnf); first | exact ⟨rfl, rfl⟩ | ((refine ld_f hS 0 rfl rfl ?_); (conv => whnf); exact ⟨rfl, rfl⟩) | ((refine ldA_f hS 0 rfl rfl ?_); (conv => whnf); exact ⟨rfl, rfl⟩) | ((refine idxVec (f := f) hlt ?_); (conv => whnf); exact ⟨rfl, rfl⟩))) | (refine nw_f hS ?_; intro b w1 hS) | (refine as_i hS ?_) | (refine as_i (hS.subs (List.nil_sublist _) (by repeat (first | exact List.Sublist.refl _ | apply List.Sublist.cons_cons | apply List.Sublist.cons))) ?_) | (refine as_i (hS.subs (List.Sublist.refl _) (by repeat (first | exact List.Sublist.refl _ | apply List.Sublist.cons_cons | apply List.Sublist.cons))) ?_) | (refine bar_f hS ?_) | (refine ld_f hS 0 rfl rfl ?_) | (refine ldA_f hS 0 rfl rfl ?_) | (refine stN_f hS 0 rfl (Nat.le_of_ble_eq_true rfl) rfl rfl ?_; (conv => whnf); intro w1 hS) | (refine stM_f hS 0 rfl (Nat.le_of_ble_eq_true rfl) rfl ?_; (conv => whnf); intro w1 hS) | (refine idxVec (f := f) hlt ?_) | (refine drawf TB_ok rfl (by kernel_rfl) (by kernel_rfl) hS (List.Sublist.refl _) (List.Sublist.refl _) ?_; intro w1 hS) | (refine br_t (by assumption) ?_) | (refine br_f (by assumption) ?_))
      refine br_i (fun h1 => ?_) (fun h1 => ?_)
      · have h1' : 0 < f i := of_decide_eq_true h1
        have hw := w16_c bw _ L2 hW2 (f i) hfi.1 (by omega) w4
        rw [← hw16] at hw
        repeat ((conv => whnf); first | (apply q_i; focus (intro w1 hS; (conv => whnf); first | exact ⟨rfl, rfl⟩ | ((refine ld_f hS 0 rfl rfl ?_); (conv => whnf); exact ⟨rfl, rfl⟩) | ((refine ldA_f hS 0 rfl rfl ?_); (conv => whnf); exact ⟨rfl, rfl⟩))) | (refine nw_f hS ?_; intro b w1 hS) | (refine as_i hS ?_) | (refine as_i (hS.subs (List.nil_sublist _) (by repeat (first | exact List.Sublist.refl _ | apply List.Sublist.cons_cons | apply List.Sublist.cons))) ?_) | (refine as_i (hS.subs (List.Sublist.refl _) (by repeat (first | exact List.Sublist.refl _ | apply List.Sublist.cons_cons | apply List.Sublist.cons))) ?_) | (refine bar_f hS ?_) | (refine ld_f hS 0 rfl rfl ?_) | (refine ldA_f hS 0 rfl rfl ?_) | (refine stN_f hS 0 rfl (Nat.le_of_ble_eq_true rfl) rfl rfl ?_; (conv => whnf); intro w1 hS) | (refine stM_f hS 0 rfl (Nat.le_of_ble_eq_true rfl) rfl ?_; (conv => whnf); intro w1 hS) | (refine drawf TB_ok rfl (by kernel_rfl) (by kernel_rfl) hS (List.Sublist.refl _) (List.Sublist.refl _) ?_; intro w1 hS) | (refine br_t (by assumption) ?_) | (refine br_f (by assumption) ?_))
        (conv => whnf)
        refine fc_m (hw hS.ownF (by rw [List.length_append, List.length_append, hbe]; omega)) ?_
        rintro v w5 ⟨L3, hW3, hS'⟩
        rw [hw16] at hW3
        replace hS := hS.callW hS'
        repeat ((conv => whnf); first | (apply q_i; focus (intro w1 hS; (conv => whnf); first | exact ⟨rfl, rfl⟩ | ((refine ld_f hS 0 rfl rfl ?_); (conv => whnf); exact ⟨rfl, rfl⟩) | ((refine ldA_f hS 0 rfl rfl ?_); (conv => whnf); exact ⟨rfl, rfl⟩))) | (refine nw_f hS ?_; intro b w1 hS) | (refine as_i hS ?_) | (refine as_i (hS.subs (List.nil_sublist _) (by repeat (first | exact List.Sublist.refl _ | apply List.Sublist.cons_cons | apply List.Sublist.cons))) ?_) | (refine as_i (hS.subs (List.Sublist.refl _) (by repeat (first | exact List.Sublist.refl _ | apply List.Sublist.cons_cons | apply List.Sublist.cons))) ?_) | (refine bar_f hS ?_) | (refine ld_f hS 0 rfl rfl ?_) | (refine ldA_f hS 0 rfl rfl ?_) | (refine stN_f hS 0 rfl (Nat.le_of_ble_eq_true rfl) rfl rfl ?_; (conv => whnf); intro w1 hS) | (refine stM_f hS 0 rfl (Nat.le_of_ble_eq_true rfl) rfl ?_; (conv => whnf); intro w1 hS) | (refine drawf TB_ok rfl (by kernel_rfl) (by kernel_rfl) hS (List.Sublist.refl _) (List.Sublist.refl _) ?_; intro w1 hS) | (refine br_t (by assumption) ?_) | (refine br_f (by assumption) ?_))
        refine ⟨rfl, i + 1, ?_, ⟨by omega, L3, ?_, hS⟩, by omega⟩
        · rw [wi8 hlt]
          rfl
        · rw [num2, if_pos h1', ← List.append_assoc]
          exact hW3
      · have h1' : ¬ 0 < f i := of_decide_eq_false h1
        repeat ((conv => whnf); first | (apply q_i; focus (intro w1 hS; (conv => whnf); first | exact ⟨rfl, rfl⟩ | ((refine ld_f hS 0 rfl rfl ?_); (conv => whnf); exact ⟨rfl, rfl⟩) | ((refine ldA_f hS 0 rfl rfl ?_); (conv => whnf); exact ⟨rfl, rfl⟩))) | (refine nw_f hS ?_; intro b w1 hS) | (refine as_i hS ?_) | (refine as_i (hS.subs (List.nil_sublist _) (by repeat (first | exact List.Sublist.refl _ | apply List.Sublist.cons_cons | apply List.Sublist.cons))) ?_) | (refine as_i (hS.subs (List.Sublist.refl _) (by repeat (first | exact List.Sublist.refl _ | apply List.Sublist.cons_cons | apply List.Sublist.cons))) ?_) | (refine bar_f hS ?_) | (refine ld_f hS 0 rfl rfl ?_) | (refine ldA_f hS 0 rfl rfl ?_) | (refine stN_f hS 0 rfl (Nat.le_of_ble_eq_true rfl) rfl rfl ?_; (conv => whnf); intro w1 hS) | (refine stM_f hS 0 rfl (Nat.le_of_ble_eq_true rfl) rfl ?_; (conv => whnf); intro w1 hS) | (refine drawf TB_ok rfl (by kernel_rfl) (by kernel_rfl) hS (List.Sublist.refl _) (List.Sublist.refl _) ?_; intro w1 hS) | (refine br_t (by assumption) ?_) | (refine br_f (by assumption) ?_))
        refine ⟨rfl, i + 1, ?_, ⟨by omega, L2, ?_, hS⟩, by omega⟩
        · rw [wi8 hlt]
          rfl
        · rw [num2, if_neg h1']
          exact hW2
    · have hge : i = 8 := by have := of_decide_eq_false hb; omega
      subst hge
      rw [List.append_assoc] at hW2
      repeat ((conv => whnf); first | (apply q_i; focus (intro w1 hS; (conv => whnf); first | exact ⟨rfl, rfl⟩ | ((refine ld_f hS 0 rfl rfl ?_); (conv => whnf); exact ⟨rfl, rfl⟩) | ((refine ldA_f hS 0 rfl rfl ?_); (conv => whnf); exact ⟨rfl, rfl⟩))) | (refine nw_f hS ?_; intro b w1 hS) | (refine as_i hS ?_) | (refine as_i (hS.subs (List.nil_sublist _) (by repeat (first | exact List.Sublist.refl _ | apply List.Sublist.cons_cons | apply List.Sublist.cons))) ?_) | (refine as_i (hS.subs (List.Sublist.refl _) (by repeat (first | exact List.Sublist.refl _ | apply List.Sublist.cons_cons | apply List.Sublist.cons))) ?_) | (refine bar_f hS ?_) | (refine ld_f hS 0 rfl rfl ?_) | (refine ldA_f hS 0 rfl rfl ?_) | (refine stN_f hS 0 rfl (Nat.le_of_ble_eq_true rfl) rfl rfl ?_; (conv => whnf); intro w1 hS) | (refine stM_f hS 0 rfl (Nat.le_of_ble_eq_true rfl) rfl ?_; (conv => whnf); intro w1 hS) | (refine drawf TB_ok rfl (by kernel_rfl) (by kernel_rfl) hS (List.Sublist.refl _) (List.Sublist.refl _) ?_; intro w1 hS) | (refine br_t (by assumption) ?_) | (refine br_f (by assumption) ?_))
      (conv => whnf)
      have h2 := hS.fr (List.Sublist.refl _)
      rw [List.append_nil] at h2
      exact ⟨L2, hW2, h2⟩
end Go.RV

/- Contracts of functions of chapter 28: which messages may be. Conditions: none. -/
set_option maxRecDepth 20000
set_option linter.unusedVariables false
set_option linter.unusedSimpArgs false
namespace Go.RV
open Go Go.Proofs Go.RowKit

theorem veq_symm (f g : Nat → Int) : veq f g = veq g f := by
  rw [Bool.eq_iff_iff, veq_iff, veq_iff]
  exact ⟨fun h j hj => (h j hj).symm, fun h j hj => (h j hj).symm⟩
set_option maxHeartbeats 4000000 in
theorem mmay0_c (a : Bool) (p : List UInt8) (f : Nat → Int) (xs : List Sc) (g : Nat → Int) (hf : ∀ j, j < 8 → 0 ≤ f j ∧ f j ≤ 4294967295) (hg : ∀ j, j < 8 → 0 ≤ g j ∧ g j ≤ 4294967295) (hx : ∀ x ∈ xs, 0 ≤ x.r ∧ x.r ≤ 255 ∧ 0 ≤ x.n ∧ x.n ≤ 4294967295) (hp : p.length ≤ 1073741824) (hl : xs.length ≤ 1073741824) (hv : ∀ x ∈ xs, x.v.length ≤ 1073741824) (A : Option Addr) (c : Nat) (w : World) (hR : Rd w A (flat encC xs)) :
    Fc Tryz.prog 28 [msgC a p f A xs.length c g] w fun v w' => v = .bool (mayM ⟨a, p, f, xs, g⟩) ∧ St [] w w' [] := by
  refine fc_i TB_ok Tryz.func28 rfl (by kernel_rfl) ?_
  have hS := Sf.refl w
  have hpc := fun w => C04.parse_c p (by omega) w
  have hn : namedB p = (decide ((C04.parseT p).2.1 = 0) && decide (0 < (C04.parseT p).1.length)) := rfl
  generalize C04.parseT p = P at *
  obtain ⟨l, e, o⟩ := P
  simp only at hpc hn
  have h4 : ∀ b : Bool, ((if b = true then (0 : Int) else 4) == 0) = b := by decide
  have hl0 : ((xs.length : Int) == 0) = xs.isEmpty := by
    cases xs with
    | nil => rfl
    | cons x xs => simp; omega
  have hm : mayM ⟨a, p, f, xs, g⟩ = (!(e != 0) && (!((l.length : Int) == 0) && (if a = true then ((if mayVB g = true then (0 : Int) else 4) == 0) && ((!veq g zeroF) && (veq f zeroF && ((xs.length : Int) == 0))) else ((if checkC f xs = true then (0 : Int) else 4) == 0) && ((!(xs.any fun x => !okCB x.d x.v)) && ((!veq f zeroF) && veq g zeroF))))) := by
    have e1 : decide (e = 0) = !(e != 0) := by by_cases h : e = 0 <;> simp [h]
    have e2 : decide (0 < l.length) = !((l.length : Int) == 0) := by cases l <;> simp; omega
    have hall : (!(xs.any fun x => !okCB x.d x.v)) = (xs.all fun x => okCB x.d x.v) := by rw [← List.not_all_eq_any_not, Bool.not_not]
    unfold mayM
    simp only
    rw [hn, h4, h4, hl0, hall, e1, e2, Bool.and_assoc]
  rw [hm]
  clear h4 hl0 hm hn
  repeat ((conv => whnf); first | (apply q_i; focus (intro w1 hS; (conv => whnf); first | exact ⟨rfl, rfl⟩ | ((refine ld_f hS 0 rfl rfl ?_); (conv => whnf); exact ⟨rfl, rfl⟩) | ((refine ldA_f hS 0 rfl rfl ?_); (conv => whnf); exact ⟨rfl, rfl⟩))) | (refine nw_f hS ?_; intro b w1 hS) | (refine as_i hS ?_) | (refine as_i (hS.subs (List.nil_sublist _) (by repeat (first | exact List.Sublist.refl _ | apply List.Sublist.cons_cons | apply List.Sublist.cons))) ?_) | (refine as_i (hS.subs (List.Sublist.refl _) (by repeat (first | exact List.Sublist.refl _ | apply List.Sublist.cons_cons | apply List.Sublist.cons))) ?_) | (refine bar_f hS ?_) | (refine ld_f hS 0 rfl rfl ?_) | (refine ldA_f hS 0 rfl rfl ?_) | (refine stN_f hS 0 rfl (Nat.le_of_ble_eq_true rfl) rfl rfl ?_; (conv => whnf); intro w1 hS) | (refine stM_f hS 0 rfl (Nat.le_of_ble_eq_true rfl) rfl ?_; (conv => whnf); intro w1 hS) | (refine drawf TB_ok rfl (by kernel_rfl) (by kernel_rfl) hS (List.Sublist.refl _) (List.Sublist.refl _) ?_; intro w1 hS) | (refine br_t (by assumption) ?_) | (refine br_f (by assumption) ?_))
  refine fc_m (hpc _) ?_
  rintro v w1 ⟨A1, c1, Lv, rfl, hvl, hS'⟩
  replace hS := hS.callF hS'
  have hcont := fun w => containsC_c A c xs (.func (.func 67) #[] #[]) (fun x => !okCB x.d x.v) w
  have hbad : ∀ w', TellsC w' (.func (.func 67) #[] #[]) (fun x => !okCB x.d x.v) xs := fun w' x hx w'' _ => Cv.of_fc ((bad_c x (hv x hx) w'').mono fun v w3 h => h)
  repeat' ((conv => whnf); first | (refine And.intro ?_ ?_) | (apply q_i; focus (intro w1 hS; (conv => whnf); first | exact ⟨rfl, rfl⟩ | ((refine ld_f hS 0 rfl rfl ?_); (conv => whnf); exact ⟨rfl, rfl⟩) | ((refine ld_f hS 1 rfl rfl ?_); (conv => whnf); exact ⟨rfl, rfl⟩) | ((refine ldA_f hS 0 rfl rfl ?_); (conv => whnf); exact ⟨rfl, rfl⟩) | ((refine ldA_f hS 1 rfl rfl ?_); (conv => whnf); exact ⟨rfl, rfl⟩) | ((refine ldN_f hS 0 rfl (Nat.le_of_ble_eq_true rfl) ?_); (conv => whnf); exact ⟨rfl, rfl⟩) | ((refine ldN_f hS 1 rfl (Nat.le_of_ble_eq_true rfl) ?_); (conv => whnf); exact ⟨rfl, rfl⟩) | ((refine fc_m (put_c g hg _) ?_; rintro v w3 ⟨rfl, hS'⟩; replace hS := hS.call0 hS'); (conv => whnf); exact ⟨rfl, rfl⟩) | ((refine fc_m (scheckC_c f hf A c xs _ (hR.below hS.nil) (by omega) (fun x h => (hx x h).1)) ?_; rintro v w3 ⟨rfl, hS'⟩; replace hS := hS.call0 hS'); (conv => whnf); exact ⟨rfl, rfl⟩) | ((refine fc_m (hcont _ (hR.below hS.nil) (by omega) (hbad _)) ?_; rintro v w3 ⟨rfl, hS'⟩; replace hS := hS.call0 hS'); (conv => whnf); exact ⟨rfl, rfl⟩) | ((refine eqVec g zeroF ?_); (conv => whnf); exact ⟨rfl, rfl⟩) | ((refine neVec g zeroF ?_); (conv => whnf); exact ⟨rfl, rfl⟩) | ((refine eqVec f zeroF ?_); (conv => whnf); exact ⟨rfl, rfl⟩) | ((refine neVec f zeroF ?_); (conv => whnf); exact ⟨rfl, rfl⟩) | ((refine br_i (fun _ => ?_) (fun _ => ?_)); (conv => whnf); exact ⟨rfl, rfl⟩))) | (refine nw_f hS ?_; intro b w1 hS) | (refine as_i hS ?_) | (refine as_i (hS.subs (List.nil_sublist _) (by repeat (first | exact List.Sublist.refl _ | apply List.Sublist.cons_cons | apply List.Sublist.cons))) ?_) | (refine as_i (hS.subs (List.Sublist.refl _) (by repeat (first | exact List.Sublist.refl _ | apply List.Sublist.cons_cons | apply List.Sublist.cons))) ?_) | (refine bar_f hS ?_) | (refine ld_f hS 0 rfl rfl ?_) | (refine ld_f hS 1 rfl rfl ?_) | (refine ldA_f hS 0 rfl rfl ?_) | (refine ldA_f hS 1 rfl rfl ?_) | (refine stN_f hS 0 rfl (Nat.le_of_ble_eq_true rfl) rfl rfl ?_; (conv => whnf); intro w1 hS) | (refine stN_f hS 1 rfl (Nat.le_of_ble_eq_true rfl) rfl rfl ?_; (conv => whnf); intro w1 hS) | (refine stM_f hS 0 rfl (Nat.le_of_ble_eq_true rfl) rfl ?_; (conv => whnf); intro w1 hS) | (refine stM_f hS 1 rfl (Nat.le_of_ble_eq_true rfl) rfl ?_; (conv => whnf); intro w1 hS) | (refine ldN_f hS 0 rfl (Nat.le_of_ble_eq_true rfl) ?_) | (refine ldN_f hS 1 rfl (Nat.le_of_ble_eq_true rfl) ?_) | (refine fc_m (put_c g hg _) ?_; rintro v w3 ⟨rfl, hS'⟩; replace hS := hS.call0 hS') | (refine fc_m (scheckC_c f hf A c xs _ (hR.below hS.nil) (by omega) (fun x h => (hx x h).1)) ?_; rintro v w3 ⟨rfl, hS'⟩; replace hS := hS.call0 hS') | (refine fc_m (hcont _ (hR.below hS.nil) (by omega) (hbad _)) ?_; rintro v w3 ⟨rfl, hS'⟩; replace hS := hS.call0 hS') | (refine eqVec g zeroF ?_) | (refine neVec g zeroF ?_) | (refine eqVec f zeroF ?_) | (refine neVec f zeroF ?_) | (refine br_i (fun _ => ?_) (fun _ => ?_)) | (refine drawf TB_ok rfl (by kernel_rfl) (by kernel_rfl) hS (List.Sublist.refl _) (List.Sublist.refl _) ?_; intro w1 hS) | (refine br_t (by assumption) ?_) | (refine br_f (by assumption) ?_))
  all_goals first
    | exact hS.nil
    | (refine congrArg Value.bool ?_; simp only [*, Bool.not_true, Bool.not_false, Bool.and_true, Bool.true_and, Bool.false_and, Bool.and_false, if_true, if_false, Bool.false_eq_true])
theorem mmay_c (m : Mx) (ho : okM m) (hp : m.p.length ≤ 1073741824) (hl : m.xs.length ≤ 1073741824) (hv : ∀ x ∈ m.xs, x.v.length ≤ 1073741824) (A : Option Addr) (c : Nat) (w : World) (hR : Rd w A (flat encC m.xs)) :
    Fc Tryz.prog 28 [msgV m A c] w fun v w' => v = .bool (mayM m) ∧ St [] w w' [] :=
  mmay0_c m.a m.p m.f m.xs m.g ho.f ho.g ho.x hp hl hv A c w hR
end Go.RV

/- Contracts of functions of chapter 28: the text of a message. Conditions: none. -/
set_option maxRecDepth 20000
set_option linter.unusedVariables false
set_option linter.unusedSimpArgs false
namespace Go.RV
open Go Go.Proofs Go.RowKit

theorem allC_c (f : Nat → Int) (A : Option Addr) (l c : Nat) (w : World) :
    Fc Tryz.prog 57 [regV f A l c] w fun v w' => ∃ bx, v = .func (.func 86) #[] #[.pointer (some ⟨bx, 0, none⟩)] ∧
      St [] w w' [(bx, .cells (vecF f ++ [Value.slice A l c]).toArray 27 (0, 0))] := by
  refine fc_i TB_ok Tryz.func57 rfl (by kernel_rfl) ?_
  have hS := Sf.refl w
  repeat ((conv => whnf); first | (apply q_i; focus (intro w1 hS; (conv => whnf); first | exact ⟨rfl, rfl⟩ | ((refine ld_f hS 0 rfl rfl ?_); (conv => whnf); exact ⟨rfl, rfl⟩) | ((refine ldA_f hS 0 rfl rfl ?_); (conv => whnf); exact ⟨rfl, rfl⟩))) | (refine nw_f hS ?_; intro b w1 hS) | (refine as_i hS ?_) | (refine as_i (hS.subs (List.nil_sublist _) (by repeat (first | exact List.Sublist.refl _ | apply List.Sublist.cons_cons | apply List.Sublist.cons))) ?_) | (refine as_i (hS.subs (List.Sublist.refl _) (by repeat (first | exact List.Sublist.refl _ | apply List.Sublist.cons_cons | apply List.Sublist.cons))) ?_) | (refine bar_f hS ?_) | (refine ld_f hS 0 rfl rfl ?_) | (refine ldA_f hS 0 rfl rfl ?_) | (refine stN_f hS 0 rfl (Nat.le_of_ble_eq_true rfl) rfl rfl ?_; (conv => whnf); intro w1 hS) | (refine stM_f hS 0 rfl (Nat.le_of_ble_eq_true rfl) rfl ?_; (conv => whnf); intro w1 hS) | (refine drawf TB_ok rfl (by kernel_rfl) (by kernel_rfl) hS (List.Sublist.refl _) (List.Sublist.refl _) ?_; intro w1 hS) | (refine br_t (by assumption) ?_) | (refine br_f (by assumption) ?_))
  exact ⟨_, rfl, hS.sub (List.Sublist.refl _)⟩
theorem mcheck_c (m : Mx) (ho : okM m) (hp : m.p.length ≤ 1073741824) (hl : m.xs.length ≤ 1073741824) (hv : ∀ x ∈ m.xs, x.v.length ≤ 1073741824) (A : Option Addr) (c : Nat) (w : World) (hR : Rd w A (flat encC m.xs)) :
    Fc Tryz.prog 11 [msgV m A c] w fun v w' => v = .int .i64 (if mayM m then 0 else 4) ∧ St [] w w' [] := by
  refine fc_i TB_ok Tryz.func11 rfl (by kernel_rfl) ?_
  have hS := Sf.refl w
  have hm := fun w => mmay_c m ho hp hl hv A c w
  cases hk : mayM m with
  | true =>
    rw [hk] at hm
    repeat ((conv => whnf); first | (apply q_i; focus (intro w1 hS; (conv => whnf); first | exact ⟨rfl, rfl⟩ | ((refine ld_f hS 0 rfl rfl ?_); (conv => whnf); exact ⟨rfl, rfl⟩) | ((refine ldA_f hS 0 rfl rfl ?_); (conv => whnf); exact ⟨rfl, rfl⟩) | ((refine fc_m (hm _ (hR.below hS.nil)) ?_; rintro v w3 ⟨rfl, hS'⟩; replace hS := hS.call0 hS'); (conv => whnf); exact ⟨rfl, rfl⟩))) | (refine nw_f hS ?_; intro b w1 hS) | (refine as_i hS ?_) | (refine as_i (hS.subs (List.nil_sublist _) (by repeat (first | exact List.Sublist.refl _ | apply List.Sublist.cons_cons | apply List.Sublist.cons))) ?_) | (refine as_i (hS.subs (List.Sublist.refl _) (by repeat (first | exact List.Sublist.refl _ | apply List.Sublist.cons_cons | apply List.Sublist.cons))) ?_) | (refine bar_f hS ?_) | (refine ld_f hS 0 rfl rfl ?_) | (refine ldA_f hS 0 rfl rfl ?_) | (refine stN_f hS 0 rfl (Nat.le_of_ble_eq_true rfl) rfl rfl ?_; (conv => whnf); intro w1 hS) | (refine stM_f hS 0 rfl (Nat.le_of_ble_eq_true rfl) rfl ?_; (conv => whnf); intro w1 hS) | (refine fc_m (hm _ (hR.below hS.nil)) ?_; rintro v w3 ⟨rfl, hS'⟩; replace hS := hS.call0 hS') | (refine drawf TB_ok rfl (by kernel_rfl) (by kernel_rfl) hS (List.Sublist.refl _) (List.Sublist.refl _) ?_; intro w1 hS) | (refine br_t (by assumption) ?_) | (refine br_f (by assumption) ?_))
    exact ⟨rfl, hS.nil⟩
  | false =>
    rw [hk] at hm
    repeat ((conv => whnf); first | (apply q_i; focus (intro w1 hS; (conv => whnf); first | exact ⟨rfl, rfl⟩ | ((refine ld_f hS 0 rfl rfl ?_); (conv => whnf); exact ⟨rfl, rfl⟩) | ((refine ldA_f hS 0 rfl rfl ?_); (conv => whnf); exact ⟨rfl, rfl⟩) | ((refine fc_m (hm _ (hR.below hS.nil)) ?_; rintro v w3 ⟨rfl, hS'⟩; replace hS := hS.call0 hS'); (conv => whnf); exact ⟨rfl, rfl⟩))) | (refine nw_f hS ?_; intro b w1 hS) | (refine as_i hS ?_) | (refine as_i (hS.subs (List.nil_sublist _) (by repeat (first | exact List.Sublist.refl _ | apply List.Sublist.cons_cons | apply List.Sublist.cons))) ?_) | (refine as_i (hS.subs (List.Sublist.refl _) (by repeat (first | exact List.Sublist.refl _ | apply List.Sublist.cons_cons | apply List.Sublist.cons))) ?_) | (refine bar_f hS ?_) | (refine ld_f hS 0 rfl rfl ?_) | (refine ldA_f hS 0 rfl rfl ?_) | (refine stN_f hS 0 rfl (Nat.le_of_ble_eq_true rfl) rfl rfl ?_; (conv => whnf); intro w1 hS) | (refine stM_f hS 0 rfl (Nat.le_of_ble_eq_true rfl) rfl ?_; (conv => whnf); intro w1 hS) | (refine fc_m (hm _ (hR.below hS.nil)) ?_; rintro v w3 ⟨rfl, hS'⟩; replace hS := hS.call0 hS') | (refine drawf TB_ok rfl (by kernel_rfl) (by kernel_rfl) hS (List.Sublist.refl _) (List.Sublist.refl _) ?_; intro w1 hS) | (refine br_t (by assumption) ?_) | (refine br_f (by assumption) ?_))
    exact ⟨rfl, hS.nil⟩
theorem sibT_len {x : Sc} (h : okCB x.d x.v = true) : (sibT x).length ≤ 262 := by
  have h4 : x.v.length ≤ 256 := by simp [okCB] at h; omega
  have := headT_len x.d x.v.length
  unfold sibT conT
  simp only [List.length_append, be_len]
  omega
theorem sibsT_snoc (xs : List Sc) {i : Nat} (h : i < xs.length) : sibsT (xs.take (i + 1)) = sibsT (xs.take i) ++ sibT xs[i] := by
  unfold sibsT
  rw [List.take_succ_eq_append_getElem h, List.flatMap_append]
  simp
theorem sibsT_len : ∀ (xs : List Sc), (∀ x ∈ xs, okCB x.d x.v = true) → (sibsT xs).length ≤ 262 * xs.length
  | [], _ => Nat.le_refl _
  | x :: xs, h => by
    have ih := sibsT_len xs (fun y hy => h y (by simp [hy]))
    have h1 := sibT_len (h x (by simp))
    show (sibT x ++ sibsT xs).length ≤ _
    rw [List.length_append, List.length_cons]
    omega
theorem ctxT_len (f : Nat → Int) : (ctxT f).length ≤ 17 := by
  have := num2_len f 8
  unfold ctxT
  rw [List.length_append, be_len]
  omega
section
variable {M : List Nat} {w0 w : World} {F r : LM} {a b c x : Nat × Obj}
theorem Sf.pull2 (h : Sf M w0 w F (a :: b :: x :: r)) : Sf M w0 w ([x] ++ F) (a :: b :: r) := ⟨h.st.perm (pc fun y => by simp only [List.count_append, List.count_cons, List.count_nil]; omega)⟩
end
theorem w8u_c (bw : Nat) (bs : List UInt8) (L : LM) (hW : Wr bw bs L) (n : Int) (h0 : 0 ≤ n) (h1 : n < 256) (w : World) (hS : St (keys L) w w L) (hn : bs.length ≤ 70368744177664) :
    Fc Tryz.prog 55 [.pointer (some ⟨bw, 0, none⟩), .int .u8 (IntKind.u8.wrap n)] w fun v w' => ∃ L', Wr bw (bs ++ be n 1) L' ∧ St (keys L) w w' L' := by
  rw [wrap_u8 h0 h1]
  exact w8_c bw bs L hW n h0 (by omega) w hS hn
theorem w16u_c (bw : Nat) (bs : List UInt8) (L : LM) (hW : Wr bw bs L) (n : Int) (h0 : 0 ≤ n) (h1 : n < 65536) (w : World) (hS : St (keys L) w w L) (hn : bs.length ≤ 70368744177664) :
    Fc Tryz.prog 59 [.pointer (some ⟨bw, 0, none⟩), .int .u16 (IntKind.u16.wrap n)] w fun v w' => ∃ L', Wr bw (bs ++ be n 2) L' ∧ St (keys L) w w' L' := by
  rw [wrap_u16_mod, Int.emod_eq_of_lt h0 h1]
  exact w16_c bw bs L hW n h0 (by omega) w hS hn
theorem putConOk_c (d : Bool) (s : List UInt8) (h : okCB d s = true) (w : World) :
    Fc Tryz.prog 58 [conV d s] w fun v w' => v = .tuple #[.string (strY (conT d s)), .int .i64 0] ∧ St [] w w' [] := by
  have h1 := putCon_c d s (by simp [okCB] at h; omega) w
  rw [h] at h1
  exact h1
set_option maxHeartbeats 4000000 in
theorem text1_c (p : List UInt8) (f : Nat → Int) (xs : List Sc) (g : Nat → Int) (hg : ∀ j, j < 8 → 0 ≤ g j ∧ g j ≤ 65535) (hp : p.length ≤ 36) (A : Option Addr) (c : Nat) (w : World) :
    Fc Tryz.prog 24 [msgC true p f A xs.length c g] w fun v w' => v = .string (strY (bodyT ⟨true, p, f, xs, g⟩)) ∧ St [] w w' [] := by
  have hpz := strY_size p
  have hcl := ctxT_len g
  refine fc_i TB_ok Tryz.func24 rfl (by kernel_rfl) ?_
  have hS := Sf.refl w
  repeat ((conv => whnf); first | (apply q_i; focus (intro w1 hS; (conv => whnf); first | exact ⟨rfl, rfl⟩ | ((refine ld_f hS 0 rfl rfl ?_); (conv => whnf); exact ⟨rfl, rfl⟩) | ((refine ld_f hS 1 rfl rfl ?_); (conv => whnf); exact ⟨rfl, rfl⟩) | ((refine ld_f hS 2 rfl rfl ?_); (conv => whnf); exact ⟨rfl, rfl⟩) | ((refine ld_f hS 3 rfl rfl ?_); (conv => whnf); exact ⟨rfl, rfl⟩) | ((refine ldA_f hS 0 rfl rfl ?_); (conv => whnf); exact ⟨rfl, rfl⟩) | ((refine ldA_f hS 1 rfl rfl ?_); (conv => whnf); exact ⟨rfl, rfl⟩) | ((refine ldA_f hS 2 rfl rfl ?_); (conv => whnf); exact ⟨rfl, rfl⟩) | ((refine ldA_f hS 3 rfl rfl ?_); (conv => whnf); exact ⟨rfl, rfl⟩) | ((refine ldN_f hS 1 rfl (Nat.le_of_ble_eq_true rfl) ?_); (conv => whnf); exact ⟨rfl, rfl⟩) | ((refine ldN_f hS 2 rfl (Nat.le_of_ble_eq_true rfl) ?_); (conv => whnf); exact ⟨rfl, rfl⟩) | ((refine ldN_f hS 3 rfl (Nat.le_of_ble_eq_true rfl) ?_); (conv => whnf); exact ⟨rfl, rfl⟩))) | (refine nw_f hS ?_; intro b w1 hS) | (refine as_i hS ?_) | (refine as_i (hS.subs (List.nil_sublist _) (by repeat (first | exact List.Sublist.refl _ | apply List.Sublist.cons_cons | apply List.Sublist.cons))) ?_) | (refine as_i (hS.subs (List.Sublist.refl _) (by repeat (first | exact List.Sublist.refl _ | apply List.Sublist.cons_cons | apply List.Sublist.cons))) ?_) | (refine bar_f hS ?_) | (refine ld_f hS 0 rfl rfl ?_) | (refine ld_f hS 1 rfl rfl ?_) | (refine ld_f hS 2 rfl rfl ?_) | (refine ld_f hS 3 rfl rfl ?_) | (refine ldA_f hS 0 rfl rfl ?_) | (refine ldA_f hS 1 rfl rfl ?_) | (refine ldA_f hS 2 rfl rfl ?_) | (refine ldA_f hS 3 rfl rfl ?_) | (refine stN_f hS 0 rfl (Nat.le_of_ble_eq_true rfl) rfl rfl ?_; (conv => whnf); intro w1 hS) | (refine stN_f hS 1 rfl (Nat.le_of_ble_eq_true rfl) rfl rfl ?_; (conv => whnf); intro w1 hS) | (refine stN_f hS 2 rfl (Nat.le_of_ble_eq_true rfl) rfl rfl ?_; (conv => whnf); intro w1 hS) | (refine stN_f hS 3 rfl (Nat.le_of_ble_eq_true rfl) rfl rfl ?_; (conv => whnf); intro w1 hS) | (refine stM_f hS 0 rfl (Nat.le_of_ble_eq_true rfl) rfl ?_; (conv => whnf); intro w1 hS) | (refine stM_f hS 1 rfl (Nat.le_of_ble_eq_true rfl) rfl ?_; (conv => whnf); intro w1 hS) | (refine stM_f hS 2 rfl (Nat.le_of_ble_eq_true rfl) rfl ?_; (conv => whnf); intro w1 hS) | (refine stM_f hS 3 rfl (Nat.le_of_ble_eq_true rfl) rfl ?_; (conv => whnf); intro w1 hS) | (refine ldN_f hS 1 rfl (Nat.le_of_ble_eq_true rfl) ?_) | (refine ldN_f hS 2 rfl (Nat.le_of_ble_eq_true rfl) ?_) | (refine ldN_f hS 3 rfl (Nat.le_of_ble_eq_true rfl) ?_) | (refine drawf TB_ok rfl (by kernel_rfl) (by kernel_rfl) hS (List.Sublist.refl _) (List.Sublist.refl _) ?_; intro w1 hS) | (refine br_t (by assumption) ?_) | (refine br_f (by assumption) ?_))
  replace hS := hS.pull2
  (conv => whnf)
  refine fc_m (w8_c _ [] _ (Wr.new _) 2 (by decide) (by decide) _ hS.ownF (by simp)) ?_
  rintro v w1 ⟨L1, hW1, hS'⟩
  replace hS := hS.callW hS'
  repeat ((conv => whnf); first | (apply q_i; focus (intro w1 hS; (conv => whnf); first | exact ⟨rfl, rfl⟩ | ((refine ld_f hS 0 rfl rfl ?_); (conv => whnf); exact ⟨rfl, rfl⟩) | ((refine ld_f hS 1 rfl rfl ?_); (conv => whnf); exact ⟨rfl, rfl⟩) | ((refine ld_f hS 2 rfl rfl ?_); (conv => whnf); exact ⟨rfl, rfl⟩) | ((refine ldA_f hS 0 rfl rfl ?_); (conv => whnf); exact ⟨rfl, rfl⟩) | ((refine ldA_f hS 1 rfl rfl ?_); (conv => whnf); exact ⟨rfl, rfl⟩) | ((refine ldA_f hS 2 rfl rfl ?_); (conv => whnf); exact ⟨rfl, rfl⟩))) | (refine nw_f hS ?_; intro b w1 hS) | (refine as_i hS ?_) | (refine as_i (hS.subs (List.nil_sublist _) (by repeat (first | exact List.Sublist.refl _ | apply List.Sublist.cons_cons | apply List.Sublist.cons))) ?_) | (refine as_i (hS.subs (List.Sublist.refl _) (by repeat (first | exact List.Sublist.refl _ | apply List.Sublist.cons_cons | apply List.Sublist.cons))) ?_) | (refine bar_f hS ?_) | (refine ld_f hS 0 rfl rfl ?_) | (refine ld_f hS 1 rfl rfl ?_) | (refine ld_f hS 2 rfl rfl ?_) | (refine ldA_f hS 0 rfl rfl ?_) | (refine ldA_f hS 1 rfl rfl ?_) | (refine ldA_f hS 2 rfl rfl ?_) | (refine stN_f hS 0 rfl (Nat.le_of_ble_eq_true rfl) rfl rfl ?_; (conv => whnf); intro w1 hS) | (refine stN_f hS 1 rfl (Nat.le_of_ble_eq_true rfl) rfl rfl ?_; (conv => whnf); intro w1 hS) | (refine stN_f hS 2 rfl (Nat.le_of_ble_eq_true rfl) rfl rfl ?_; (conv => whnf); intro w1 hS) | (refine stM_f hS 0 rfl (Nat.le_of_ble_eq_true rfl) rfl ?_; (conv => whnf); intro w1 hS) | (refine stM_f hS 1 rfl (Nat.le_of_ble_eq_true rfl) rfl ?_; (conv => whnf); intro w1 hS) | (refine stM_f hS 2 rfl (Nat.le_of_ble_eq_true rfl) rfl ?_; (conv => whnf); intro w1 hS) | (refine drawf TB_ok rfl (by kernel_rfl) (by kernel_rfl) hS (List.Sublist.refl _) (List.Sublist.refl _) ?_; intro w1 hS) | (refine br_t (by assumption) ?_) | (refine br_f (by assumption) ?_))
  (conv => whnf)
  refine fc_m (w8u_c _ _ L1 hW1 _ (by omega) (by omega) _ hS.ownF (by simp [be_len])) ?_
  rintro v w2 ⟨L2, hW2, hS'⟩
  replace hS := hS.callW hS'
  repeat ((conv => whnf); first | (apply q_i; focus (intro w1 hS; (conv => whnf); first | exact ⟨rfl, rfl⟩ | ((refine ld_f hS 0 rfl rfl ?_); (conv => whnf); exact ⟨rfl, rfl⟩) | ((refine ld_f hS 1 rfl rfl ?_); (conv => whnf); exact ⟨rfl, rfl⟩) | ((refine ld_f hS 2 rfl rfl ?_); (conv => whnf); exact ⟨rfl, rfl⟩) | ((refine ldA_f hS 0 rfl rfl ?_); (conv => whnf); exact ⟨rfl, rfl⟩) | ((refine ldA_f hS 1 rfl rfl ?_); (conv => whnf); exact ⟨rfl, rfl⟩) | ((refine ldA_f hS 2 rfl rfl ?_); (conv => whnf); exact ⟨rfl, rfl⟩))) | (refine nw_f hS ?_; intro b w1 hS) | (refine as_i hS ?_) | (refine as_i (hS.subs (List.nil_sublist _) (by repeat (first | exact List.Sublist.refl _ | apply List.Sublist.cons_cons | apply List.Sublist.cons))) ?_) | (refine as_i (hS.subs (List.Sublist.refl _) (by repeat (first | exact List.Sublist.refl _ | apply List.Sublist.cons_cons | apply List.Sublist.cons))) ?_) | (refine bar_f hS ?_) | (refine ld_f hS 0 rfl rfl ?_) | (refine ld_f hS 1 rfl rfl ?_) | (refine ld_f hS 2 rfl rfl ?_) | (refine ldA_f hS 0 rfl rfl ?_) | (refine ldA_f hS 1 rfl rfl ?_) | (refine ldA_f hS 2 rfl rfl ?_) | (refine stN_f hS 0 rfl (Nat.le_of_ble_eq_true rfl) rfl rfl ?_; (conv => whnf); intro w1 hS) | (refine stN_f hS 1 rfl (Nat.le_of_ble_eq_true rfl) rfl rfl ?_; (conv => whnf); intro w1 hS) | (refine stN_f hS 2 rfl (Nat.le_of_ble_eq_true rfl) rfl rfl ?_; (conv => whnf); intro w1 hS) | (refine stM_f hS 0 rfl (Nat.le_of_ble_eq_true rfl) rfl ?_; (conv => whnf); intro w1 hS) | (refine stM_f hS 1 rfl (Nat.le_of_ble_eq_true rfl) rfl ?_; (conv => whnf); intro w1 hS) | (refine stM_f hS 2 rfl (Nat.le_of_ble_eq_true rfl) rfl ?_; (conv => whnf); intro w1 hS) | (refine drawf TB_ok rfl (by kernel_rfl) (by kernel_rfl) hS (List.Sublist.refl _) (List.Sublist.refl _) ?_; intro w1 hS) | (refine br_t (by assumption) ?_) | (refine br_f (by assumption) ?_))
  (conv => whnf)
  refine fc_m (raw_c _ _ p L2 hW2 _ hS.ownF (by simp [be_len]; omega)) ?_
  rintro v w3 ⟨L3, hW3, hS'⟩
  replace hS := hS.callW hS'
  repeat ((conv => whnf); first | (apply q_i; focus (intro w1 hS; (conv => whnf); first | exact ⟨rfl, rfl⟩ | ((refine ld_f hS 0 rfl rfl ?_); (conv => whnf); exact ⟨rfl, rfl⟩) | ((refine ld_f hS 1 rfl rfl ?_); (conv => whnf); exact ⟨rfl, rfl⟩) | ((refine ld_f hS 2 rfl rfl ?_); (conv => whnf); exact ⟨rfl, rfl⟩) | ((refine ldA_f hS 0 rfl rfl ?_); (conv => whnf); exact ⟨rfl, rfl⟩) | ((refine ldA_f hS 1 rfl rfl ?_); (conv => whnf); exact ⟨rfl, rfl⟩) | ((refine ldA_f hS 2 rfl rfl ?_); (conv => whnf); exact ⟨rfl, rfl⟩))) | (refine nw_f hS ?_; intro b w1 hS) | (refine as_i hS ?_) | (refine as_i (hS.subs (List.nil_sublist _) (by repeat (first | exact List.Sublist.refl _ | apply List.Sublist.cons_cons | apply List.Sublist.cons))) ?_) | (refine as_i (hS.subs (List.Sublist.refl _) (by repeat (first | exact List.Sublist.refl _ | apply List.Sublist.cons_cons | apply List.Sublist.cons))) ?_) | (refine bar_f hS ?_) | (refine ld_f hS 0 rfl rfl ?_) | (refine ld_f hS 1 rfl rfl ?_) | (refine ld_f hS 2 rfl rfl ?_) | (refine ldA_f hS 0 rfl rfl ?_) | (refine ldA_f hS 1 rfl rfl ?_) | (refine ldA_f hS 2 rfl rfl ?_) | (refine stN_f hS 0 rfl (Nat.le_of_ble_eq_true rfl) rfl rfl ?_; (conv => whnf); intro w1 hS) | (refine stN_f hS 1 rfl (Nat.le_of_ble_eq_true rfl) rfl rfl ?_; (conv => whnf); intro w1 hS) | (refine stN_f hS 2 rfl (Nat.le_of_ble_eq_true rfl) rfl rfl ?_; (conv => whnf); intro w1 hS) | (refine stM_f hS 0 rfl (Nat.le_of_ble_eq_true rfl) rfl ?_; (conv => whnf); intro w1 hS) | (refine stM_f hS 1 rfl (Nat.le_of_ble_eq_true rfl) rfl ?_; (conv => whnf); intro w1 hS) | (refine stM_f hS 2 rfl (Nat.le_of_ble_eq_true rfl) rfl ?_; (conv => whnf); intro w1 hS) | (refine drawf TB_ok rfl (by kernel_rfl) (by kernel_rfl) hS (List.Sublist.refl _) (List.Sublist.refl _) ?_; intro w1 hS) | (refine br_t (by assumption) ?_) | (refine br_f (by assumption) ?_))
  (conv => whnf)
  refine fc_m (mput_c _ _ L3 hW3 g hg _ hS.ownF (by simp [be_len]; omega)) ?_
  rintro v w4 ⟨L4, hW4, hS'⟩
  replace hS := hS.callW hS'
  repeat ((conv => whnf); first | (apply q_i; focus (intro w1 hS; (conv => whnf); first | exact ⟨rfl, rfl⟩ | ((refine ld_f hS 0 rfl rfl ?_); (conv => whnf); exact ⟨rfl, rfl⟩) | ((refine ld_f hS 1 rfl rfl ?_); (conv => whnf); exact ⟨rfl, rfl⟩) | ((refine ld_f hS 2 rfl rfl ?_); (conv => whnf); exact ⟨rfl, rfl⟩) | ((refine ldA_f hS 0 rfl rfl ?_); (conv => whnf); exact ⟨rfl, rfl⟩) | ((refine ldA_f hS 1 rfl rfl ?_); (conv => whnf); exact ⟨rfl, rfl⟩) | ((refine ldA_f hS 2 rfl rfl ?_); (conv => whnf); exact ⟨rfl, rfl⟩))) | (refine nw_f hS ?_; intro b w1 hS) | (refine as_i hS ?_) | (refine as_i (hS.subs (List.nil_sublist _) (by repeat (first | exact List.Sublist.refl _ | apply List.Sublist.cons_cons | apply List.Sublist.cons))) ?_) | (refine as_i (hS.subs (List.Sublist.refl _) (by repeat (first | exact List.Sublist.refl _ | apply List.Sublist.cons_cons | apply List.Sublist.cons))) ?_) | (refine bar_f hS ?_) | (refine ld_f hS 0 rfl rfl ?_) | (refine ld_f hS 1 rfl rfl ?_) | (refine ld_f hS 2 rfl rfl ?_) | (refine ldA_f hS 0 rfl rfl ?_) | (refine ldA_f hS 1 rfl rfl ?_) | (refine ldA_f hS 2 rfl rfl ?_) | (refine stN_f hS 0 rfl (Nat.le_of_ble_eq_true rfl) rfl rfl ?_; (conv => whnf); intro w1 hS) | (refine stN_f hS 1 rfl (Nat.le_of_ble_eq_true rfl) rfl rfl ?_; (conv => whnf); intro w1 hS) | (refine stN_f hS 2 rfl (Nat.le_of_ble_eq_true rfl) rfl rfl ?_; (conv => whnf); intro w1 hS) | (refine stM_f hS 0 rfl (Nat.le_of_ble_eq_true rfl) rfl ?_; (conv => whnf); intro w1 hS) | (refine stM_f hS 1 rfl (Nat.le_of_ble_eq_true rfl) rfl ?_; (conv => whnf); intro w1 hS) | (refine stM_f hS 2 rfl (Nat.le_of_ble_eq_true rfl) rfl ?_; (conv => whnf); intro w1 hS) | (refine drawf TB_ok rfl (by kernel_rfl) (by kernel_rfl) hS (List.Sublist.refl _) (List.Sublist.refl _) ?_; intro w1 hS) | (refine br_t (by assumption) ?_) | (refine br_f (by assumption) ?_))
  (conv => whnf)
  refine fc_m (bytes_c _ _ L4 hW4 _ hS.ownF) ?_
  rintro v w5 ⟨rfl, hS'⟩
  replace hS := hS.call0 hS'
  repeat ((conv => whnf); first | (apply q_i; focus (intro w1 hS; (conv => whnf); first | exact ⟨rfl, rfl⟩ | ((refine ld_f hS 0 rfl rfl ?_); (conv => whnf); exact ⟨rfl, rfl⟩) | ((refine ld_f hS 1 rfl rfl ?_); (conv => whnf); exact ⟨rfl, rfl⟩) | ((refine ld_f hS 2 rfl rfl ?_); (conv => whnf); exact ⟨rfl, rfl⟩) | ((refine ldA_f hS 0 rfl rfl ?_); (conv => whnf); exact ⟨rfl, rfl⟩) | ((refine ldA_f hS 1 rfl rfl ?_); (conv => whnf); exact ⟨rfl, rfl⟩) | ((refine ldA_f hS 2 rfl rfl ?_); (conv => whnf); exact ⟨rfl, rfl⟩))) | (refine nw_f hS ?_; intro b w1 hS) | (refine as_i hS ?_) | (refine as_i (hS.subs (List.nil_sublist _) (by repeat (first | exact List.Sublist.refl _ | apply List.Sublist.cons_cons | apply List.Sublist.cons))) ?_) | (refine as_i (hS.subs (List.Sublist.refl _) (by repeat (first | exact List.Sublist.refl _ | apply List.Sublist.cons_cons | apply List.Sublist.cons))) ?_) | (refine bar_f hS ?_) | (refine ld_f hS 0 rfl rfl ?_) | (refine ld_f hS 1 rfl rfl ?_) | (refine ld_f hS 2 rfl rfl ?_) | (refine ldA_f hS 0 rfl rfl ?_) | (refine ldA_f hS 1 rfl rfl ?_) | (refine ldA_f hS 2 rfl rfl ?_) | (refine stN_f hS 0 rfl (Nat.le_of_ble_eq_true rfl) rfl rfl ?_; (conv => whnf); intro w1 hS) | (refine stN_f hS 1 rfl (Nat.le_of_ble_eq_true rfl) rfl rfl ?_; (conv => whnf); intro w1 hS) | (refine stN_f hS 2 rfl (Nat.le_of_ble_eq_true rfl) rfl rfl ?_; (conv => whnf); intro w1 hS) | (refine stM_f hS 0 rfl (Nat.le_of_ble_eq_true rfl) rfl ?_; (conv => whnf); intro w1 hS) | (refine stM_f hS 1 rfl (Nat.le_of_ble_eq_true rfl) rfl ?_; (conv => whnf); intro w1 hS) | (refine stM_f hS 2 rfl (Nat.le_of_ble_eq_true rfl) rfl ?_; (conv => whnf); intro w1 hS) | (refine drawf TB_ok rfl (by kernel_rfl) (by kernel_rfl) hS (List.Sublist.refl _) (List.Sublist.refl _) ?_; intro w1 hS) | (refine br_t (by assumption) ?_) | (refine br_f (by assumption) ?_))
  refine ⟨?_, hS.nil⟩
  rw [hpz]
  rfl
set_option maxHeartbeats 4000000 in
theorem text2_c (p : List UInt8) (f : Nat → Int) (xs : List Sc) (g : Nat → Int) (hf : ∀ j, j < 8 → 0 ≤ f j ∧ f j ≤ 65535) (hp : p.length ≤ 36) (hl : xs.length ≤ 8) (hx : ∀ x ∈ xs, 0 ≤ x.r ∧ x.r ≤ 255 ∧ 0 ≤ x.n ∧ x.n ≤ 65535 ∧ okCB x.d x.v = true) (A : Option Addr) (c : Nat) (w : World) (hR : Rd w A (flat encC xs)) :
    Fc Tryz.prog 24 [msgC false p f A xs.length c g] w fun v w' => v = .string (strY (bodyT ⟨false, p, f, xs, g⟩)) ∧ St [] w w' [] := by
  have hpz := strY_size p
  have hcl := ctxT_len f
  refine fc_i TB_ok Tryz.func24 rfl (by kernel_rfl) ?_
  have hS := Sf.refl w
  repeat ((conv => whnf); first | (apply q_i; focus (intro w1 hS; (conv => whnf); first | exact ⟨rfl, rfl⟩ | ((refine ld_f hS 0 rfl rfl ?_); (conv => whnf); exact ⟨rfl, rfl⟩) | ((refine ld_f hS 1 rfl rfl ?_); (conv => whnf); exact ⟨rfl, rfl⟩) | ((refine ld_f hS 2 rfl rfl ?_); (conv => whnf); exact ⟨rfl, rfl⟩) | ((refine ld_f hS 3 rfl rfl ?_); (conv => whnf); exact ⟨rfl, rfl⟩) | ((refine ldA_f hS 0 rfl rfl ?_); (conv => whnf); exact ⟨rfl, rfl⟩) | ((refine ldA_f hS 1 rfl rfl ?_); (conv => whnf); exact ⟨rfl, rfl⟩) | ((refine ldA_f hS 2 rfl rfl ?_); (conv => whnf); exact ⟨rfl, rfl⟩) | ((refine ldA_f hS 3 rfl rfl ?_); (conv => whnf); exact ⟨rfl, rfl⟩) | ((refine ldN_f hS 1 rfl (Nat.le_of_ble_eq_true rfl) ?_); (conv => whnf); exact ⟨rfl, rfl⟩) | ((refine ldN_f hS 2 rfl (Nat.le_of_ble_eq_true rfl) ?_); (conv => whnf); exact ⟨rfl, rfl⟩) | ((refine ldN_f hS 3 rfl (Nat.le_of_ble_eq_true rfl) ?_); (conv => whnf); exact ⟨rfl, rfl⟩))) | (refine nw_f hS ?_; intro b w1 hS) | (refine as_i hS ?_) | (refine as_i (hS.subs (List.nil_sublist _) (by repeat (first | exact List.Sublist.refl _ | apply List.Sublist.cons_cons | apply List.Sublist.cons))) ?_) | (refine as_i (hS.subs (List.Sublist.refl _) (by repeat (first | exact List.Sublist.refl _ | apply List.Sublist.cons_cons | apply List.Sublist.cons))) ?_) | (refine bar_f hS ?_) | (refine ld_f hS 0 rfl rfl ?_) | (refine ld_f hS 1 rfl rfl ?_) | (refine ld_f hS 2 rfl rfl ?_) | (refine ld_f hS 3 rfl rfl ?_) | (refine ldA_f hS 0 rfl rfl ?_) | (refine ldA_f hS 1 rfl rfl ?_) | (refine ldA_f hS 2 rfl rfl ?_) | (refine ldA_f hS 3 rfl rfl ?_) | (refine stN_f hS 0 rfl (Nat.le_of_ble_eq_true rfl) rfl rfl ?_; (conv => whnf); intro w1 hS) | (refine stN_f hS 1 rfl (Nat.le_of_ble_eq_true rfl) rfl rfl ?_; (conv => whnf); intro w1 hS) | (refine stN_f hS 2 rfl (Nat.le_of_ble_eq_true rfl) rfl rfl ?_; (conv => whnf); intro w1 hS) | (refine stN_f hS 3 rfl (Nat.le_of_ble_eq_true rfl) rfl rfl ?_; (conv => whnf); intro w1 hS) | (refine stM_f hS 0 rfl (Nat.le_of_ble_eq_true rfl) rfl ?_; (conv => whnf); intro w1 hS) | (refine stM_f hS 1 rfl (Nat.le_of_ble_eq_true rfl) rfl ?_; (conv => whnf); intro w1 hS) | (refine stM_f hS 2 rfl (Nat.le_of_ble_eq_true rfl) rfl ?_; (conv => whnf); intro w1 hS) | (refine stM_f hS 3 rfl (Nat.le_of_ble_eq_true rfl) rfl ?_; (conv => whnf); intro w1 hS) | (refine ldN_f hS 1 rfl (Nat.le_of_ble_eq_true rfl) ?_) | (refine ldN_f hS 2 rfl (Nat.le_of_ble_eq_true rfl) ?_) | (refine ldN_f hS 3 rfl (Nat.le_of_ble_eq_true rfl) ?_) | (refine drawf TB_ok rfl (by kernel_rfl) (by kernel_rfl) hS (List.Sublist.refl _) (List.Sublist.refl _) ?_; intro w1 hS) | (refine br_t (by assumption) ?_) | (refine br_f (by assumption) ?_))
  replace hS := hS.pull2
  (conv => whnf)
  refine fc_m (w8_c _ [] _ (Wr.new _) 1 (by decide) (by decide) _ hS.ownF (by simp)) ?_
  rintro v w1 ⟨L1, hW1, hS'⟩
  replace hS := hS.callW hS'
  repeat ((conv => whnf); first | (apply q_i; focus (intro w1 hS; (conv => whnf); first | exact ⟨rfl, rfl⟩ | ((refine ld_f hS 0 rfl rfl ?_); (conv => whnf); exact ⟨rfl, rfl⟩) | ((refine ld_f hS 1 rfl rfl ?_); (conv => whnf); exact ⟨rfl, rfl⟩) | ((refine ld_f hS 2 rfl rfl ?_); (conv => whnf); exact ⟨rfl, rfl⟩) | ((refine ldA_f hS 0 rfl rfl ?_); (conv => whnf); exact ⟨rfl, rfl⟩) | ((refine ldA_f hS 1 rfl rfl ?_); (conv => whnf); exact ⟨rfl, rfl⟩) | ((refine ldA_f hS 2 rfl rfl ?_); (conv => whnf); exact ⟨rfl, rfl⟩))) | (refine nw_f hS ?_; intro b w1 hS) | (refine as_i hS ?_) | (refine as_i (hS.subs (List.nil_sublist _) (by repeat (first | exact List.Sublist.refl _ | apply List.Sublist.cons_cons | apply List.Sublist.cons))) ?_) | (refine as_i (hS.subs (List.Sublist.refl _) (by repeat (first | exact List.Sublist.refl _ | apply List.Sublist.cons_cons | apply List.Sublist.cons))) ?_) | (refine bar_f hS ?_) | (refine ld_f hS 0 rfl rfl ?_) | (refine ld_f hS 1 rfl rfl ?_) | (refine ld_f hS 2 rfl rfl ?_) | (refine ldA_f hS 0 rfl rfl ?_) | (refine ldA_f hS 1 rfl rfl ?_) | (refine ldA_f hS 2 rfl rfl ?_) | (refine stN_f hS 0 rfl (Nat.le_of_ble_eq_true rfl) rfl rfl ?_; (conv => whnf); intro w1 hS) | (refine stN_f hS 1 rfl (Nat.le_of_ble_eq_true rfl) rfl rfl ?_; (conv => whnf); intro w1 hS) | (refine stN_f hS 2 rfl (Nat.le_of_ble_eq_true rfl) rfl rfl ?_; (conv => whnf); intro w1 hS) | (refine stM_f hS 0 rfl (Nat.le_of_ble_eq_true rfl) rfl ?_; (conv => whnf); intro w1 hS) | (refine stM_f hS 1 rfl (Nat.le_of_ble_eq_true rfl) rfl ?_; (conv => whnf); intro w1 hS) | (refine stM_f hS 2 rfl (Nat.le_of_ble_eq_true rfl) rfl ?_; (conv => whnf); intro w1 hS) | (refine drawf TB_ok rfl (by kernel_rfl) (by kernel_rfl) hS (List.Sublist.refl _) (List.Sublist.refl _) ?_; intro w1 hS) | (refine br_t (by assumption) ?_) | (refine br_f (by assumption) ?_))
  (conv => whnf)
  refine fc_m (w8u_c _ _ L1 hW1 _ (by omega) (by omega) _ hS.ownF (by simp [be_len])) ?_
  rintro v w2 ⟨L2, hW2, hS'⟩
  replace hS := hS.callW hS'
  repeat ((conv => whnf); first | (apply q_i; focus (intro w1 hS; (conv => whnf); first | exact ⟨rfl, rfl⟩ | ((refine ld_f hS 0 rfl rfl ?_); (conv => whnf); exact ⟨rfl, rfl⟩) | ((refine ld_f hS 1 rfl rfl ?_); (conv => whnf); exact ⟨rfl, rfl⟩) | ((refine ld_f hS 2 rfl rfl ?_); (conv => whnf); exact ⟨rfl, rfl⟩) | ((refine ldA_f hS 0 rfl rfl ?_); (conv => whnf); exact ⟨rfl, rfl⟩) | ((refine ldA_f hS 1 rfl rfl ?_); (conv => whnf); exact ⟨rfl, rfl⟩) | ((refine ldA_f hS 2 rfl rfl ?_); (conv => whnf); exact ⟨rfl, rfl⟩))) | (refine nw_f hS ?_; intro b w1 hS) | (refine as_i hS ?_) | (refine as_i (hS.subs (List.nil_sublist _) (by repeat (first | exact List.Sublist.refl _ | apply List.Sublist.cons_cons | apply List.Sublist.cons))) ?_) | (refine as_i (hS.subs (List.Sublist.refl _) (by repeat (first | exact List.Sublist.refl _ | apply List.Sublist.cons_cons | apply List.Sublist.cons))) ?_) | (refine bar_f hS ?_) | (refine ld_f hS 0 rfl rfl ?_) | (refine ld_f hS 1 rfl rfl ?_) | (refine ld_f hS 2 rfl rfl ?_) | (refine ldA_f hS 0 rfl rfl ?_) | (refine ldA_f hS 1 rfl rfl ?_) | (refine ldA_f hS 2 rfl rfl ?_) | (refine stN_f hS 0 rfl (Nat.le_of_ble_eq_true rfl) rfl rfl ?_; (conv => whnf); intro w1 hS) | (refine stN_f hS 1 rfl (Nat.le_of_ble_eq_true rfl) rfl rfl ?_; (conv => whnf); intro w1 hS) | (refine stN_f hS 2 rfl (Nat.le_of_ble_eq_true rfl) rfl rfl ?_; (conv => whnf); intro w1 hS) | (refine stM_f hS 0 rfl (Nat.le_of_ble_eq_true rfl) rfl ?_; (conv => whnf); intro w1 hS) | (refine stM_f hS 1 rfl (Nat.le_of_ble_eq_true rfl) rfl ?_; (conv => whnf); intro w1 hS) | (refine stM_f hS 2 rfl (Nat.le_of_ble_eq_true rfl) rfl ?_; (conv => whnf); intro w1 hS) | (refine drawf TB_ok rfl (by kernel_rfl) (by kernel_rfl) hS (List.Sublist.refl _) (List.Sublist.refl _) ?_; intro w1 hS) | (refine br_t (by assumption) ?_) | (refine br_f (by assumption) ?_))
  (conv => whnf)
  refine fc_m (raw_c _ _ p L2 hW2 _ hS.ownF (by simp [be_len]; omega)) ?_
  rintro v w3 ⟨L3, hW3, hS'⟩
  replace hS := hS.callW hS'
  repeat ((conv => whnf); first | (apply q_i; focus (intro w1 hS; (conv => whnf); first | exact ⟨rfl, rfl⟩ | ((refine ld_f hS 0 rfl rfl ?_); (conv => whnf); exact ⟨rfl, rfl⟩) | ((refine ld_f hS 1 rfl rfl ?_); (conv => whnf); exact ⟨rfl, rfl⟩) | ((refine ld_f hS 2 rfl rfl ?_); (conv => whnf); exact ⟨rfl, rfl⟩) | ((refine ldA_f hS 0 rfl rfl ?_); (conv => whnf); exact ⟨rfl, rfl⟩) | ((refine ldA_f hS 1 rfl rfl ?_); (conv => whnf); exact ⟨rfl, rfl⟩) | ((refine ldA_f hS 2 rfl rfl ?_); (conv => whnf); exact ⟨rfl, rfl⟩))) | (refine nw_f hS ?_; intro b w1 hS) | (refine as_i hS ?_) | (refine as_i (hS.subs (List.nil_sublist _) (by repeat (first | exact List.Sublist.refl _ | apply List.Sublist.cons_cons | apply List.Sublist.cons))) ?_) | (refine as_i (hS.subs (List.Sublist.refl _) (by repeat (first | exact List.Sublist.refl _ | apply List.Sublist.cons_cons | apply List.Sublist.cons))) ?_) | (refine bar_f hS ?_) | (refine ld_f hS 0 rfl rfl ?_) | (refine ld_f hS 1 rfl rfl ?_) | (refine ld_f hS 2 rfl rfl ?_) | (refine ldA_f hS 0 rfl rfl ?_) | (refine ldA_f hS 1 rfl rfl ?_) | (refine ldA_f hS 2 rfl rfl ?_) | (refine stN_f hS 0 rfl (Nat.le_of_ble_eq_true rfl) rfl rfl ?_; (conv => whnf); intro w1 hS) | (refine stN_f hS 1 rfl (Nat.le_of_ble_eq_true rfl) rfl rfl ?_; (conv => whnf); intro w1 hS) | (refine stN_f hS 2 rfl (Nat.le_of_ble_eq_true rfl) rfl rfl ?_; (conv => whnf); intro w1 hS) | (refine stM_f hS 0 rfl (Nat.le_of_ble_eq_true rfl) rfl ?_; (conv => whnf); intro w1 hS) | (refine stM_f hS 1 rfl (Nat.le_of_ble_eq_true rfl) rfl ?_; (conv => whnf); intro w1 hS) | (refine stM_f hS 2 rfl (Nat.le_of_ble_eq_true rfl) rfl ?_; (conv => whnf); intro w1 hS) | (refine drawf TB_ok rfl (by kernel_rfl) (by kernel_rfl) hS (List.Sublist.refl _) (List.Sublist.refl _) ?_; intro w1 hS) | (refine br_t (by assumption) ?_) | (refine br_f (by assumption) ?_))
  (conv => whnf)
  refine fc_m (mput_c _ _ L3 hW3 f hf _ hS.ownF (by simp [be_len]; omega)) ?_
  rintro v w4 ⟨L4, hW4, hS'⟩
  replace hS := hS.callW hS'
  repeat ((conv => whnf); first | (apply q_i; focus (intro w1 hS; (conv => whnf); first | exact ⟨rfl, rfl⟩ | ((refine ld_f hS 0 rfl rfl ?_); (conv => whnf); exact ⟨rfl, rfl⟩) | ((refine ld_f hS 1 rfl rfl ?_); (conv => whnf); exact ⟨rfl, rfl⟩) | ((refine ld_f hS 2 rfl rfl ?_); (conv => whnf); exact ⟨rfl, rfl⟩) | ((refine ldA_f hS 0 rfl rfl ?_); (conv => whnf); exact ⟨rfl, rfl⟩) | ((refine ldA_f hS 1 rfl rfl ?_); (conv => whnf); exact ⟨rfl, rfl⟩) | ((refine ldA_f hS 2 rfl rfl ?_); (conv => whnf); exact ⟨rfl, rfl⟩))) | (refine nw_f hS ?_; intro b w1 hS) | (refine as_i hS ?_) | (refine as_i (hS.subs (List.nil_sublist _) (by repeat (first | exact List.Sublist.refl _ | apply List.Sublist.cons_cons | apply List.Sublist.cons))) ?_) | (refine as_i (hS.subs (List.Sublist.refl _) (by repeat (first | exact List.Sublist.refl _ | apply List.Sublist.cons_cons | apply List.Sublist.cons))) ?_) | (refine bar_f hS ?_) | (refine ld_f hS 0 rfl rfl ?_) | (refine ld_f hS 1 rfl rfl ?_) | (refine ld_f hS 2 rfl rfl ?_) | (refine ldA_f hS 0 rfl rfl ?_) | (refine ldA_f hS 1 rfl rfl ?_) | (refine ldA_f hS 2 rfl rfl ?_) | (refine stN_f hS 0 rfl (Nat.le_of_ble_eq_true rfl) rfl rfl ?_; (conv => whnf); intro w1 hS) | (refine stN_f hS 1 rfl (Nat.le_of_ble_eq_true rfl) rfl rfl ?_; (conv => whnf); intro w1 hS) | (refine stN_f hS 2 rfl (Nat.le_of_ble_eq_true rfl) rfl rfl ?_; (conv => whnf); intro w1 hS) | (refine stM_f hS 0 rfl (Nat.le_of_ble_eq_true rfl) rfl ?_; (conv => whnf); intro w1 hS) | (refine stM_f hS 1 rfl (Nat.le_of_ble_eq_true rfl) rfl ?_; (conv => whnf); intro w1 hS) | (refine stM_f hS 2 rfl (Nat.le_of_ble_eq_true rfl) rfl ?_; (conv => whnf); intro w1 hS) | (refine drawf TB_ok rfl (by kernel_rfl) (by kernel_rfl) hS (List.Sublist.refl _) (List.Sublist.refl _) ?_; intro w1 hS) | (refine br_t (by assumption) ?_) | (refine br_f (by assumption) ?_))
  (conv => whnf)
  refine fc_m (w8u_c _ _ L4 hW4 _ (by omega) (by omega) _ hS.ownF (by simp [be_len]; omega)) ?_
  rintro v w5 ⟨L5, hW5, hS'⟩
  replace hS := hS.callW hS'
  rw [hpz] at hW5
  generalize hpre : [] ++ be 1 1 ++ be (p.length : Int) 1 ++ p ++ ctxT f ++ be (xs.length : Int) 1 = pre at hW5
  have hprl : pre.length ≤ 60 := by rw [← hpre]; simp [be_len]; omega
  repeat ((conv => whnf); first | (apply q_i; focus (intro w1 hS; (conv => whnf); first | exact ⟨rfl, rfl⟩ | ((refine ld_f hS 0 rfl rfl ?_); (conv => whnf); exact ⟨rfl, rfl⟩) | ((refine ld_f hS 1 rfl rfl ?_); (conv => whnf); exact ⟨rfl, rfl⟩) | ((refine ld_f hS 2 rfl rfl ?_); (conv => whnf); exact ⟨rfl, rfl⟩) | ((refine ldA_f hS 0 rfl rfl ?_); (conv => whnf); exact ⟨rfl, rfl⟩) | ((refine ldA_f hS 1 rfl rfl ?_); (conv => whnf); exact ⟨rfl, rfl⟩) | ((refine ldA_f hS 2 rfl rfl ?_); (conv => whnf); exact ⟨rfl, rfl⟩) | ((refine ldN_f hS 2 rfl (Nat.le_of_ble_eq_true rfl) ?_); (conv => whnf); exact ⟨rfl, rfl⟩))) | (refine nw_f hS ?_; intro b w1 hS) | (refine as_i hS ?_) | (refine as_i (hS.subs (List.nil_sublist _) (by repeat (first | exact List.Sublist.refl _ | apply List.Sublist.cons_cons | apply List.Sublist.cons))) ?_) | (refine as_i (hS.subs (List.Sublist.refl _) (by repeat (first | exact List.Sublist.refl _ | apply List.Sublist.cons_cons | apply List.Sublist.cons))) ?_) | (refine bar_f hS ?_) | (refine ld_f hS 0 rfl rfl ?_) | (refine ld_f hS 1 rfl rfl ?_) | (refine ld_f hS 2 rfl rfl ?_) | (refine ldA_f hS 0 rfl rfl ?_) | (refine ldA_f hS 1 rfl rfl ?_) | (refine ldA_f hS 2 rfl rfl ?_) | (refine stN_f hS 0 rfl (Nat.le_of_ble_eq_true rfl) rfl rfl ?_; (conv => whnf); intro w1 hS) | (refine stN_f hS 1 rfl (Nat.le_of_ble_eq_true rfl) rfl rfl ?_; (conv => whnf); intro w1 hS) | (refine stN_f hS 2 rfl (Nat.le_of_ble_eq_true rfl) rfl rfl ?_; (conv => whnf); intro w1 hS) | (refine stM_f hS 0 rfl (Nat.le_of_ble_eq_true rfl) rfl ?_; (conv => whnf); intro w1 hS) | (refine stM_f hS 1 rfl (Nat.le_of_ble_eq_true rfl) rfl ?_; (conv => whnf); intro w1 hS) | (refine stM_f hS 2 rfl (Nat.le_of_ble_eq_true rfl) rfl ?_; (conv => whnf); intro w1 hS) | (refine ldN_f hS 2 rfl (Nat.le_of_ble_eq_true rfl) ?_) | (refine drawf TB_ok rfl (by kernel_rfl) (by kernel_rfl) hS (List.Sublist.refl _) (List.Sublist.refl _) ?_; intro w1 hS) | (refine br_t (by assumption) ?_) | (refine br_f (by assumption) ?_))
  (conv => whnf)
  refine fc_m (allC_c f A xs.length c _) ?_
  rintro v w6 ⟨bx, rfl, hS'⟩
  replace hS := hS.call' hS'
  replace hS : Sf [] w w6 (L5 ++ []) [_, _, _, _] := hS
  repeat ((conv => whnf); first | (apply q_i; focus (intro w1 hS; (conv => whnf); first | exact ⟨rfl, rfl⟩ | ((refine ld_f hS 0 rfl rfl ?_); (conv => whnf); exact ⟨rfl, rfl⟩) | ((refine ld_f hS 1 rfl rfl ?_); (conv => whnf); exact ⟨rfl, rfl⟩) | ((refine ld_f hS 2 rfl rfl ?_); (conv => whnf); exact ⟨rfl, rfl⟩) | ((refine ld_f hS 3 rfl rfl ?_); (conv => whnf); exact ⟨rfl, rfl⟩) | ((refine ldA_f hS 0 rfl rfl ?_); (conv => whnf); exact ⟨rfl, rfl⟩) | ((refine ldA_f hS 1 rfl rfl ?_); (conv => whnf); exact ⟨rfl, rfl⟩) | ((refine ldA_f hS 2 rfl rfl ?_); (conv => whnf); exact ⟨rfl, rfl⟩) | ((refine ldA_f hS 3 rfl rfl ?_); (conv => whnf); exact ⟨rfl, rfl⟩))) | (refine nw_f hS ?_; intro b w1 hS) | (refine as_i hS ?_) | (refine as_i (hS.subs (List.nil_sublist _) (by repeat (first | exact List.Sublist.refl _ | apply List.Sublist.cons_cons | apply List.Sublist.cons))) ?_) | (refine as_i (hS.subs (List.Sublist.refl _) (by repeat (first | exact List.Sublist.refl _ | apply List.Sublist.cons_cons | apply List.Sublist.cons))) ?_) | (refine bar_f hS ?_) | (refine ld_f hS 0 rfl rfl ?_) | (refine ld_f hS 1 rfl rfl ?_) | (refine ld_f hS 2 rfl rfl ?_) | (refine ld_f hS 3 rfl rfl ?_) | (refine ldA_f hS 0 rfl rfl ?_) | (refine ldA_f hS 1 rfl rfl ?_) | (refine ldA_f hS 2 rfl rfl ?_) | (refine ldA_f hS 3 rfl rfl ?_) | (refine stN_f hS 0 rfl (Nat.le_of_ble_eq_true rfl) rfl rfl ?_; (conv => whnf); intro w1 hS) | (refine stN_f hS 1 rfl (Nat.le_of_ble_eq_true rfl) rfl rfl ?_; (conv => whnf); intro w1 hS) | (refine stN_f hS 2 rfl (Nat.le_of_ble_eq_true rfl) rfl rfl ?_; (conv => whnf); intro w1 hS) | (refine stN_f hS 3 rfl (Nat.le_of_ble_eq_true rfl) rfl rfl ?_; (conv => whnf); intro w1 hS) | (refine stM_f hS 0 rfl (Nat.le_of_ble_eq_true rfl) rfl ?_; (conv => whnf); intro w1 hS) | (refine stM_f hS 1 rfl (Nat.le_of_ble_eq_true rfl) rfl ?_; (conv => whnf); intro w1 hS) | (refine stM_f hS 2 rfl (Nat.le_of_ble_eq_true rfl) rfl ?_; (conv => whnf); intro w1 hS) | (refine stM_f hS 3 rfl (Nat.le_of_ble_eq_true rfl) rfl ?_; (conv => whnf); intro w1 hS) | (refine drawf TB_ok rfl (by kernel_rfl) (by kernel_rfl) hS (List.Sublist.refl _) (List.Sublist.refl _) ?_; intro w1 hS) | (refine br_t (by assumption) ?_) | (refine br_f (by assumption) ?_))
  refine range_i rfl Tryz.func86 rfl (by kernel_rfl) hS ?_
  intro fi2 bd l w7 hS
  refine fc_i TB_ok Tryz.func86 rfl (by kernel_rfl) ?_
  repeat ((conv => whnf); first | (apply q_i; focus (intro w1 hS; (conv => whnf); first | exact ⟨rfl, rfl⟩ | ((refine ld_f hS 0 rfl rfl ?_); (conv => whnf); exact ⟨rfl, rfl⟩) | ((refine ld_f hS 1 rfl rfl ?_); (conv => whnf); exact ⟨rfl, rfl⟩) | ((refine ld_f hS 2 rfl rfl ?_); (conv => whnf); exact ⟨rfl, rfl⟩) | ((refine ld_f hS 3 rfl rfl ?_); (conv => whnf); exact ⟨rfl, rfl⟩) | ((refine ld_f hS 4 rfl rfl ?_); (conv => whnf); exact ⟨rfl, rfl⟩) | ((refine ld_f hS 5 rfl rfl ?_); (conv => whnf); exact ⟨rfl, rfl⟩) | ((refine ldA_f hS 0 rfl rfl ?_); (conv => whnf); exact ⟨rfl, rfl⟩) | ((refine ldA_f hS 1 rfl rfl ?_); (conv => whnf); exact ⟨rfl, rfl⟩) | ((refine ldA_f hS 2 rfl rfl ?_); (conv => whnf); exact ⟨rfl, rfl⟩) | ((refine ldA_f hS 3 rfl rfl ?_); (conv => whnf); exact ⟨rfl, rfl⟩) | ((refine ldA_f hS 4 rfl rfl ?_); (conv => whnf); exact ⟨rfl, rfl⟩) | ((refine ldA_f hS 5 rfl rfl ?_); (conv => whnf); exact ⟨rfl, rfl⟩))) | (refine nw_f hS ?_; intro b w1 hS) | (refine as_i hS ?_) | (refine as_i (hS.subs (List.nil_sublist _) (by repeat (first | exact List.Sublist.refl _ | apply List.Sublist.cons_cons | apply List.Sublist.cons))) ?_) | (refine as_i (hS.subs (List.Sublist.refl _) (by repeat (first | exact List.Sublist.refl _ | apply List.Sublist.cons_cons | apply List.Sublist.cons))) ?_) | (refine bar_f hS ?_) | (refine ld_f hS 0 rfl rfl ?_) | (refine ld_f hS 1 rfl rfl ?_) | (refine ld_f hS 2 rfl rfl ?_) | (refine ld_f hS 3 rfl rfl ?_) | (refine ld_f hS 4 rfl rfl ?_) | (refine ld_f hS 5 rfl rfl ?_) | (refine ldA_f hS 0 rfl rfl ?_) | (refine ldA_f hS 1 rfl rfl ?_) | (refine ldA_f hS 2 rfl rfl ?_) | (refine ldA_f hS 3 rfl rfl ?_) | (refine ldA_f hS 4 rfl rfl ?_) | (refine ldA_f hS 5 rfl rfl ?_) | (refine stN_f hS 0 rfl (Nat.le_of_ble_eq_true rfl) rfl rfl ?_; (conv => whnf); intro w1 hS) | (refine stN_f hS 1 rfl (Nat.le_of_ble_eq_true rfl) rfl rfl ?_; (conv => whnf); intro w1 hS) | (refine stN_f hS 2 rfl (Nat.le_of_ble_eq_true rfl) rfl rfl ?_; (conv => whnf); intro w1 hS) | (refine stN_f hS 3 rfl (Nat.le_of_ble_eq_true rfl) rfl rfl ?_; (conv => whnf); intro w1 hS) | (refine stN_f hS 4 rfl (Nat.le_of_ble_eq_true rfl) rfl rfl ?_; (conv => whnf); intro w1 hS) | (refine stN_f hS 5 rfl (Nat.le_of_ble_eq_true rfl) rfl rfl ?_; (conv => whnf); intro w1 hS) | (refine stM_f hS 0 rfl (Nat.le_of_ble_eq_true rfl) rfl ?_; (conv => whnf); intro w1 hS) | (refine stM_f hS 1 rfl (Nat.le_of_ble_eq_true rfl) rfl ?_; (conv => whnf); intro w1 hS) | (refine stM_f hS 2 rfl (Nat.le_of_ble_eq_true rfl) rfl ?_; (conv => whnf); intro w1 hS) | (refine stM_f hS 3 rfl (Nat.le_of_ble_eq_true rfl) rfl ?_; (conv => whnf); intro w1 hS) | (refine stM_f hS 4 rfl (Nat.le_of_ble_eq_true rfl) rfl ?_; (conv => whnf); intro w1 hS) | (refine stM_f hS 5 rfl (Nat.le_of_ble_eq_true rfl) rfl ?_; (conv => whnf); intro w1 hS) | (refine drawf TB_ok rfl (by kernel_rfl) (by kernel_rfl) hS (List.Sublist.refl _) (List.Sublist.refl _) ?_; intro w1 hS) | (refine br_t (by assumption) ?_) | (refine br_f (by assumption) ?_))
  refine loop_i TB_ok (fun i : Nat => [(8, .int .i64 i)]) (fun i w' => i ≤ xs.length ∧ ∃ L', Wr _ (pre ++ sibsT (xs.take i)) L' ∧ Sf [] w w' (L' ++ []) [_, _, _, _, _, _]) (fun i => xs.length - i) 0 rfl ⟨Nat.zero_le _, L5, by simpa [sibsT] using hW5, hS⟩ ?_
  rintro i us w8 ⟨hi, L6, hW6, hS⟩
  (conv => whnf)
  refine br_i (fun hb => ?_) (fun hb => ?_)
  · have hlt : i < xs.length := by have := of_decide_eq_true hb; omega
    obtain ⟨x0, off, rfl⟩ := hR.form (flat_ne encC_len (by omega) hlt)
    have hxi := hx xs[i] (List.getElem_mem hlt)
    have hbl := sibsT_len (xs.take i) (fun x hx' => (hx x (List.mem_of_mem_take hx')).2.2.2.2)
    rw [List.length_take] at hbl
    have hcon := fun w => putConOk_c xs[i].d xs[i].v hxi.2.2.2.2 w
    have hcl2 := sibT_len hxi.2.2.2.2
    repeat ((conv => whnf); first | (apply q_i; focus (intro w1 hS; (conv => whnf); first | exact ⟨rfl, rfl⟩ | ((refine ld_f hS 0 rfl rfl ?_); (conv => whnf); exact ⟨rfl, rfl⟩) | ((refine ld_f hS 1 rfl rfl ?_); (conv => whnf); exact ⟨rfl, rfl⟩) | ((refine ld_f hS 2 rfl rfl ?_); (conv => whnf); exact ⟨rfl, rfl⟩) | ((refine ld_f hS 3 rfl rfl ?_); (conv => whnf); exact ⟨rfl, rfl⟩) | ((refine ld_f hS 4 rfl rfl ?_); (conv => whnf); exact ⟨rfl, rfl⟩) | ((refine ld_f hS 5 rfl rfl ?_); (conv => whnf); exact ⟨rfl, rfl⟩) | ((refine ldA_f hS 0 rfl rfl ?_); (conv => whnf); exact ⟨rfl, rfl⟩) | ((refine ldA_f hS 1 rfl rfl ?_); (conv => whnf); exact ⟨rfl, rfl⟩) | ((refine ldA_f hS 2 rfl rfl ?_); (conv => whnf); exact ⟨rfl, rfl⟩) | ((refine ldA_f hS 3 rfl rfl ?_); (conv => whnf); exact ⟨rfl, rfl⟩) | ((refine ldA_f hS 4 rfl rfl ?_); (conv => whnf); exact ⟨rfl, rfl⟩) | ((refine ldA_f hS 5 rfl rfl ?_); (conv => whnf); exact ⟨rfl, rfl⟩) | ((refine .mk ⟨by omega, by omega⟩ ?_; refine ix_i rfl ?_); (conv => whnf); exact ⟨rfl, rfl⟩) | ((refine ldN_el encC_len (hR.below hS.nil).at (i := i) hlt rfl rfl ?_); (conv => whnf); exact ⟨rfl, rfl⟩) | ((refine ldN_f hS 0 rfl (Nat.le_of_ble_eq_true rfl) ?_); (conv => whnf); exact ⟨rfl, rfl⟩))) | (refine nw_f hS ?_; intro b w1 hS) | (refine as_i hS ?_) | (refine as_i (hS.subs (List.nil_sublist _) (by repeat (first | exact List.Sublist.refl _ | apply List.Sublist.cons_cons | apply List.Sublist.cons))) ?_) | (refine as_i (hS.subs (List.Sublist.refl _) (by repeat (first | exact List.Sublist.refl _ | apply List.Sublist.cons_cons | apply List.Sublist.cons))) ?_) | (refine bar_f hS ?_) | (refine ld_f hS 0 rfl rfl ?_) | (refine ld_f hS 1 rfl rfl ?_) | (refine ld_f hS 2 rfl rfl ?_) | (refine ld_f hS 3 rfl rfl ?_) | (refine ld_f hS 4 rfl rfl ?_) | (refine ld_f hS 5 rfl rfl ?_) | (refine ldA_f hS 0 rfl rfl ?_) | (refine ldA_f hS 1 rfl rfl ?_) | (refine ldA_f hS 2 rfl rfl ?_) | (refine ldA_f hS 3 rfl rfl ?_) | (refine ldA_f hS 4 rfl rfl ?_) | (refine ldA_f hS 5 rfl rfl ?_) | (refine stN_f hS 0 rfl (Nat.le_of_ble_eq_true rfl) rfl rfl ?_; (conv => whnf); intro w1 hS) | (refine stN_f hS 1 rfl (Nat.le_of_ble_eq_true rfl) rfl rfl ?_; (conv => whnf); intro w1 hS) | (refine stN_f hS 2 rfl (Nat.le_of_ble_eq_true rfl) rfl rfl ?_; (conv => whnf); intro w1 hS) | (refine stN_f hS 3 rfl (Nat.le_of_ble_eq_true rfl) rfl rfl ?_; (conv => whnf); intro w1 hS) | (refine stN_f hS 4 rfl (Nat.le_of_ble_eq_true rfl) rfl rfl ?_; (conv => whnf); intro w1 hS) | (refine stN_f hS 5 rfl (Nat.le_of_ble_eq_true rfl) rfl rfl ?_; (conv => whnf); intro w1 hS) | (refine stM_f hS 0 rfl (Nat.le_of_ble_eq_true rfl) rfl ?_; (conv => whnf); intro w1 hS) | (refine stM_f hS 1 rfl (Nat.le_of_ble_eq_true rfl) rfl ?_; (conv => whnf); intro w1 hS) | (refine stM_f hS 2 rfl (Nat.le_of_ble_eq_true rfl) rfl ?_; (conv => whnf); intro w1 hS) | (refine stM_f hS 3 rfl (Nat.le_of_ble_eq_true rfl) rfl ?_; (conv => whnf); intro w1 hS) | (refine stM_f hS 4 rfl (Nat.le_of_ble_eq_true rfl) rfl ?_; (conv => whnf); intro w1 hS) | (refine stM_f hS 5 rfl (Nat.le_of_ble_eq_true rfl) rfl ?_; (conv => whnf); intro w1 hS) | (refine .mk ⟨by omega, by omega⟩ ?_; refine ix_i rfl ?_) | (refine ldN_el encC_len (hR.below hS.nil).at (i := i) hlt rfl rfl ?_) | (refine ldN_f hS 0 rfl (Nat.le_of_ble_eq_true rfl) ?_) | (refine drawf TB_ok rfl (by kernel_rfl) (by kernel_rfl) hS (List.Sublist.refl _) (List.Sublist.refl _) ?_; intro w1 hS) | (refine br_t (by assumption) ?_) | (refine br_f (by assumption) ?_))
    refine yield2_i TB_ok (hS.obj 1 rfl) rfl ?_
    repeat ((conv => whnf); first | (apply q_i; focus (intro w1 hS; (conv => whnf); first | exact ⟨rfl, rfl⟩ | ((refine ld_f hS 0 rfl rfl ?_); (conv => whnf); exact ⟨rfl, rfl⟩) | ((refine ld_f hS 1 rfl rfl ?_); (conv => whnf); exact ⟨rfl, rfl⟩) | ((refine ld_f hS 2 rfl rfl ?_); (conv => whnf); exact ⟨rfl, rfl⟩) | ((refine ld_f hS 3 rfl rfl ?_); (conv => whnf); exact ⟨rfl, rfl⟩) | ((refine ld_f hS 4 rfl rfl ?_); (conv => whnf); exact ⟨rfl, rfl⟩) | ((refine ld_f hS 5 rfl rfl ?_); (conv => whnf); exact ⟨rfl, rfl⟩) | ((refine ld_f hS 6 rfl rfl ?_); (conv => whnf); exact ⟨rfl, rfl⟩) | ((refine ldA_f hS 0 rfl rfl ?_); (conv => whnf); exact ⟨rfl, rfl⟩) | ((refine ldA_f hS 1 rfl rfl ?_); (conv => whnf); exact ⟨rfl, rfl⟩) | ((refine ldA_f hS 2 rfl rfl ?_); (conv => whnf); exact ⟨rfl, rfl⟩) | ((refine ldA_f hS 3 rfl rfl ?_); (conv => whnf); exact ⟨rfl, rfl⟩) | ((refine ldA_f hS 4 rfl rfl ?_); (conv => whnf); exact ⟨rfl, rfl⟩) | ((refine ldA_f hS 5 rfl rfl ?_); (conv => whnf); exact ⟨rfl, rfl⟩) | ((refine ldA_f hS 6 rfl rfl ?_); (conv => whnf); exact ⟨rfl, rfl⟩))) | (refine nw_f hS ?_; intro b w1 hS) | (refine as_i hS ?_) | (refine as_i (hS.subs (List.nil_sublist _) (by repeat (first | exact List.Sublist.refl _ | apply List.Sublist.cons_cons | apply List.Sublist.cons))) ?_) | (refine as_i (hS.subs (List.Sublist.refl _) (by repeat (first | exact List.Sublist.refl _ | apply List.Sublist.cons_cons | apply List.Sublist.cons))) ?_) | (refine bar_f hS ?_) | (refine ld_f hS 0 rfl rfl ?_) | (refine ld_f hS 1 rfl rfl ?_) | (refine ld_f hS 2 rfl rfl ?_) | (refine ld_f hS 3 rfl rfl ?_) | (refine ld_f hS 4 rfl rfl ?_) | (refine ld_f hS 5 rfl rfl ?_) | (refine ld_f hS 6 rfl rfl ?_) | (refine ldA_f hS 0 rfl rfl ?_) | (refine ldA_f hS 1 rfl rfl ?_) | (refine ldA_f hS 2 rfl rfl ?_) | (refine ldA_f hS 3 rfl rfl ?_) | (refine ldA_f hS 4 rfl rfl ?_) | (refine ldA_f hS 5 rfl rfl ?_) | (refine ldA_f hS 6 rfl rfl ?_) | (refine stN_f hS 0 rfl (Nat.le_of_ble_eq_true rfl) rfl rfl ?_; (conv => whnf); intro w1 hS) | (refine stN_f hS 1 rfl (Nat.le_of_ble_eq_true rfl) rfl rfl ?_; (conv => whnf); intro w1 hS) | (refine stN_f hS 2 rfl (Nat.le_of_ble_eq_true rfl) rfl rfl ?_; (conv => whnf); intro w1 hS) | (refine stN_f hS 3 rfl (Nat.le_of_ble_eq_true rfl) rfl rfl ?_; (conv => whnf); intro w1 hS) | (refine stN_f hS 4 rfl (Nat.le_of_ble_eq_true rfl) rfl rfl ?_; (conv => whnf); intro w1 hS) | (refine stN_f hS 5 rfl (Nat.le_of_ble_eq_true rfl) rfl rfl ?_; (conv => whnf); intro w1 hS) | (refine stN_f hS 6 rfl (Nat.le_of_ble_eq_true rfl) rfl rfl ?_; (conv => whnf); intro w1 hS) | (refine stM_f hS 0 rfl (Nat.le_of_ble_eq_true rfl) rfl ?_; (conv => whnf); intro w1 hS) | (refine stM_f hS 1 rfl (Nat.le_of_ble_eq_true rfl) rfl ?_; (conv => whnf); intro w1 hS) | (refine stM_f hS 2 rfl (Nat.le_of_ble_eq_true rfl) rfl ?_; (conv => whnf); intro w1 hS) | (refine stM_f hS 3 rfl (Nat.le_of_ble_eq_true rfl) rfl ?_; (conv => whnf); intro w1 hS) | (refine stM_f hS 4 rfl (Nat.le_of_ble_eq_true rfl) rfl ?_; (conv => whnf); intro w1 hS) | (refine stM_f hS 5 rfl (Nat.le_of_ble_eq_true rfl) rfl ?_; (conv => whnf); intro w1 hS) | (refine stM_f hS 6 rfl (Nat.le_of_ble_eq_true rfl) rfl ?_; (conv => whnf); intro w1 hS) | (refine drawf TB_ok rfl (by kernel_rfl) (by kernel_rfl) hS (List.Sublist.refl _) (List.Sublist.refl _) ?_; intro w1 hS) | (refine br_t (by assumption) ?_) | (refine br_f (by assumption) ?_))
    refine begin_f hS 3 rfl rfl ?_
    (conv => whnf)
    intro w9 hS
    repeat ((conv => whnf); first | (apply q_i; focus (intro w1 hS; (conv => whnf); first | exact ⟨rfl, rfl⟩ | ((refine ld_f hS 0 rfl rfl ?_); (conv => whnf); exact ⟨rfl, rfl⟩) | ((refine ld_f hS 1 rfl rfl ?_); (conv => whnf); exact ⟨rfl, rfl⟩) | ((refine ld_f hS 2 rfl rfl ?_); (conv => whnf); exact ⟨rfl, rfl⟩) | ((refine ld_f hS 3 rfl rfl ?_); (conv => whnf); exact ⟨rfl, rfl⟩) | ((refine ld_f hS 4 rfl rfl ?_); (conv => whnf); exact ⟨rfl, rfl⟩) | ((refine ld_f hS 5 rfl rfl ?_); (conv => whnf); exact ⟨rfl, rfl⟩) | ((refine ld_f hS 6 rfl rfl ?_); (conv => whnf); exact ⟨rfl, rfl⟩) | ((refine ld_f hS 7 rfl rfl ?_); (conv => whnf); exact ⟨rfl, rfl⟩) | ((refine ldA_f hS 0 rfl rfl ?_); (conv => whnf); exact ⟨rfl, rfl⟩) | ((refine ldA_f hS 1 rfl rfl ?_); (conv => whnf); exact ⟨rfl, rfl⟩) | ((refine ldA_f hS 2 rfl rfl ?_); (conv => whnf); exact ⟨rfl, rfl⟩) | ((refine ldA_f hS 3 rfl rfl ?_); (conv => whnf); exact ⟨rfl, rfl⟩) | ((refine ldA_f hS 4 rfl rfl ?_); (conv => whnf); exact ⟨rfl, rfl⟩) | ((refine ldA_f hS 5 rfl rfl ?_); (conv => whnf); exact ⟨rfl, rfl⟩) | ((refine ldA_f hS 6 rfl rfl ?_); (conv => whnf); exact ⟨rfl, rfl⟩) | ((refine ldA_f hS 7 rfl rfl ?_); (conv => whnf); exact ⟨rfl, rfl⟩) | ((refine fc_m (hcon _) ?_; rintro v w3 ⟨rfl, hS'⟩; replace hS := hS.call0 hS'); (conv => whnf); exact ⟨rfl, rfl⟩))) | (refine nw_f hS ?_; intro b w1 hS) | (refine as_i hS ?_) | (refine as_i (hS.subs (List.nil_sublist _) (by repeat (first | exact List.Sublist.refl _ | apply List.Sublist.cons_cons | apply List.Sublist.cons))) ?_) | (refine as_i (hS.subs (List.Sublist.refl _) (by repeat (first | exact List.Sublist.refl _ | apply List.Sublist.cons_cons | apply List.Sublist.cons))) ?_) | (refine bar_f hS ?_) | (refine ld_f hS 0 rfl rfl ?_) | (refine ld_f hS 1 rfl rfl ?_) | (refine ld_f hS 2 rfl rfl ?_) | (refine ld_f hS 3 rfl rfl ?_) | (refine ld_f hS 4 rfl rfl ?_) | (refine ld_f hS 5 rfl rfl ?_) | (refine ld_f hS 6 rfl rfl ?_) | (refine ld_f hS 7 rfl rfl ?_) | (refine ldA_f hS 0 rfl rfl ?_) | (refine ldA_f hS 1 rfl rfl ?_) | (refine ldA_f hS 2 rfl rfl ?_) | (refine ldA_f hS 3 rfl rfl ?_) | (refine ldA_f hS 4 rfl rfl ?_) | (refine ldA_f hS 5 rfl rfl ?_) | (refine ldA_f hS 6 rfl rfl ?_) | (refine ldA_f hS 7 rfl rfl ?_) | (refine stN_f hS 0 rfl (Nat.le_of_ble_eq_true rfl) rfl rfl ?_; (conv => whnf); intro w1 hS) | (refine stN_f hS 1 rfl (Nat.le_of_ble_eq_true rfl) rfl rfl ?_; (conv => whnf); intro w1 hS) | (refine stN_f hS 2 rfl (Nat.le_of_ble_eq_true rfl) rfl rfl ?_; (conv => whnf); intro w1 hS) | (refine stN_f hS 3 rfl (Nat.le_of_ble_eq_true rfl) rfl rfl ?_; (conv => whnf); intro w1 hS) | (refine stN_f hS 4 rfl (Nat.le_of_ble_eq_true rfl) rfl rfl ?_; (conv => whnf); intro w1 hS) | (refine stN_f hS 5 rfl (Nat.le_of_ble_eq_true rfl) rfl rfl ?_; (conv => whnf); intro w1 hS) | (refine stN_f hS 6 rfl (Nat.le_of_ble_eq_true rfl) rfl rfl ?_; (conv => whnf); intro w1 hS) | (refine stN_f hS 7 rfl (Nat.le_of_ble_eq_true rfl) rfl rfl ?_; (conv => whnf); intro w1 hS) | (refine stM_f hS 0 rfl (Nat.le_of_ble_eq_true rfl) rfl ?_; (conv => whnf); intro w1 hS) | (refine stM_f hS 1 rfl (Nat.le_of_ble_eq_true rfl) rfl ?_; (conv => whnf); intro w1 hS) | (refine stM_f hS 2 rfl (Nat.le_of_ble_eq_true rfl) rfl ?_; (conv => whnf); intro w1 hS) | (refine stM_f hS 3 rfl (Nat.le_of_ble_eq_true rfl) rfl ?_; (conv => whnf); intro w1 hS) | (refine stM_f hS 4 rfl (Nat.le_of_ble_eq_true rfl) rfl ?_; (conv => whnf); intro w1 hS) | (refine stM_f hS 5 rfl (Nat.le_of_ble_eq_true rfl) rfl ?_; (conv => whnf); intro w1 hS) | (refine stM_f hS 6 rfl (Nat.le_of_ble_eq_true rfl) rfl ?_; (conv => whnf); intro w1 hS) | (refine stM_f hS 7 rfl (Nat.le_of_ble_eq_true rfl) rfl ?_; (conv => whnf); intro w1 hS) | (refine fc_m (hcon _) ?_; rintro v w3 ⟨rfl, hS'⟩; replace hS := hS.call0 hS') | (refine drawf TB_ok rfl (by kernel_rfl) (by kernel_rfl) hS (List.Sublist.refl _) (List.Sublist.refl _) ?_; intro w1 hS) | (refine br_t (by assumption) ?_) | (refine br_f (by assumption) ?_))
    (conv => whnf)
    refine fc_m (w8_c _ _ L6 hW6 xs[i].r hxi.1 (by omega) _ hS.ownF (by rw [List.length_append]; omega)) ?_
    rintro v w9 ⟨L7, hW7, hS'⟩
    replace hS := hS.callW hS'
    repeat ((conv => whnf); first | (apply q_i; focus (intro w1 hS; (conv => whnf); first | exact ⟨rfl, rfl⟩ | ((refine ld_f hS 0 rfl rfl ?_); (conv => whnf); exact ⟨rfl, rfl⟩) | ((refine ld_f hS 1 rfl rfl ?_); (conv => whnf); exact ⟨rfl, rfl⟩) | ((refine ld_f hS 2 rfl rfl ?_); (conv => whnf); exact ⟨rfl, rfl⟩) | ((refine ld_f hS 3 rfl rfl ?_); (conv => whnf); exact ⟨rfl, rfl⟩) | ((refine ld_f hS 4 rfl rfl ?_); (conv => whnf); exact ⟨rfl, rfl⟩) | ((refine ld_f hS 5 rfl rfl ?_); (conv => whnf); exact ⟨rfl, rfl⟩) | ((refine ld_f hS 6 rfl rfl ?_); (conv => whnf); exact ⟨rfl, rfl⟩) | ((refine ld_f hS 7 rfl rfl ?_); (conv => whnf); exact ⟨rfl, rfl⟩) | ((refine ldA_f hS 0 rfl rfl ?_); (conv => whnf); exact ⟨rfl, rfl⟩) | ((refine ldA_f hS 1 rfl rfl ?_); (conv => whnf); exact ⟨rfl, rfl⟩) | ((refine ldA_f hS 2 rfl rfl ?_); (conv => whnf); exact ⟨rfl, rfl⟩) | ((refine ldA_f hS 3 rfl rfl ?_); (conv => whnf); exact ⟨rfl, rfl⟩) | ((refine ldA_f hS 4 rfl rfl ?_); (conv => whnf); exact ⟨rfl, rfl⟩) | ((refine ldA_f hS 5 rfl rfl ?_); (conv => whnf); exact ⟨rfl, rfl⟩) | ((refine ldA_f hS 6 rfl rfl ?_); (conv => whnf); exact ⟨rfl, rfl⟩) | ((refine ldA_f hS 7 rfl rfl ?_); (conv => whnf); exact ⟨rfl, rfl⟩))) | (refine nw_f hS ?_; intro b w1 hS) | (refine as_i hS ?_) | (refine as_i (hS.subs (List.nil_sublist _) (by repeat (first | exact List.Sublist.refl _ | apply List.Sublist.cons_cons | apply List.Sublist.cons))) ?_) | (refine as_i (hS.subs (List.Sublist.refl _) (by repeat (first | exact List.Sublist.refl _ | apply List.Sublist.cons_cons | apply List.Sublist.cons))) ?_) | (refine bar_f hS ?_) | (refine ld_f hS 0 rfl rfl ?_) | (refine ld_f hS 1 rfl rfl ?_) | (refine ld_f hS 2 rfl rfl ?_) | (refine ld_f hS 3 rfl rfl ?_) | (refine ld_f hS 4 rfl rfl ?_) | (refine ld_f hS 5 rfl rfl ?_) | (refine ld_f hS 6 rfl rfl ?_) | (refine ld_f hS 7 rfl rfl ?_) | (refine ldA_f hS 0 rfl rfl ?_) | (refine ldA_f hS 1 rfl rfl ?_) | (refine ldA_f hS 2 rfl rfl ?_) | (refine ldA_f hS 3 rfl rfl ?_) | (refine ldA_f hS 4 rfl rfl ?_) | (refine ldA_f hS 5 rfl rfl ?_) | (refine ldA_f hS 6 rfl rfl ?_) | (refine ldA_f hS 7 rfl rfl ?_) | (refine stN_f hS 0 rfl (Nat.le_of_ble_eq_true rfl) rfl rfl ?_; (conv => whnf); intro w1 hS) | (refine stN_f hS 1 rfl (Nat.le_of_ble_eq_true rfl) rfl rfl ?_; (conv => whnf); intro w1 hS) | (refine stN_f hS 2 rfl (Nat.le_of_ble_eq_true rfl) rfl rfl ?_; (conv => whnf); intro w1 hS) | (refine stN_f hS 3 rfl (Nat.le_of_ble_eq_true rfl) rfl rfl ?_; (conv => whnf); intro w1 hS) | (refine stN_f hS 4 rfl (Nat.le_of_ble_eq_true rfl) rfl rfl ?_; (conv => whnf); intro w1 hS) | (refine stN_f hS 5 rfl (Nat.le_of_ble_eq_true rfl) rfl rfl ?_; (conv => whnf); intro w1 hS) | (refine stN_f hS 6 rfl (Nat.le_of_ble_eq_true rfl) rfl rfl ?_; (conv => whnf); intro w1 hS) | (refine stN_f hS 7 rfl (Nat.le_of_ble_eq_true rfl) rfl rfl ?_; (conv => whnf); intro w1 hS) | (refine stM_f hS 0 rfl (Nat.le_of_ble_eq_true rfl) rfl ?_; (conv => whnf); intro w1 hS) | (refine stM_f hS 1 rfl (Nat.le_of_ble_eq_true rfl) rfl ?_; (conv => whnf); intro w1 hS) | (refine stM_f hS 2 rfl (Nat.le_of_ble_eq_true rfl) rfl ?_; (conv => whnf); intro w1 hS) | (refine stM_f hS 3 rfl (Nat.le_of_ble_eq_true rfl) rfl ?_; (conv => whnf); intro w1 hS) | (refine stM_f hS 4 rfl (Nat.le_of_ble_eq_true rfl) rfl ?_; (conv => whnf); intro w1 hS) | (refine stM_f hS 5 rfl (Nat.le_of_ble_eq_true rfl) rfl ?_; (conv => whnf); intro w1 hS) | (refine stM_f hS 6 rfl (Nat.le_of_ble_eq_true rfl) rfl ?_; (conv => whnf); intro w1 hS) | (refine stM_f hS 7 rfl (Nat.le_of_ble_eq_true rfl) rfl ?_; (conv => whnf); intro w1 hS) | (refine drawf TB_ok rfl (by kernel_rfl) (by kernel_rfl) hS (List.Sublist.refl _) (List.Sublist.refl _) ?_; intro w1 hS) | (refine br_t (by assumption) ?_) | (refine br_f (by assumption) ?_))
    (conv => whnf)
    refine fc_m (w16u_c _ _ L7 hW7 xs[i].n hxi.2.2.1 (by omega) _ hS.ownF (by simp only [List.length_append, be_len]; omega)) ?_
    rintro v w10 ⟨L8, hW8, hS'⟩
    replace hS := hS.callW hS'
    repeat ((conv => whnf); first | (apply q_i; focus (intro w1 hS; (conv => whnf); first | exact ⟨rfl, rfl⟩ | ((refine ld_f hS 0 rfl rfl ?_); (conv => whnf); exact ⟨rfl, rfl⟩) | ((refine ld_f hS 1 rfl rfl ?_); (conv => whnf); exact ⟨rfl, rfl⟩) | ((refine ld_f hS 2 rfl rfl ?_); (conv => whnf); exact ⟨rfl, rfl⟩) | ((refine ld_f hS 3 rfl rfl ?_); (conv => whnf); exact ⟨rfl, rfl⟩) | ((refine ld_f hS 4 rfl rfl ?_); (conv => whnf); exact ⟨rfl, rfl⟩) | ((refine ld_f hS 5 rfl rfl ?_); (conv => whnf); exact ⟨rfl, rfl⟩) | ((refine ld_f hS 6 rfl rfl ?_); (conv => whnf); exact ⟨rfl, rfl⟩) | ((refine ld_f hS 7 rfl rfl ?_); (conv => whnf); exact ⟨rfl, rfl⟩) | ((refine ldA_f hS 0 rfl rfl ?_); (conv => whnf); exact ⟨rfl, rfl⟩) | ((refine ldA_f hS 1 rfl rfl ?_); (conv => whnf); exact ⟨rfl, rfl⟩) | ((refine ldA_f hS 2 rfl rfl ?_); (conv => whnf); exact ⟨rfl, rfl⟩) | ((refine ldA_f hS 3 rfl rfl ?_); (conv => whnf); exact ⟨rfl, rfl⟩) | ((refine ldA_f hS 4 rfl rfl ?_); (conv => whnf); exact ⟨rfl, rfl⟩) | ((refine ldA_f hS 5 rfl rfl ?_); (conv => whnf); exact ⟨rfl, rfl⟩) | ((refine ldA_f hS 6 rfl rfl ?_); (conv => whnf); exact ⟨rfl, rfl⟩) | ((refine ldA_f hS 7 rfl rfl ?_); (conv => whnf); exact ⟨rfl, rfl⟩))) | (refine nw_f hS ?_; intro b w1 hS) | (refine as_i hS ?_) | (refine as_i (hS.subs (List.nil_sublist _) (by repeat (first | exact List.Sublist.refl _ | apply List.Sublist.cons_cons | apply List.Sublist.cons))) ?_) | (refine as_i (hS.subs (List.Sublist.refl _) (by repeat (first | exact List.Sublist.refl _ | apply List.Sublist.cons_cons | apply List.Sublist.cons))) ?_) | (refine bar_f hS ?_) | (refine ld_f hS 0 rfl rfl ?_) | (refine ld_f hS 1 rfl rfl ?_) | (refine ld_f hS 2 rfl rfl ?_) | (refine ld_f hS 3 rfl rfl ?_) | (refine ld_f hS 4 rfl rfl ?_) | (refine ld_f hS 5 rfl rfl ?_) | (refine ld_f hS 6 rfl rfl ?_) | (refine ld_f hS 7 rfl rfl ?_) | (refine ldA_f hS 0 rfl rfl ?_) | (refine ldA_f hS 1 rfl rfl ?_) | (refine ldA_f hS 2 rfl rfl ?_) | (refine ldA_f hS 3 rfl rfl ?_) | (refine ldA_f hS 4 rfl rfl ?_) | (refine ldA_f hS 5 rfl rfl ?_) | (refine ldA_f hS 6 rfl rfl ?_) | (refine ldA_f hS 7 rfl rfl ?_) | (refine stN_f hS 0 rfl (Nat.le_of_ble_eq_true rfl) rfl rfl ?_; (conv => whnf); intro w1 hS) | (refine stN_f hS 1 rfl (Nat.le_of_ble_eq_true rfl) rfl rfl ?_; (conv => whnf); intro w1 hS) | (refine stN_f hS 2 rfl (Nat.le_of_ble_eq_true rfl) rfl rfl ?_; (conv => whnf); intro w1 hS) | (refine stN_f hS 3 rfl (Nat.le_of_ble_eq_true rfl) rfl rfl ?_; (conv => whnf); intro w1 hS) | (refine stN_f hS 4 rfl (Nat.le_of_ble_eq_true rfl) rfl rfl ?_; (conv => whnf); intro w1 hS) | (refine stN_f hS 5 rfl (Nat.le_of_ble_eq_true rfl) rfl rfl ?_; (conv => whnf); intro w1 hS) | (refine stN_f hS 6 rfl (Nat.le_of_ble_eq_true rfl) rfl rfl ?_; (conv => whnf); intro w1 hS) | (refine stN_f hS 7 rfl (Nat.le_of_ble_eq_true rfl) rfl rfl ?_; (conv => whnf); intro w1 hS) | (refine stM_f hS 0 rfl (Nat.le_of_ble_eq_true rfl) rfl ?_; (conv => whnf); intro w1 hS) | (refine stM_f hS 1 rfl (Nat.le_of_ble_eq_true rfl) rfl ?_; (conv => whnf); intro w1 hS) | (refine stM_f hS 2 rfl (Nat.le_of_ble_eq_true rfl) rfl ?_; (conv => whnf); intro w1 hS) | (refine stM_f hS 3 rfl (Nat.le_of_ble_eq_true rfl) rfl ?_; (conv => whnf); intro w1 hS) | (refine stM_f hS 4 rfl (Nat.le_of_ble_eq_true rfl) rfl ?_; (conv => whnf); intro w1 hS) | (refine stM_f hS 5 rfl (Nat.le_of_ble_eq_true rfl) rfl ?_; (conv => whnf); intro w1 hS) | (refine stM_f hS 6 rfl (Nat.le_of_ble_eq_true rfl) rfl ?_; (conv => whnf); intro w1 hS) | (refine stM_f hS 7 rfl (Nat.le_of_ble_eq_true rfl) rfl ?_; (conv => whnf); intro w1 hS) | (refine drawf TB_ok rfl (by kernel_rfl) (by kernel_rfl) hS (List.Sublist.refl _) (List.Sublist.refl _) ?_; intro w1 hS) | (refine br_t (by assumption) ?_) | (refine br_f (by assumption) ?_))
    (conv => whnf)
    refine fc_m (raw_c _ _ (conT xs[i].d xs[i].v) L8 hW8 _ hS.ownF (by unfold sibT at hcl2; simp only [List.length_append, be_len] at hcl2 ⊢; omega)) ?_
    rintro v w11 ⟨L9, hW9, hS'⟩
    replace hS := hS.callW hS'
    repeat ((conv => whnf); first | (apply q_i; focus (intro w1 hS; (conv => whnf); first | exact ⟨rfl, rfl⟩ | ((refine ld_f hS 0 rfl rfl ?_); (conv => whnf); exact ⟨rfl, rfl⟩) | ((refine ld_f hS 1 rfl rfl ?_); (conv => whnf); exact ⟨rfl, rfl⟩) | ((refine ld_f hS 2 rfl rfl ?_); (conv => whnf); exact ⟨rfl, rfl⟩) | ((refine ld_f hS 3 rfl rfl ?_); (conv => whnf); exact ⟨rfl, rfl⟩) | ((refine ld_f hS 4 rfl rfl ?_); (conv => whnf); exact ⟨rfl, rfl⟩) | ((refine ld_f hS 5 rfl rfl ?_); (conv => whnf); exact ⟨rfl, rfl⟩) | ((refine ld_f hS 6 rfl rfl ?_); (conv => whnf); exact ⟨rfl, rfl⟩) | ((refine ld_f hS 7 rfl rfl ?_); (conv => whnf); exact ⟨rfl, rfl⟩) | ((refine ldA_f hS 0 rfl rfl ?_); (conv => whnf); exact ⟨rfl, rfl⟩) | ((refine ldA_f hS 1 rfl rfl ?_); (conv => whnf); exact ⟨rfl, rfl⟩) | ((refine ldA_f hS 2 rfl rfl ?_); (conv => whnf); exact ⟨rfl, rfl⟩) | ((refine ldA_f hS 3 rfl rfl ?_); (conv => whnf); exact ⟨rfl, rfl⟩) | ((refine ldA_f hS 4 rfl rfl ?_); (conv => whnf); exact ⟨rfl, rfl⟩) | ((refine ldA_f hS 5 rfl rfl ?_); (conv => whnf); exact ⟨rfl, rfl⟩) | ((refine ldA_f hS 6 rfl rfl ?_); (conv => whnf); exact ⟨rfl, rfl⟩) | ((refine ldA_f hS 7 rfl rfl ?_); (conv => whnf); exact ⟨rfl, rfl⟩))) | (refine nw_f hS ?_; intro b w1 hS) | (refine as_i hS ?_) | (refine as_i (hS.subs (List.nil_sublist _) (by repeat (first | exact List.Sublist.refl _ | apply List.Sublist.cons_cons | apply List.Sublist.cons))) ?_) | (refine as_i (hS.subs (List.Sublist.refl _) (by repeat (first | exact List.Sublist.refl _ | apply List.Sublist.cons_cons | apply List.Sublist.cons))) ?_) | (refine bar_f hS ?_) | (refine ld_f hS 0 rfl rfl ?_) | (refine ld_f hS 1 rfl rfl ?_) | (refine ld_f hS 2 rfl rfl ?_) | (refine ld_f hS 3 rfl rfl ?_) | (refine ld_f hS 4 rfl rfl ?_) | (refine ld_f hS 5 rfl rfl ?_) | (refine ld_f hS 6 rfl rfl ?_) | (refine ld_f hS 7 rfl rfl ?_) | (refine ldA_f hS 0 rfl rfl ?_) | (refine ldA_f hS 1 rfl rfl ?_) | (refine ldA_f hS 2 rfl rfl ?_) | (refine ldA_f hS 3 rfl rfl ?_) | (refine ldA_f hS 4 rfl rfl ?_) | (refine ldA_f hS 5 rfl rfl ?_) | (refine ldA_f hS 6 rfl rfl ?_) | (refine ldA_f hS 7 rfl rfl ?_) | (refine stN_f hS 0 rfl (Nat.le_of_ble_eq_true rfl) rfl rfl ?_; (conv => whnf); intro w1 hS) | (refine stN_f hS 1 rfl (Nat.le_of_ble_eq_true rfl) rfl rfl ?_; (conv => whnf); intro w1 hS) | (refine stN_f hS 2 rfl (Nat.le_of_ble_eq_true rfl) rfl rfl ?_; (conv => whnf); intro w1 hS) | (refine stN_f hS 3 rfl (Nat.le_of_ble_eq_true rfl) rfl rfl ?_; (conv => whnf); intro w1 hS) | (refine stN_f hS 4 rfl (Nat.le_of_ble_eq_true rfl) rfl rfl ?_; (conv => whnf); intro w1 hS) | (refine stN_f hS 5 rfl (Nat.le_of_ble_eq_true rfl) rfl rfl ?_; (conv => whnf); intro w1 hS) | (refine stN_f hS 6 rfl (Nat.le_of_ble_eq_true rfl) rfl rfl ?_; (conv => whnf); intro w1 hS) | (refine stN_f hS 7 rfl (Nat.le_of_ble_eq_true rfl) rfl rfl ?_; (conv => whnf); intro w1 hS) | (refine stM_f hS 0 rfl (Nat.le_of_ble_eq_true rfl) rfl ?_; (conv => whnf); intro w1 hS) | (refine stM_f hS 1 rfl (Nat.le_of_ble_eq_true rfl) rfl ?_; (conv => whnf); intro w1 hS) | (refine stM_f hS 2 rfl (Nat.le_of_ble_eq_true rfl) rfl ?_; (conv => whnf); intro w1 hS) | (refine stM_f hS 3 rfl (Nat.le_of_ble_eq_true rfl) rfl ?_; (conv => whnf); intro w1 hS) | (refine stM_f hS 4 rfl (Nat.le_of_ble_eq_true rfl) rfl ?_; (conv => whnf); intro w1 hS) | (refine stM_f hS 5 rfl (Nat.le_of_ble_eq_true rfl) rfl ?_; (conv => whnf); intro w1 hS) | (refine stM_f hS 6 rfl (Nat.le_of_ble_eq_true rfl) rfl ?_; (conv => whnf); intro w1 hS) | (refine stM_f hS 7 rfl (Nat.le_of_ble_eq_true rfl) rfl ?_; (conv => whnf); intro w1 hS) | (refine drawf TB_ok rfl (by kernel_rfl) (by kernel_rfl) hS (List.Sublist.refl _) (List.Sublist.refl _) ?_; intro w1 hS) | (refine br_t (by assumption) ?_) | (refine br_f (by assumption) ?_))
    (conv => whnf)
    refine end_f hS 3 rfl ?_
    (conv => whnf)
    intro w12 hS
    repeat ((conv => whnf); first | (apply q_i; focus (intro w1 hS; (conv => whnf); first | exact ⟨rfl, rfl⟩ | ((refine ld_f hS 0 rfl rfl ?_); (conv => whnf); exact ⟨rfl, rfl⟩) | ((refine ld_f hS 1 rfl rfl ?_); (conv => whnf); exact ⟨rfl, rfl⟩) | ((refine ld_f hS 2 rfl rfl ?_); (conv => whnf); exact ⟨rfl, rfl⟩) | ((refine ld_f hS 3 rfl rfl ?_); (conv => whnf); exact ⟨rfl, rfl⟩) | ((refine ld_f hS 4 rfl rfl ?_); (conv => whnf); exact ⟨rfl, rfl⟩) | ((refine ld_f hS 5 rfl rfl ?_); (conv => whnf); exact ⟨rfl, rfl⟩) | ((refine ld_f hS 6 rfl rfl ?_); (conv => whnf); exact ⟨rfl, rfl⟩) | ((refine ld_f hS 7 rfl rfl ?_); (conv => whnf); exact ⟨rfl, rfl⟩) | ((refine ldA_f hS 0 rfl rfl ?_); (conv => whnf); exact ⟨rfl, rfl⟩) | ((refine ldA_f hS 1 rfl rfl ?_); (conv => whnf); exact ⟨rfl, rfl⟩) | ((refine ldA_f hS 2 rfl rfl ?_); (conv => whnf); exact ⟨rfl, rfl⟩) | ((refine ldA_f hS 3 rfl rfl ?_); (conv => whnf); exact ⟨rfl, rfl⟩) | ((refine ldA_f hS 4 rfl rfl ?_); (conv => whnf); exact ⟨rfl, rfl⟩) | ((refine ldA_f hS 5 rfl rfl ?_); (conv => whnf); exact ⟨rfl, rfl⟩) | ((refine ldA_f hS 6 rfl rfl ?_); (conv => whnf); exact ⟨rfl, rfl⟩) | ((refine ldA_f hS 7 rfl rfl ?_); (conv => whnf); exact ⟨rfl, rfl⟩))) | (refine nw_f hS ?_; intro b w1 hS) | (refine as_i hS ?_) | (refine as_i (hS.subs (List.nil_sublist _) (by repeat (first | exact List.Sublist.refl _ | apply List.Sublist.cons_cons | apply List.Sublist.cons))) ?_) | (refine as_i (hS.subs (List.Sublist.refl _) (by repeat (first | exact List.Sublist.refl _ | apply List.Sublist.cons_cons | apply List.Sublist.cons))) ?_) | (refine bar_f hS ?_) | (refine ld_f hS 0 rfl rfl ?_) | (refine ld_f hS 1 rfl rfl ?_) | (refine ld_f hS 2 rfl rfl ?_) | (refine ld_f hS 3 rfl rfl ?_) | (refine ld_f hS 4 rfl rfl ?_) | (refine ld_f hS 5 rfl rfl ?_) | (refine ld_f hS 6 rfl rfl ?_) | (refine ld_f hS 7 rfl rfl ?_) | (refine ldA_f hS 0 rfl rfl ?_) | (refine ldA_f hS 1 rfl rfl ?_) | (refine ldA_f hS 2 rfl rfl ?_) | (refine ldA_f hS 3 rfl rfl ?_) | (refine ldA_f hS 4 rfl rfl ?_) | (refine ldA_f hS 5 rfl rfl ?_) | (refine ldA_f hS 6 rfl rfl ?_) | (refine ldA_f hS 7 rfl rfl ?_) | (refine stN_f hS 0 rfl (Nat.le_of_ble_eq_true rfl) rfl rfl ?_; (conv => whnf); intro w1 hS) | (refine stN_f hS 1 rfl (Nat.le_of_ble_eq_true rfl) rfl rfl ?_; (conv => whnf); intro w1 hS) | (refine stN_f hS 2 rfl (Nat.le_of_ble_eq_true rfl) rfl rfl ?_; (conv => whnf); intro w1 hS) | (refine stN_f hS 3 rfl (Nat.le_of_ble_eq_true rfl) rfl rfl ?_; (conv => whnf); intro w1 hS) | (refine stN_f hS 4 rfl (Nat.le_of_ble_eq_true rfl) rfl rfl ?_; (conv => whnf); intro w1 hS) | (refine stN_f hS 5 rfl (Nat.le_of_ble_eq_true rfl) rfl rfl ?_; (conv => whnf); intro w1 hS) | (refine stN_f hS 6 rfl (Nat.le_of_ble_eq_true rfl) rfl rfl ?_; (conv => whnf); intro w1 hS) | (refine stN_f hS 7 rfl (Nat.le_of_ble_eq_true rfl) rfl rfl ?_; (conv => whnf); intro w1 hS) | (refine stM_f hS 0 rfl (Nat.le_of_ble_eq_true rfl) rfl ?_; (conv => whnf); intro w1 hS) | (refine stM_f hS 1 rfl (Nat.le_of_ble_eq_true rfl) rfl ?_; (conv => whnf); intro w1 hS) | (refine stM_f hS 2 rfl (Nat.le_of_ble_eq_true rfl) rfl ?_; (conv => whnf); intro w1 hS) | (refine stM_f hS 3 rfl (Nat.le_of_ble_eq_true rfl) rfl ?_; (conv => whnf); intro w1 hS) | (refine stM_f hS 4 rfl (Nat.le_of_ble_eq_true rfl) rfl ?_; (conv => whnf); intro w1 hS) | (refine stM_f hS 5 rfl (Nat.le_of_ble_eq_true rfl) rfl ?_; (conv => whnf); intro w1 hS) | (refine stM_f hS 6 rfl (Nat.le_of_ble_eq_true rfl) rfl ?_; (conv => whnf); intro w1 hS) | (refine stM_f hS 7 rfl (Nat.le_of_ble_eq_true rfl) rfl ?_; (conv => whnf); intro w1 hS) | (refine drawf TB_ok rfl (by kernel_rfl) (by kernel_rfl) hS (List.Sublist.refl _) (List.Sublist.refl _) ?_; intro w1 hS) | (refine br_t (by assumption) ?_) | (refine br_f (by assumption) ?_))
    refine ⟨rfl, i + 1, ?_, ⟨by omega, L9, ?_, hS.subs (List.Sublist.refl _) (.cons _ (.cons _ (.cons _ (.refl _))))⟩, by omega⟩
    · rw [wi hlt (by omega)]
      rfl
    · rw [sibsT_snoc xs hlt]
      unfold sibT
      simpa only [List.append_assoc] using hW9
  · have hge : i = xs.length := by have := of_decide_eq_false hb; omega
    subst hge
    rw [List.take_length] at hW6
    have hbl := sibsT_len xs (fun x hx' => (hx x hx').2.2.2.2)
    (conv => whnf)
    refine loopEnd_f hS 0 rfl rfl rfl ?_
    (conv => whnf)
    intro w9 hS
    repeat ((conv => whnf); first | (apply q_i; focus (intro w1 hS; (conv => whnf); first | exact ⟨rfl, rfl⟩ | ((refine ld_f hS 0 rfl rfl ?_); (conv => whnf); exact ⟨rfl, rfl⟩) | ((refine ld_f hS 1 rfl rfl ?_); (conv => whnf); exact ⟨rfl, rfl⟩) | ((refine ld_f hS 2 rfl rfl ?_); (conv => whnf); exact ⟨rfl, rfl⟩) | ((refine ld_f hS 3 rfl rfl ?_); (conv => whnf); exact ⟨rfl, rfl⟩) | ((refine ld_f hS 4 rfl rfl ?_); (conv => whnf); exact ⟨rfl, rfl⟩) | ((refine ld_f hS 5 rfl rfl ?_); (conv => whnf); exact ⟨rfl, rfl⟩) | ((refine ldA_f hS 0 rfl rfl ?_); (conv => whnf); exact ⟨rfl, rfl⟩) | ((refine ldA_f hS 1 rfl rfl ?_); (conv => whnf); exact ⟨rfl, rfl⟩) | ((refine ldA_f hS 2 rfl rfl ?_); (conv => whnf); exact ⟨rfl, rfl⟩) | ((refine ldA_f hS 3 rfl rfl ?_); (conv => whnf); exact ⟨rfl, rfl⟩) | ((refine ldA_f hS 4 rfl rfl ?_); (conv => whnf); exact ⟨rfl, rfl⟩) | ((refine ldA_f hS 5 rfl rfl ?_); (conv => whnf); exact ⟨rfl, rfl⟩))) | (refine nw_f hS ?_; intro b w1 hS) | (refine as_i hS ?_) | (refine as_i (hS.subs (List.nil_sublist _) (by repeat (first | exact List.Sublist.refl _ | apply List.Sublist.cons_cons | apply List.Sublist.cons))) ?_) | (refine as_i (hS.subs (List.Sublist.refl _) (by repeat (first | exact List.Sublist.refl _ | apply List.Sublist.cons_cons | apply List.Sublist.cons))) ?_) | (refine bar_f hS ?_) | (refine ld_f hS 0 rfl rfl ?_) | (refine ld_f hS 1 rfl rfl ?_) | (refine ld_f hS 2 rfl rfl ?_) | (refine ld_f hS 3 rfl rfl ?_) | (refine ld_f hS 4 rfl rfl ?_) | (refine ld_f hS 5 rfl rfl ?_) | (refine ldA_f hS 0 rfl rfl ?_) | (refine ldA_f hS 1 rfl rfl ?_) | (refine ldA_f hS 2 rfl rfl ?_) | (refine ldA_f hS 3 rfl rfl ?_) | (refine ldA_f hS 4 rfl rfl ?_) | (refine ldA_f hS 5 rfl rfl ?_) | (refine stN_f hS 0 rfl (Nat.le_of_ble_eq_true rfl) rfl rfl ?_; (conv => whnf); intro w1 hS) | (refine stN_f hS 1 rfl (Nat.le_of_ble_eq_true rfl) rfl rfl ?_; (conv => whnf); intro w1 hS) | (refine stN_f hS 2 rfl (Nat.le_of_ble_eq_true rfl) rfl rfl ?_; (conv => whnf); intro w1 hS) | (refine stN_f hS 3 rfl (Nat.le_of_ble_eq_true rfl) rfl rfl ?_; (conv => whnf); intro w1 hS) | (refine stN_f hS 4 rfl (Nat.le_of_ble_eq_true rfl) rfl rfl ?_; (conv => whnf); intro w1 hS) | (refine stN_f hS 5 rfl (Nat.le_of_ble_eq_true rfl) rfl rfl ?_; (conv => whnf); intro w1 hS) | (refine stM_f hS 0 rfl (Nat.le_of_ble_eq_true rfl) rfl ?_; (conv => whnf); intro w1 hS) | (refine stM_f hS 1 rfl (Nat.le_of_ble_eq_true rfl) rfl ?_; (conv => whnf); intro w1 hS) | (refine stM_f hS 2 rfl (Nat.le_of_ble_eq_true rfl) rfl ?_; (conv => whnf); intro w1 hS) | (refine stM_f hS 3 rfl (Nat.le_of_ble_eq_true rfl) rfl ?_; (conv => whnf); intro w1 hS) | (refine stM_f hS 4 rfl (Nat.le_of_ble_eq_true rfl) rfl ?_; (conv => whnf); intro w1 hS) | (refine stM_f hS 5 rfl (Nat.le_of_ble_eq_true rfl) rfl ?_; (conv => whnf); intro w1 hS) | (refine drawf TB_ok rfl (by kernel_rfl) (by kernel_rfl) hS (List.Sublist.refl _) (List.Sublist.refl _) ?_; intro w1 hS) | (refine br_t (by assumption) ?_) | (refine br_f (by assumption) ?_))
    (conv => whnf)
    refine fc_m (bytes_c _ _ L6 hW6 _ hS.ownF) ?_
    rintro v w10 ⟨rfl, hS'⟩
    replace hS := hS.call0 hS'
    repeat ((conv => whnf); first | (apply q_i; focus (intro w1 hS; (conv => whnf); first | exact ⟨rfl, rfl⟩ | ((refine ld_f hS 0 rfl rfl ?_); (conv => whnf); exact ⟨rfl, rfl⟩) | ((refine ld_f hS 1 rfl rfl ?_); (conv => whnf); exact ⟨rfl, rfl⟩) | ((refine ld_f hS 2 rfl rfl ?_); (conv => whnf); exact ⟨rfl, rfl⟩) | ((refine ld_f hS 3 rfl rfl ?_); (conv => whnf); exact ⟨rfl, rfl⟩) | ((refine ld_f hS 4 rfl rfl ?_); (conv => whnf); exact ⟨rfl, rfl⟩) | ((refine ld_f hS 5 rfl rfl ?_); (conv => whnf); exact ⟨rfl, rfl⟩) | ((refine ldA_f hS 0 rfl rfl ?_); (conv => whnf); exact ⟨rfl, rfl⟩) | ((refine ldA_f hS 1 rfl rfl ?_); (conv => whnf); exact ⟨rfl, rfl⟩) | ((refine ldA_f hS 2 rfl rfl ?_); (conv => whnf); exact ⟨rfl, rfl⟩) | ((refine ldA_f hS 3 rfl rfl ?_); (conv => whnf); exact ⟨rfl, rfl⟩) | ((refine ldA_f hS 4 rfl rfl ?_); (conv => whnf); exact ⟨rfl, rfl⟩) | ((refine ldA_f hS 5 rfl rfl ?_); (conv => whnf); exact ⟨rfl, rfl⟩))) | (refine nw_f hS ?_; intro b w1 hS) | (refine as_i hS ?_) | (refine as_i (hS.subs (List.nil_sublist _) (by repeat (first | exact List.Sublist.refl _ | apply List.Sublist.cons_cons | apply List.Sublist.cons))) ?_) | (refine as_i (hS.subs (List.Sublist.refl _) (by repeat (first | exact List.Sublist.refl _ | apply List.Sublist.cons_cons | apply List.Sublist.cons))) ?_) | (refine bar_f hS ?_) | (refine ld_f hS 0 rfl rfl ?_) | (refine ld_f hS 1 rfl rfl ?_) | (refine ld_f hS 2 rfl rfl ?_) | (refine ld_f hS 3 rfl rfl ?_) | (refine ld_f hS 4 rfl rfl ?_) | (refine ld_f hS 5 rfl rfl ?_) | (refine ldA_f hS 0 rfl rfl ?_) | (refine ldA_f hS 1 rfl rfl ?_) | (refine ldA_f hS 2 rfl rfl ?_) | (refine ldA_f hS 3 rfl rfl ?_) | (refine ldA_f hS 4 rfl rfl ?_) | (refine ldA_f hS 5 rfl rfl ?_) | (refine stN_f hS 0 rfl (Nat.le_of_ble_eq_true rfl) rfl rfl ?_; (conv => whnf); intro w1 hS) | (refine stN_f hS 1 rfl (Nat.le_of_ble_eq_true rfl) rfl rfl ?_; (conv => whnf); intro w1 hS) | (refine stN_f hS 2 rfl (Nat.le_of_ble_eq_true rfl) rfl rfl ?_; (conv => whnf); intro w1 hS) | (refine stN_f hS 3 rfl (Nat.le_of_ble_eq_true rfl) rfl rfl ?_; (conv => whnf); intro w1 hS) | (refine stN_f hS 4 rfl (Nat.le_of_ble_eq_true rfl) rfl rfl ?_; (conv => whnf); intro w1 hS) | (refine stN_f hS 5 rfl (Nat.le_of_ble_eq_true rfl) rfl rfl ?_; (conv => whnf); intro w1 hS) | (refine stM_f hS 0 rfl (Nat.le_of_ble_eq_true rfl) rfl ?_; (conv => whnf); intro w1 hS) | (refine stM_f hS 1 rfl (Nat.le_of_ble_eq_true rfl) rfl ?_; (conv => whnf); intro w1 hS) | (refine stM_f hS 2 rfl (Nat.le_of_ble_eq_true rfl) rfl ?_; (conv => whnf); intro w1 hS) | (refine stM_f hS 3 rfl (Nat.le_of_ble_eq_true rfl) rfl ?_; (conv => whnf); intro w1 hS) | (refine stM_f hS 4 rfl (Nat.le_of_ble_eq_true rfl) rfl ?_; (conv => whnf); intro w1 hS) | (refine stM_f hS 5 rfl (Nat.le_of_ble_eq_true rfl) rfl ?_; (conv => whnf); intro w1 hS) | (refine drawf TB_ok rfl (by kernel_rfl) (by kernel_rfl) hS (List.Sublist.refl _) (List.Sublist.refl _) ?_; intro w1 hS) | (refine br_t (by assumption) ?_) | (refine br_f (by assumption) ?_))
    (conv => whnf)
    refine take_f hS 1 rfl ?_
    (conv => whnf)
    intro w11 hS
    repeat ((conv => whnf); first | (apply q_i; focus (intro w1 hS; (conv => whnf); first | exact ⟨rfl, rfl⟩ | ((refine ld_f hS 0 rfl rfl ?_); (conv => whnf); exact ⟨rfl, rfl⟩) | ((refine ld_f hS 1 rfl rfl ?_); (conv => whnf); exact ⟨rfl, rfl⟩) | ((refine ld_f hS 2 rfl rfl ?_); (conv => whnf); exact ⟨rfl, rfl⟩) | ((refine ld_f hS 3 rfl rfl ?_); (conv => whnf); exact ⟨rfl, rfl⟩) | ((refine ld_f hS 4 rfl rfl ?_); (conv => whnf); exact ⟨rfl, rfl⟩) | ((refine ld_f hS 5 rfl rfl ?_); (conv => whnf); exact ⟨rfl, rfl⟩) | ((refine ldA_f hS 0 rfl rfl ?_); (conv => whnf); exact ⟨rfl, rfl⟩) | ((refine ldA_f hS 1 rfl rfl ?_); (conv => whnf); exact ⟨rfl, rfl⟩) | ((refine ldA_f hS 2 rfl rfl ?_); (conv => whnf); exact ⟨rfl, rfl⟩) | ((refine ldA_f hS 3 rfl rfl ?_); (conv => whnf); exact ⟨rfl, rfl⟩) | ((refine ldA_f hS 4 rfl rfl ?_); (conv => whnf); exact ⟨rfl, rfl⟩) | ((refine ldA_f hS 5 rfl rfl ?_); (conv => whnf); exact ⟨rfl, rfl⟩))) | (refine nw_f hS ?_; intro b w1 hS) | (refine as_i hS ?_) | (refine as_i (hS.subs (List.nil_sublist _) (by repeat (first | exact List.Sublist.refl _ | apply List.Sublist.cons_cons | apply List.Sublist.cons))) ?_) | (refine as_i (hS.subs (List.Sublist.refl _) (by repeat (first | exact List.Sublist.refl _ | apply List.Sublist.cons_cons | apply List.Sublist.cons))) ?_) | (refine bar_f hS ?_) | (refine ld_f hS 0 rfl rfl ?_) | (refine ld_f hS 1 rfl rfl ?_) | (refine ld_f hS 2 rfl rfl ?_) | (refine ld_f hS 3 rfl rfl ?_) | (refine ld_f hS 4 rfl rfl ?_) | (refine ld_f hS 5 rfl rfl ?_) | (refine ldA_f hS 0 rfl rfl ?_) | (refine ldA_f hS 1 rfl rfl ?_) | (refine ldA_f hS 2 rfl rfl ?_) | (refine ldA_f hS 3 rfl rfl ?_) | (refine ldA_f hS 4 rfl rfl ?_) | (refine ldA_f hS 5 rfl rfl ?_) | (refine stN_f hS 0 rfl (Nat.le_of_ble_eq_true rfl) rfl rfl ?_; (conv => whnf); intro w1 hS) | (refine stN_f hS 1 rfl (Nat.le_of_ble_eq_true rfl) rfl rfl ?_; (conv => whnf); intro w1 hS) | (refine stN_f hS 2 rfl (Nat.le_of_ble_eq_true rfl) rfl rfl ?_; (conv => whnf); intro w1 hS) | (refine stN_f hS 3 rfl (Nat.le_of_ble_eq_true rfl) rfl rfl ?_; (conv => whnf); intro w1 hS) | (refine stN_f hS 4 rfl (Nat.le_of_ble_eq_true rfl) rfl rfl ?_; (conv => whnf); intro w1 hS) | (refine stN_f hS 5 rfl (Nat.le_of_ble_eq_true rfl) rfl rfl ?_; (conv => whnf); intro w1 hS) | (refine stM_f hS 0 rfl (Nat.le_of_ble_eq_true rfl) rfl ?_; (conv => whnf); intro w1 hS) | (refine stM_f hS 1 rfl (Nat.le_of_ble_eq_true rfl) rfl ?_; (conv => whnf); intro w1 hS) | (refine stM_f hS 2 rfl (Nat.le_of_ble_eq_true rfl) rfl ?_; (conv => whnf); intro w1 hS) | (refine stM_f hS 3 rfl (Nat.le_of_ble_eq_true rfl) rfl ?_; (conv => whnf); intro w1 hS) | (refine stM_f hS 4 rfl (Nat.le_of_ble_eq_true rfl) rfl ?_; (conv => whnf); intro w1 hS) | (refine stM_f hS 5 rfl (Nat.le_of_ble_eq_true rfl) rfl ?_; (conv => whnf); intro w1 hS) | (refine drawf TB_ok rfl (by kernel_rfl) (by kernel_rfl) hS (List.Sublist.refl _) (List.Sublist.refl _) ?_; intro w1 hS) | (refine br_t (by assumption) ?_) | (refine br_f (by assumption) ?_))
    refine ⟨?_, hS.nil⟩
    rw [← hpre]
    unfold bodyT
    simp
end Go.RV

/- Contracts of functions of chapter 28: Put, Same. Conditions: none. -/
set_option maxRecDepth 20000
set_option linter.unusedVariables false
set_option linter.unusedSimpArgs false
namespace Go.RV
open Go Go.Proofs Go.RowKit

theorem mtext_c (m : Mx) (ho : okM m) (hm : mayM m = true) (A : Option Addr) (c : Nat) (w : World) (hR : Rd w A (flat encC m.xs)) :
    Fc Tryz.prog 24 [msgV m A c] w fun v w' => v = .string (strY (bodyT m)) ∧ St [] w w' [] := by
  obtain ⟨h1, h2, h3⟩ := mayM_parts hm
  have hp := namedB_len h1
  obtain ⟨hf, hg, hx⟩ := ho
  cases ha : m.a with
  | true =>
    obtain ⟨a1, a2, a3, a4⟩ := h2 ha
    have e : m = ⟨true, m.p, m.f, m.xs, m.g⟩ := by cases m; simp only at ha; subst ha; rfl
    rw [e]
    exact text1_c m.p m.f m.xs m.g (fun j hj => ⟨(hg j hj).1, mayVB_le a1 j hj⟩) hp A c w
  | false =>
    obtain ⟨a1, a2, a3, a4, a5⟩ := h3 ha
    have e : m = ⟨false, m.p, m.f, m.xs, m.g⟩ := by cases m; simp only at ha; subst ha; rfl
    rw [e]
    exact text2_c m.p m.f m.xs m.g (fun j hj => ⟨(hf j hj).1, mayVB_le a1 j hj⟩) hp a2 (fun x h => ⟨(hx x h).1, (hx x h).2.1, (hx x h).2.2.1, (hasB_dot (a3 x h).1).2.2, (a3 x h).2⟩) A c w hR
theorem bodyT_len {m : Mx} (hm : mayM m = true) : (bodyT m).length ≤ 2152 := by
  obtain ⟨h1, h2, h3⟩ := mayM_parts hm
  have hp := namedB_len h1
  unfold bodyT
  have hf := ctxT_len m.f
  have hg := ctxT_len m.g
  cases ha : m.a with
  | true =>
    simp only [if_true, List.length_append, be_len]
    omega
  | false =>
    obtain ⟨a1, a2, a3, a4, a5⟩ := h3 ha
    have := sibsT_len m.xs (fun x hx => (a3 x hx).2)
    simp only [Bool.false_eq_true, if_false, List.length_append, be_len]
    omega
theorem mputM_c (m : Mx) (ho : okM m) (hp : m.p.length ≤ 1073741824) (hl : m.xs.length ≤ 1073741824) (hv : ∀ x ∈ m.xs, x.v.length ≤ 1073741824) (A : Option Addr) (c : Nat) (w : World) (hR : Rd w A (flat encC m.xs)) :
    Fc Tryz.prog 8 [msgV m A c] w fun v w' => v = .tuple #[.string (strY (putM m).1), .int .i64 (putM m).2] ∧ St [] w w' [] := by
  refine fc_i TB_ok Tryz.func8 rfl (by kernel_rfl) ?_
  have hS := Sf.refl w
  have hc := fun w => mcheck_c m ho hp hl hv A c w
  unfold putM
  cases hk : mayM m with
  | true =>
    rw [hk] at hc
    have hb := bodyT_len hk
    repeat ((conv => whnf); first | (apply q_i; focus (intro w1 hS; (conv => whnf); first | exact ⟨rfl, rfl⟩ | ((refine ld_f hS 0 rfl rfl ?_); (conv => whnf); exact ⟨rfl, rfl⟩) | ((refine ldA_f hS 0 rfl rfl ?_); (conv => whnf); exact ⟨rfl, rfl⟩) | ((refine fc_m (hc _ (hR.below hS.nil)) ?_; rintro v w3 ⟨rfl, hS'⟩; replace hS := hS.call0 hS'); (conv => whnf); exact ⟨rfl, rfl⟩) | ((refine fc_m (mtext_c m ho hk A c _ (hR.below hS.nil)) ?_; rintro v w3 ⟨rfl, hS'⟩; replace hS := hS.call0 hS'); (conv => whnf); exact ⟨rfl, rfl⟩) | ((refine fc_m (summed_c (bodyT m) (by omega) _) ?_; rintro v w3 ⟨rfl, hS'⟩; replace hS := hS.call0 hS'); (conv => whnf); exact ⟨rfl, rfl⟩))) | (refine nw_f hS ?_; intro b w1 hS) | (refine as_i hS ?_) | (refine as_i (hS.subs (List.nil_sublist _) (by repeat (first | exact List.Sublist.refl _ | apply List.Sublist.cons_cons | apply List.Sublist.cons))) ?_) | (refine as_i (hS.subs (List.Sublist.refl _) (by repeat (first | exact List.Sublist.refl _ | apply List.Sublist.cons_cons | apply List.Sublist.cons))) ?_) | (refine bar_f hS ?_) | (refine ld_f hS 0 rfl rfl ?_) | (refine ldA_f hS 0 rfl rfl ?_) | (refine stN_f hS 0 rfl (Nat.le_of_ble_eq_true rfl) rfl rfl ?_; (conv => whnf); intro w1 hS) | (refine stM_f hS 0 rfl (Nat.le_of_ble_eq_true rfl) rfl ?_; (conv => whnf); intro w1 hS) | (refine fc_m (hc _ (hR.below hS.nil)) ?_; rintro v w3 ⟨rfl, hS'⟩; replace hS := hS.call0 hS') | (refine fc_m (mtext_c m ho hk A c _ (hR.below hS.nil)) ?_; rintro v w3 ⟨rfl, hS'⟩; replace hS := hS.call0 hS') | (refine fc_m (summed_c (bodyT m) (by omega) _) ?_; rintro v w3 ⟨rfl, hS'⟩; replace hS := hS.call0 hS') | (refine drawf TB_ok rfl (by kernel_rfl) (by kernel_rfl) hS (List.Sublist.refl _) (List.Sublist.refl _) ?_; intro w1 hS) | (refine br_t (by assumption) ?_) | (refine br_f (by assumption) ?_))
    exact ⟨rfl, hS.nil⟩
  | false =>
    rw [hk] at hc
    repeat ((conv => whnf); first | (apply q_i; focus (intro w1 hS; (conv => whnf); first | exact ⟨rfl, rfl⟩ | ((refine ld_f hS 0 rfl rfl ?_); (conv => whnf); exact ⟨rfl, rfl⟩) | ((refine ldA_f hS 0 rfl rfl ?_); (conv => whnf); exact ⟨rfl, rfl⟩) | ((refine fc_m (hc _ (hR.below hS.nil)) ?_; rintro v w3 ⟨rfl, hS'⟩; replace hS := hS.call0 hS'); (conv => whnf); exact ⟨rfl, rfl⟩))) | (refine nw_f hS ?_; intro b w1 hS) | (refine as_i hS ?_) | (refine as_i (hS.subs (List.nil_sublist _) (by repeat (first | exact List.Sublist.refl _ | apply List.Sublist.cons_cons | apply List.Sublist.cons))) ?_) | (refine as_i (hS.subs (List.Sublist.refl _) (by repeat (first | exact List.Sublist.refl _ | apply List.Sublist.cons_cons | apply List.Sublist.cons))) ?_) | (refine bar_f hS ?_) | (refine ld_f hS 0 rfl rfl ?_) | (refine ldA_f hS 0 rfl rfl ?_) | (refine stN_f hS 0 rfl (Nat.le_of_ble_eq_true rfl) rfl rfl ?_; (conv => whnf); intro w1 hS) | (refine stM_f hS 0 rfl (Nat.le_of_ble_eq_true rfl) rfl ?_; (conv => whnf); intro w1 hS) | (refine fc_m (hc _ (hR.below hS.nil)) ?_; rintro v w3 ⟨rfl, hS'⟩; replace hS := hS.call0 hS') | (refine drawf TB_ok rfl (by kernel_rfl) (by kernel_rfl) hS (List.Sublist.refl _) (List.Sublist.refl _) ?_; intro w1 hS) | (refine br_t (by assumption) ?_) | (refine br_f (by assumption) ?_))
    exact ⟨rfl, hS.nil⟩
section
variable {P : Program} {d : Nat} {xs ys us vs : Array Value} {f : Field} {fs : List Field} {r s : Bool} {w : World}
theorem part_agg8 {t sz o : Nat} (hu : (∃ fs, P.underlying t = some (.struct fs)) ∨ ∃ n e, P.underlying t = some (.array n e)) (hz : (sizeOf t).run P w = .ok sz w) : (part t xs o).run P w = .ok (.agg (xs.extract o (o + sz))) w := by
  unfold part
  rw [Sem.run_bind]
  have ha : (isAgg t).run P w = .ok true w := by
    unfold isAgg
    rw [Sem.run_bind]
    rcases hu with ⟨fs, hu⟩ | ⟨n, e, hu⟩ <;> rw [run_underlying hu] <;> rfl
  rw [ha]
  simp only [Result.andThen_ok, if_true, Sem.run_bind, hz]
  rfl
theorem eqF_consS8 (hn : (f.name == "_") = false) (ha : (part f.type xs f.offset).run P w = .ok (.agg us) w) (hb : (part f.type ys f.offset).run P w = .ok (.agg vs) w) (he : (Op.equalIn d f.type (.agg us) (.agg vs)).run P w = .ok r w) (hr : (Op.eqFields d xs ys fs).run P w = .ok s w) : (Op.eqFields d xs ys (f :: fs)).run P w = .ok (r && s) w := by
  have hn' : f.name ≠ "_" := by simpa using hn
  rw [Op.eqFields]
  simp only [if_pos hn', Sem.run_bind, ha, hb, he, Result.andThen_ok]
  cases r
  · simp
  · simpa using hr
end
theorem toList_strY8 (a b : List UInt8) : ((strY a).toList == (strY b).toList) = decide (a = b) := by
  rw [ByteArray.toList_eq, ByteArray.toList_eq]
  show ((⟨a.toArray⟩ : ByteArray).data.toList == (⟨b.toArray⟩ : ByteArray).data.toList) = _
  rw [Bool.eq_iff_iff]
  simp
theorem eqDotIn8 (r n r2 n2 : Int) (w : World) (d : Nat) : (Op.equalIn (d + 2) 54 (.agg #[.int .u8 r, .int .u32 n]) (.agg #[.int .u8 r2, .int .u32 n2])).run Tryz.prog w = .ok (r == r2 && (n == n2 && true)) w := by
  rw [run_equalIn_struct w (d + 1) 54 _ _ fieldsDot (by kernel_rfl)]
  simp only [Program.fieldsOf, Tryz.underlying54]
  exact eqF_cons (d := d) rfl rfl rfl (.int Tryz.underlying5) (eqF_cons rfl rfl rfl (.int Tryz.underlying22) eqF_nil)
theorem fieldsCon : Tryz.prog.underlying 52 = some (.struct (Tryz.prog.fieldsOf 52)) := by
  unfold Program.fieldsOf
  rw [Tryz.underlying52]
theorem eqConIn8 (x : Bool) (s : List UInt8) (y : Bool) (t : List UInt8) (w : World) (d : Nat) : (Op.equalIn (d + 2) 52 (.agg #[.bool x, .string (strY s)]) (.agg #[.bool y, .string (strY t)])).run Tryz.prog w = .ok (x == y && (decide (s = t) && true)) w := by
  rw [run_equalIn_struct w (d + 1) 52 _ _ fieldsCon (by kernel_rfl), ← toList_strY8]
  simp only [Program.fieldsOf, Tryz.underlying52]
  exact eqF_cons (d := d) rfl rfl rfl (.bool Tryz.underlying4) (eqF_cons rfl rfl rfl (.string Tryz.underlying9) eqF_nil)
theorem eqSibF8 (x y : Sc) (w : World) : (Op.eqFields 9999 (encC x).toArray (encC y).toArray (Tryz.prog.fieldsOf 56).toList).run Tryz.prog w = .ok (eqSc x y) w := by
  simp only [Program.fieldsOf, Tryz.underlying56]
  refine eqF_consS8 (us := #[.int .u8 x.r, .int .u32 x.n]) (vs := #[.int .u8 y.r, .int .u32 y.n]) rfl ?_ ?_ (eqDotIn8 _ _ _ _ w 9997) ?_
  · exact part_agg8 (.inl ⟨_, Tryz.underlying54⟩) (Tryz.sizeOf54 w)
  · exact part_agg8 (.inl ⟨_, Tryz.underlying54⟩) (Tryz.sizeOf54 w)
  · refine eqF_consS8 (us := #[.bool x.d, .string (strY x.v)]) (vs := #[.bool y.d, .string (strY y.v)]) rfl ?_ ?_ (eqConIn8 _ _ _ _ w 9997) (eqF_nil (d := 9998))
    · exact part_agg8 (.inl ⟨_, Tryz.underlying52⟩) (Tryz.sizeOf52 w)
    · exact part_agg8 (.inl ⟨_, Tryz.underlying52⟩) (Tryz.sizeOf52 w)
theorem fieldsSib8 : Tryz.prog.underlying 56 = some (.struct (Tryz.prog.fieldsOf 56)) := by
  unfold Program.fieldsOf
  rw [Tryz.underlying56]
theorem neSib8 (x y : Sc) {ox oy : Operand} {w : World} {K : Value → World → Prop} (k : K (.bool (!eqSc x y)) w) :
    SemN Tryz.prog (do eqGuard .neq 56 ox oy (.agg (encC x).toArray) (.agg (encC y).toArray); binOp .neq 56 (.agg (encC x).toArray) (.agg (encC y).toArray)) w K :=
  neS_i (by kernel_rfl) fieldsSib8 (by kernel_rfl) (eqSibF8 x y w) k
theorem eqSc_iff (x y : Sc) : eqSc x y = true ↔ x = y := by
  unfold eqSc
  cases x; cases y
  simp [and_assoc]
theorem eqCs_iff : ∀ xs ys : List Sc, eqCs xs ys = true ↔ xs = ys
  | [], [] => by simp [eqCs]
  | [], y :: ys => by simp [eqCs]
  | x :: xs, [] => by simp [eqCs]
  | x :: xs, y :: ys => by
    have ih := eqCs_iff xs ys
    rw [eqCs, Bool.and_eq_true, ih, eqSc_iff]
    simp
theorem sequalC_c (A : Option Addr) (c : Nat) (xs : List Sc) (B : Option Addr) (d : Nat) (ys : List Sc) (w : World) (hR : Rd w A (flat encC xs)) (hl : xs.length ≤ 4611686018427387904) (hR2 : Rd w B (flat encC ys)) :
    Fc Tryz.prog 34 [.slice A xs.length c, .slice B ys.length d] w fun v w' => v = .bool (eqCs xs ys) ∧ St [] w w' [] := by
  refine fc_i TB_ok Tryz.func34 rfl (by kernel_rfl) ?_
  have hS := Sf.refl w
  have heq := eqCs_iff xs ys
  have hno : ¬ xs = ys → eqCs xs ys = false := fun h => by
    cases hq : eqCs xs ys with
    | false => rfl
    | true => exact absurd (heq.1 hq) h
  by_cases hll : xs.length = ys.length
  · have g0 : ((xs.length : Int) != (ys.length : Int)) = false := by simp [hll]
    repeat ((conv => whnf); first | (apply q_i; focus (intro w1 hS; (conv => whnf); first | exact ⟨rfl, rfl⟩)) | (refine nw_f hS ?_; intro b w1 hS) | (refine as_i hS ?_) | (refine as_i (hS.subs (List.nil_sublist _) (by repeat (first | exact List.Sublist.refl _ | apply List.Sublist.cons_cons | apply List.Sublist.cons))) ?_) | (refine as_i (hS.subs (List.Sublist.refl _) (by repeat (first | exact List.Sublist.refl _ | apply List.Sublist.cons_cons | apply List.Sublist.cons))) ?_) | (refine bar_f hS ?_) | (refine drawf TB_ok rfl (by kernel_rfl) (by kernel_rfl) hS (List.Sublist.refl _) (List.Sublist.refl _) ?_; intro w1 hS) | (refine br_t (by assumption) ?_) | (refine br_f (by assumption) ?_))
    refine loop_i TB_ok (fun i : Nat => [(13, .int .i64 i)]) (fun i w' => i ≤ xs.length ∧ xs.take i = ys.take i ∧ Sf [] w w' [] []) (fun i => xs.length - i) 0 rfl ⟨Nat.zero_le _, by simp, hS⟩ ?_
    rintro i us w2 ⟨hi, hsm, hS⟩
    (conv => whnf)
    refine br_i (fun hb => ?_) (fun hb => ?_)
    · have hlt : i < xs.length := by have := of_decide_eq_true hb; omega
      have hlt2 : i < ys.length := by omega
      obtain ⟨b, off, rfl⟩ := hR.form (flat_ne encC_len (by omega) hlt)
      obtain ⟨b2, off2, rfl⟩ := hR2.form (flat_ne encC_len (by omega) hlt2)
      repeat ((conv => whnf); first | (apply q_i; focus (intro w1 hS; (conv => whnf); first | exact ⟨rfl, rfl⟩ | ((refine .mk ⟨by omega, by omega⟩ ?_; refine ix_i rfl ?_); (conv => whnf); exact ⟨rfl, rfl⟩) | ((refine ldN_el encC_len (hR.below hS.nil).at (i := i) hlt rfl rfl ?_); (conv => whnf); exact ⟨rfl, rfl⟩) | ((refine ldN_el encC_len (hR2.below hS.nil).at (i := i) hlt2 rfl rfl ?_); (conv => whnf); exact ⟨rfl, rfl⟩) | ((refine neSib8 xs[i] ys[i] ?_); (conv => whnf); exact ⟨rfl, rfl⟩))) | (refine nw_f hS ?_; intro b w1 hS) | (refine as_i hS ?_) | (refine as_i (hS.subs (List.nil_sublist _) (by repeat (first | exact List.Sublist.refl _ | apply List.Sublist.cons_cons | apply List.Sublist.cons))) ?_) | (refine as_i (hS.subs (List.Sublist.refl _) (by repeat (first | exact List.Sublist.refl _ | apply List.Sublist.cons_cons | apply List.Sublist.cons))) ?_) | (refine bar_f hS ?_) | (refine .mk ⟨by omega, by omega⟩ ?_; refine ix_i rfl ?_) | (refine ldN_el encC_len (hR.below hS.nil).at (i := i) hlt rfl rfl ?_) | (refine ldN_el encC_len (hR2.below hS.nil).at (i := i) hlt2 rfl rfl ?_) | (refine neSib8 xs[i] ys[i] ?_) | (refine drawf TB_ok rfl (by kernel_rfl) (by kernel_rfl) hS (List.Sublist.refl _) (List.Sublist.refl _) ?_; intro w1 hS) | (refine br_t (by assumption) ?_) | (refine br_f (by assumption) ?_))
      (conv => whnf)
      refine br_i (fun h1 => ?_) (fun h1 => ?_)
      · have hne : ¬ xs = ys := by
          rintro rfl
          rw [(eqSc_iff _ _).2 rfl] at h1
          cases h1
        rw [hno hne]
        repeat ((conv => whnf); first | (apply q_i; focus (intro w1 hS; (conv => whnf); first | exact ⟨rfl, rfl⟩)) | (refine nw_f hS ?_; intro b w1 hS) | (refine as_i hS ?_) | (refine as_i (hS.subs (List.nil_sublist _) (by repeat (first | exact List.Sublist.refl _ | apply List.Sublist.cons_cons | apply List.Sublist.cons))) ?_) | (refine as_i (hS.subs (List.Sublist.refl _) (by repeat (first | exact List.Sublist.refl _ | apply List.Sublist.cons_cons | apply List.Sublist.cons))) ?_) | (refine bar_f hS ?_) | (refine drawf TB_ok rfl (by kernel_rfl) (by kernel_rfl) hS (List.Sublist.refl _) (List.Sublist.refl _) ?_; intro w1 hS) | (refine br_t (by assumption) ?_) | (refine br_f (by assumption) ?_))
        exact ⟨rfl, hS.nil⟩
      · have he : xs[i] = ys[i] := (eqSc_iff _ _).1 (by simpa using h1)
        repeat ((conv => whnf); first | (apply q_i; focus (intro w1 hS; (conv => whnf); first | exact ⟨rfl, rfl⟩)) | (refine nw_f hS ?_; intro b w1 hS) | (refine as_i hS ?_) | (refine as_i (hS.subs (List.nil_sublist _) (by repeat (first | exact List.Sublist.refl _ | apply List.Sublist.cons_cons | apply List.Sublist.cons))) ?_) | (refine as_i (hS.subs (List.Sublist.refl _) (by repeat (first | exact List.Sublist.refl _ | apply List.Sublist.cons_cons | apply List.Sublist.cons))) ?_) | (refine bar_f hS ?_) | (refine drawf TB_ok rfl (by kernel_rfl) (by kernel_rfl) hS (List.Sublist.refl _) (List.Sublist.refl _) ?_; intro w1 hS) | (refine br_t (by assumption) ?_) | (refine br_f (by assumption) ?_))
        refine ⟨rfl, i + 1, ?_, ⟨by omega, ?_, hS⟩, by omega⟩
        · rw [wi hlt (by omega)]
          rfl
        · rw [List.take_succ_eq_append_getElem hlt, List.take_succ_eq_append_getElem hlt2, hsm, he]
    · have hge : i = xs.length := by have := of_decide_eq_false hb; omega
      have he : xs = ys := by
        rw [hge, List.take_length, hll, List.take_length] at hsm
        exact hsm
      rw [heq.2 he]
      repeat ((conv => whnf); first | (apply q_i; focus (intro w1 hS; (conv => whnf); first | exact ⟨rfl, rfl⟩)) | (refine nw_f hS ?_; intro b w1 hS) | (refine as_i hS ?_) | (refine as_i (hS.subs (List.nil_sublist _) (by repeat (first | exact List.Sublist.refl _ | apply List.Sublist.cons_cons | apply List.Sublist.cons))) ?_) | (refine as_i (hS.subs (List.Sublist.refl _) (by repeat (first | exact List.Sublist.refl _ | apply List.Sublist.cons_cons | apply List.Sublist.cons))) ?_) | (refine bar_f hS ?_) | (refine drawf TB_ok rfl (by kernel_rfl) (by kernel_rfl) hS (List.Sublist.refl _) (List.Sublist.refl _) ?_; intro w1 hS) | (refine br_t (by assumption) ?_) | (refine br_f (by assumption) ?_))
      exact ⟨rfl, hS.nil⟩
  · have g0 : ((xs.length : Int) != (ys.length : Int)) = true := by simp; omega
    rw [hno (fun h => hll (by rw [h]))]
    repeat ((conv => whnf); first | (apply q_i; focus (intro w1 hS; (conv => whnf); first | exact ⟨rfl, rfl⟩)) | (refine nw_f hS ?_; intro b w1 hS) | (refine as_i hS ?_) | (refine as_i (hS.subs (List.nil_sublist _) (by repeat (first | exact List.Sublist.refl _ | apply List.Sublist.cons_cons | apply List.Sublist.cons))) ?_) | (refine as_i (hS.subs (List.Sublist.refl _) (by repeat (first | exact List.Sublist.refl _ | apply List.Sublist.cons_cons | apply List.Sublist.cons))) ?_) | (refine bar_f hS ?_) | (refine drawf TB_ok rfl (by kernel_rfl) (by kernel_rfl) hS (List.Sublist.refl _) (List.Sublist.refl _) ?_; intro w1 hS) | (refine br_t (by assumption) ?_) | (refine br_f (by assumption) ?_))
    exact ⟨rfl, hS.nil⟩
set_option maxHeartbeats 4000000 in
theorem msame0_c (a : Bool) (p : List UInt8) (f : Nat → Int) (xs : List Sc) (g : Nat → Int) (a2 : Bool) (p2 : List UInt8) (f2 : Nat → Int) (ys : List Sc) (g2 : Nat → Int) (hl : xs.length ≤ 4611686018427387904) (A : Option Addr) (c : Nat) (B : Option Addr) (d : Nat) (w : World) (hR : Rd w A (flat encC xs)) (hR2 : Rd w B (flat encC ys)) :
    Fc Tryz.prog 13 [msgC a p f A xs.length c g, msgC a2 p2 f2 B ys.length d g2] w fun v w' => v = .bool (sameM ⟨a, p, f, xs, g⟩ ⟨a2, p2, f2, ys, g2⟩) ∧ St [] w w' [] := by
  refine fc_i TB_ok Tryz.func13 rfl (by kernel_rfl) ?_
  have hS := Sf.refl w
  unfold sameM
  simp only
  rw [← streq_strY p p2]
  repeat' ((conv => whnf); first | (refine And.intro ?_ ?_) | (apply q_i; focus (intro w1 hS; (conv => whnf); first | exact ⟨rfl, rfl⟩ | ((refine ld_f hS 0 rfl rfl ?_); (conv => whnf); exact ⟨rfl, rfl⟩) | ((refine ld_f hS 1 rfl rfl ?_); (conv => whnf); exact ⟨rfl, rfl⟩) | ((refine ldA_f hS 0 rfl rfl ?_); (conv => whnf); exact ⟨rfl, rfl⟩) | ((refine ldA_f hS 1 rfl rfl ?_); (conv => whnf); exact ⟨rfl, rfl⟩) | ((refine ldN_f hS 0 rfl (Nat.le_of_ble_eq_true rfl) ?_); (conv => whnf); exact ⟨rfl, rfl⟩) | ((refine ldN_f hS 1 rfl (Nat.le_of_ble_eq_true rfl) ?_); (conv => whnf); exact ⟨rfl, rfl⟩) | ((refine fc_m (sequalC_c A c xs B d ys _ (hR.below hS.nil) hl (hR2.below hS.nil)) ?_; rintro v w3 ⟨rfl, hS'⟩; replace hS := hS.call0 hS'); (conv => whnf); exact ⟨rfl, rfl⟩) | ((refine eqVec g g2 ?_); (conv => whnf); exact ⟨rfl, rfl⟩) | ((refine eqVec f f2 ?_); (conv => whnf); exact ⟨rfl, rfl⟩) | ((refine br_i (fun _ => ?_) (fun _ => ?_)); (conv => whnf); exact ⟨rfl, rfl⟩))) | (refine nw_f hS ?_; intro b w1 hS) | (refine as_i hS ?_) | (refine as_i (hS.subs (List.nil_sublist _) (by repeat (first | exact List.Sublist.refl _ | apply List.Sublist.cons_cons | apply List.Sublist.cons))) ?_) | (refine as_i (hS.subs (List.Sublist.refl _) (by repeat (first | exact List.Sublist.refl _ | apply List.Sublist.cons_cons | apply List.Sublist.cons))) ?_) | (refine bar_f hS ?_) | (refine ld_f hS 0 rfl rfl ?_) | (refine ld_f hS 1 rfl rfl ?_) | (refine ldA_f hS 0 rfl rfl ?_) | (refine ldA_f hS 1 rfl rfl ?_) | (refine stN_f hS 0 rfl (Nat.le_of_ble_eq_true rfl) rfl rfl ?_; (conv => whnf); intro w1 hS) | (refine stN_f hS 1 rfl (Nat.le_of_ble_eq_true rfl) rfl rfl ?_; (conv => whnf); intro w1 hS) | (refine stM_f hS 0 rfl (Nat.le_of_ble_eq_true rfl) rfl ?_; (conv => whnf); intro w1 hS) | (refine stM_f hS 1 rfl (Nat.le_of_ble_eq_true rfl) rfl ?_; (conv => whnf); intro w1 hS) | (refine ldN_f hS 0 rfl (Nat.le_of_ble_eq_true rfl) ?_) | (refine ldN_f hS 1 rfl (Nat.le_of_ble_eq_true rfl) ?_) | (refine fc_m (sequalC_c A c xs B d ys _ (hR.below hS.nil) hl (hR2.below hS.nil)) ?_; rintro v w3 ⟨rfl, hS'⟩; replace hS := hS.call0 hS') | (refine eqVec g g2 ?_) | (refine eqVec f f2 ?_) | (refine br_i (fun _ => ?_) (fun _ => ?_)) | (refine drawf TB_ok rfl (by kernel_rfl) (by kernel_rfl) hS (List.Sublist.refl _) (List.Sublist.refl _) ?_; intro w1 hS) | (refine br_t (by assumption) ?_) | (refine br_f (by assumption) ?_))
  all_goals first
    | exact hS.nil
    | (refine congrArg Value.bool ?_; simp only [*, Bool.not_true, Bool.not_false, Bool.and_true, Bool.true_and, Bool.false_and, Bool.and_false, if_true, if_false, Bool.false_eq_true])
theorem msame_c (m k : Mx) (hl : m.xs.length ≤ 4611686018427387904) (A : Option Addr) (c : Nat) (B : Option Addr) (d : Nat) (w : World) (hR : Rd w A (flat encC m.xs)) (hR2 : Rd w B (flat encC k.xs)) :
    Fc Tryz.prog 13 [msgV m A c, msgV k B d] w fun v w' => v = .bool (sameM m k) ∧ St [] w w' [] :=
  msame0_c m.a m.p m.f m.xs m.g k.a k.p k.f k.xs k.g hl A c B d w hR hR2
end Go.RV

/- Contracts of functions of chapter 28: a message that is read, field by field. Conditions: none. -/
set_option maxRecDepth 20000
set_option linter.unusedVariables false
set_option linter.unusedSimpArgs false
namespace Go.RV
open Go Go.Proofs Go.RowKit

def rgL (br : Nat) (a : Bool) (p : List UInt8) (f : Nat → Int) (A : Option Addr) (l c : Nat) (g : Nat → Int) : List Value := .pointer (some ⟨br, 0, none⟩) :: msgL a p f A l c g
def rgO (br : Nat) (a : Bool) (p : List UInt8) (f : Nat → Int) (A : Option Addr) (l c : Nat) (g : Nat → Int) : Obj := .cells (rgL br a p f A l c g).toArray 77 (0, 0)
theorem rd8_c (b : Nat) (s : RS) (w : World) (hS : St [b] w w [(b, rdO s)]) :
    Fc Tryz.prog 70 [.pointer (some ⟨b, 0, none⟩)] w fun v w' => v = .int .u8 (num1 s) ∧ St [b] w w' [(b, rdO (aft1 s))] := by
  have h := r8_c b s w hS
  have hn := num1_lt s
  rw [show numF 0 (fixedR s 1).1 = num1 s from rfl, wrap_u8 hn.1 hn.2] at h
  exact h
theorem rd16_c (b : Nat) (s : RS) (w : World) (hS : St [b] w w [(b, rdO s)]) :
    Fc Tryz.prog 73 [.pointer (some ⟨b, 0, none⟩)] w fun v w' => v = .int .u16 (numF 0 (fixedR s (2 : Nat)).1) ∧ St [b] w w' [(b, rdO (fixedR s (2 : Nat)).2)] := by
  have h := r16_c b s w hS
  have hn := numF_lt s 2
  rw [show numF 0 (fixedR s 2).1 = numF 0 (fixedR s (2 : Nat)).1 from rfl, wrap_u16_mod, Int.emod_eq_of_lt hn.1 (by simpa using hn.2)] at h
  exact h
theorem kind_c (br bx : Nat) (s : RS) (a : Bool) (p : List UInt8) (f : Nat → Int) (A : Option Addr) (l c : Nat) (g : Nat → Int) (w : World) (hS : St [br, bx] w w [(br, rdO s), (bx, rgO br a p f A l c g)]) :
    Fc Tryz.prog 36 [.pointer (some ⟨bx, 0, none⟩)] w fun v w' => v = .int .i64 (if (aft1 s).e = 0 ∧ num1 s ≠ 1 ∧ num1 s ≠ 2 then 4 else (aft1 s).e) ∧ St [br, bx] w w' [(br, rdO (aft1 s)), (bx, rgO br (num1 s == 2) p f A l c g)] := by
  refine fc_i TB_ok Tryz.func36 rfl (by kernel_rfl) ?_
  have hS : Sf [br, bx] w w ([(br, rdO s)] ++ []) [(bx, .cells (rgL br a p f A l c g).toArray 77 (0, 0))] := ⟨hS⟩
  repeat ((conv => whnf); first | (apply q_i; focus (intro w1 hS; (conv => whnf); first | exact ⟨rfl, rfl⟩ | ((refine ld_f hS 0 rfl rfl ?_); (conv => whnf); exact ⟨rfl, rfl⟩) | ((refine ldA_f hS 0 rfl rfl ?_); (conv => whnf); exact ⟨rfl, rfl⟩))) | (refine nw_f hS ?_; intro b w1 hS) | (refine as_i hS ?_) | (refine as_i (hS.subs (List.nil_sublist _) (by repeat (first | exact List.Sublist.refl _ | apply List.Sublist.cons_cons | apply List.Sublist.cons))) ?_) | (refine as_i (hS.subs (List.Sublist.refl _) (by repeat (first | exact List.Sublist.refl _ | apply List.Sublist.cons_cons | apply List.Sublist.cons))) ?_) | (refine bar_f hS ?_) | (refine ld_f hS 0 rfl rfl ?_) | (refine ldA_f hS 0 rfl rfl ?_) | (refine stN_f hS 0 rfl (Nat.le_of_ble_eq_true rfl) rfl rfl ?_; (conv => whnf); intro w1 hS) | (refine stM_f hS 0 rfl (Nat.le_of_ble_eq_true rfl) rfl ?_; (conv => whnf); intro w1 hS) | (refine drawf TB_ok rfl (by kernel_rfl) (by kernel_rfl) hS (List.Sublist.refl _) (List.Sublist.refl _) ?_; intro w1 hS) | (refine br_t (by assumption) ?_) | (refine br_f (by assumption) ?_))
  refine fc_m (rd8_c br s _ hS.ownF) ?_
  rintro v w1 ⟨rfl, hS'⟩
  replace hS := hS.callW hS'
  generalize aft1 s = s1 at *
  generalize num1 s = n at *
  repeat ((conv => whnf); first | (apply q_i; focus (intro w1 hS; (conv => whnf); first | exact ⟨rfl, rfl⟩ | ((refine ld_f hS 0 rfl rfl ?_); (conv => whnf); exact ⟨rfl, rfl⟩) | ((refine ldA_f hS 0 rfl rfl ?_); (conv => whnf); exact ⟨rfl, rfl⟩))) | (refine nw_f hS ?_; intro b w1 hS) | (refine as_i hS ?_) | (refine as_i (hS.subs (List.nil_sublist _) (by repeat (first | exact List.Sublist.refl _ | apply List.Sublist.cons_cons | apply List.Sublist.cons))) ?_) | (refine as_i (hS.subs (List.Sublist.refl _) (by repeat (first | exact List.Sublist.refl _ | apply List.Sublist.cons_cons | apply List.Sublist.cons))) ?_) | (refine bar_f hS ?_) | (refine ld_f hS 0 rfl rfl ?_) | (refine ldA_f hS 0 rfl rfl ?_) | (refine stN_f hS 0 rfl (Nat.le_of_ble_eq_true rfl) rfl rfl ?_; (conv => whnf); intro w1 hS) | (refine stM_f hS 0 rfl (Nat.le_of_ble_eq_true rfl) rfl ?_; (conv => whnf); intro w1 hS) | (refine drawf TB_ok rfl (by kernel_rfl) (by kernel_rfl) hS (List.Sublist.refl _) (List.Sublist.refl _) ?_; intro w1 hS) | (refine br_t (by assumption) ?_) | (refine br_f (by assumption) ?_))
  refine fc_m (rerr_c br s1 _ hS.ownF) ?_
  rintro v w2 ⟨rfl, hS'⟩
  replace hS := hS.call0 hS'
  have fin : ∀ w', Sf [br, bx] w w' ([(br, rdO s1)] ++ []) [(bx, .cells (rgL br (n == 2) p f A l c g).toArray 77 (0, 0))] → St [br, bx] w w' [(br, rdO s1), (bx, rgO br (n == 2) p f A l c g)] := fun w' h => h.st
  by_cases h0 : s1.e = 0
  · have g0 : (s1.e == 0) = true := by simp [h0]
    by_cases h1 : n = 1
    · have g1 : (n != 1) = false := by simp [h1]
      rw [if_neg (by simp [h1])]
      repeat ((conv => whnf); first | (apply q_i; focus (intro w1 hS; (conv => whnf); first | exact ⟨rfl, rfl⟩ | ((refine ld_f hS 0 rfl rfl ?_); (conv => whnf); exact ⟨rfl, rfl⟩) | ((refine ldA_f hS 0 rfl rfl ?_); (conv => whnf); exact ⟨rfl, rfl⟩) | ((refine fc_m (rerr_c br s1 _ hS.ownF) ?_; rintro v w3 ⟨rfl, hS'⟩; replace hS := hS.call0 hS'); (conv => whnf); exact ⟨rfl, rfl⟩))) | (refine nw_f hS ?_; intro b w1 hS) | (refine as_i hS ?_) | (refine as_i (hS.subs (List.nil_sublist _) (by repeat (first | exact List.Sublist.refl _ | apply List.Sublist.cons_cons | apply List.Sublist.cons))) ?_) | (refine as_i (hS.subs (List.Sublist.refl _) (by repeat (first | exact List.Sublist.refl _ | apply List.Sublist.cons_cons | apply List.Sublist.cons))) ?_) | (refine bar_f hS ?_) | (refine ld_f hS 0 rfl rfl ?_) | (refine ldA_f hS 0 rfl rfl ?_) | (refine stN_f hS 0 rfl (Nat.le_of_ble_eq_true rfl) rfl rfl ?_; (conv => whnf); intro w1 hS) | (refine stM_f hS 0 rfl (Nat.le_of_ble_eq_true rfl) rfl ?_; (conv => whnf); intro w1 hS) | (refine fc_m (rerr_c br s1 _ hS.ownF) ?_; rintro v w3 ⟨rfl, hS'⟩; replace hS := hS.call0 hS') | (refine drawf TB_ok rfl (by kernel_rfl) (by kernel_rfl) hS (List.Sublist.refl _) (List.Sublist.refl _) ?_; intro w1 hS) | (refine br_t (by assumption) ?_) | (refine br_f (by assumption) ?_))
      exact ⟨rfl, fin _ hS⟩
    · have g1 : (n != 1) = true := by simp [h1]
      by_cases h2 : n = 2
      · have g2 : (n != 2) = false := by simp [h2]
        rw [if_neg (by simp [h2])]
        repeat ((conv => whnf); first | (apply q_i; focus (intro w1 hS; (conv => whnf); first | exact ⟨rfl, rfl⟩ | ((refine ld_f hS 0 rfl rfl ?_); (conv => whnf); exact ⟨rfl, rfl⟩) | ((refine ldA_f hS 0 rfl rfl ?_); (conv => whnf); exact ⟨rfl, rfl⟩) | ((refine fc_m (rerr_c br s1 _ hS.ownF) ?_; rintro v w3 ⟨rfl, hS'⟩; replace hS := hS.call0 hS'); (conv => whnf); exact ⟨rfl, rfl⟩))) | (refine nw_f hS ?_; intro b w1 hS) | (refine as_i hS ?_) | (refine as_i (hS.subs (List.nil_sublist _) (by repeat (first | exact List.Sublist.refl _ | apply List.Sublist.cons_cons | apply List.Sublist.cons))) ?_) | (refine as_i (hS.subs (List.Sublist.refl _) (by repeat (first | exact List.Sublist.refl _ | apply List.Sublist.cons_cons | apply List.Sublist.cons))) ?_) | (refine bar_f hS ?_) | (refine ld_f hS 0 rfl rfl ?_) | (refine ldA_f hS 0 rfl rfl ?_) | (refine stN_f hS 0 rfl (Nat.le_of_ble_eq_true rfl) rfl rfl ?_; (conv => whnf); intro w1 hS) | (refine stM_f hS 0 rfl (Nat.le_of_ble_eq_true rfl) rfl ?_; (conv => whnf); intro w1 hS) | (refine fc_m (rerr_c br s1 _ hS.ownF) ?_; rintro v w3 ⟨rfl, hS'⟩; replace hS := hS.call0 hS') | (refine drawf TB_ok rfl (by kernel_rfl) (by kernel_rfl) hS (List.Sublist.refl _) (List.Sublist.refl _) ?_; intro w1 hS) | (refine br_t (by assumption) ?_) | (refine br_f (by assumption) ?_))
        exact ⟨rfl, fin _ hS⟩
      · have g2 : (n != 2) = true := by simp [h2]
        rw [if_pos ⟨h0, h1, h2⟩]
        repeat ((conv => whnf); first | (apply q_i; focus (intro w1 hS; (conv => whnf); first | exact ⟨rfl, rfl⟩ | ((refine ld_f hS 0 rfl rfl ?_); (conv => whnf); exact ⟨rfl, rfl⟩) | ((refine ldA_f hS 0 rfl rfl ?_); (conv => whnf); exact ⟨rfl, rfl⟩))) | (refine nw_f hS ?_; intro b w1 hS) | (refine as_i hS ?_) | (refine as_i (hS.subs (List.nil_sublist _) (by repeat (first | exact List.Sublist.refl _ | apply List.Sublist.cons_cons | apply List.Sublist.cons))) ?_) | (refine as_i (hS.subs (List.Sublist.refl _) (by repeat (first | exact List.Sublist.refl _ | apply List.Sublist.cons_cons | apply List.Sublist.cons))) ?_) | (refine bar_f hS ?_) | (refine ld_f hS 0 rfl rfl ?_) | (refine ldA_f hS 0 rfl rfl ?_) | (refine stN_f hS 0 rfl (Nat.le_of_ble_eq_true rfl) rfl rfl ?_; (conv => whnf); intro w1 hS) | (refine stM_f hS 0 rfl (Nat.le_of_ble_eq_true rfl) rfl ?_; (conv => whnf); intro w1 hS) | (refine drawf TB_ok rfl (by kernel_rfl) (by kernel_rfl) hS (List.Sublist.refl _) (List.Sublist.refl _) ?_; intro w1 hS) | (refine br_t (by assumption) ?_) | (refine br_f (by assumption) ?_))
        exact ⟨rfl, fin _ hS⟩
  · have g0 : (s1.e == 0) = false := by simp [h0]
    rw [if_neg (by simp [h0])]
    repeat ((conv => whnf); first | (apply q_i; focus (intro w1 hS; (conv => whnf); first | exact ⟨rfl, rfl⟩ | ((refine ld_f hS 0 rfl rfl ?_); (conv => whnf); exact ⟨rfl, rfl⟩) | ((refine ldA_f hS 0 rfl rfl ?_); (conv => whnf); exact ⟨rfl, rfl⟩) | ((refine fc_m (rerr_c br s1 _ hS.ownF) ?_; rintro v w3 ⟨rfl, hS'⟩; replace hS := hS.call0 hS'); (conv => whnf); exact ⟨rfl, rfl⟩))) | (refine nw_f hS ?_; intro b w1 hS) | (refine as_i hS ?_) | (refine as_i (hS.subs (List.nil_sublist _) (by repeat (first | exact List.Sublist.refl _ | apply List.Sublist.cons_cons | apply List.Sublist.cons))) ?_) | (refine as_i (hS.subs (List.Sublist.refl _) (by repeat (first | exact List.Sublist.refl _ | apply List.Sublist.cons_cons | apply List.Sublist.cons))) ?_) | (refine bar_f hS ?_) | (refine ld_f hS 0 rfl rfl ?_) | (refine ldA_f hS 0 rfl rfl ?_) | (refine stN_f hS 0 rfl (Nat.le_of_ble_eq_true rfl) rfl rfl ?_; (conv => whnf); intro w1 hS) | (refine stM_f hS 0 rfl (Nat.le_of_ble_eq_true rfl) rfl ?_; (conv => whnf); intro w1 hS) | (refine fc_m (rerr_c br s1 _ hS.ownF) ?_; rintro v w3 ⟨rfl, hS'⟩; replace hS := hS.call0 hS') | (refine drawf TB_ok rfl (by kernel_rfl) (by kernel_rfl) hS (List.Sublist.refl _) (List.Sublist.refl _) ?_; intro w1 hS) | (refine br_t (by assumption) ?_) | (refine br_f (by assumption) ?_))
    exact ⟨rfl, fin _ hS⟩
theorem mpath_c (br bx : Nat) (s : RS) (a : Bool) (p : List UInt8) (f : Nat → Int) (A : Option Addr) (l c : Nat) (g : Nat → Int) (w : World) (hS : St [br, bx] w w [(br, rdO s), (bx, rgO br a p f A l c g)]) :
    Fc Tryz.prog 37 [.pointer (some ⟨bx, 0, none⟩)] w fun v w' => v = .int .i64 (fixedR (aft1 s) (num1 s)).2.e ∧ St [br, bx] w w' [(br, rdO (fixedR (aft1 s) (num1 s)).2), (bx, rgO br a (fixedR (aft1 s) (num1 s)).1 f A l c g)] := by
  refine fc_i TB_ok Tryz.func37 rfl (by kernel_rfl) ?_
  have hS : Sf [br, bx] w w ([(br, rdO s)] ++ []) [(bx, .cells (rgL br a p f A l c g).toArray 77 (0, 0))] := ⟨hS⟩
  repeat ((conv => whnf); first | (apply q_i; focus (intro w1 hS; (conv => whnf); first | exact ⟨rfl, rfl⟩ | ((refine ld_f hS 0 rfl rfl ?_); (conv => whnf); exact ⟨rfl, rfl⟩) | ((refine ldA_f hS 0 rfl rfl ?_); (conv => whnf); exact ⟨rfl, rfl⟩))) | (refine nw_f hS ?_; intro b w1 hS) | (refine as_i hS ?_) | (refine as_i (hS.subs (List.nil_sublist _) (by repeat (first | exact List.Sublist.refl _ | apply List.Sublist.cons_cons | apply List.Sublist.cons))) ?_) | (refine as_i (hS.subs (List.Sublist.refl _) (by repeat (first | exact List.Sublist.refl _ | apply List.Sublist.cons_cons | apply List.Sublist.cons))) ?_) | (refine bar_f hS ?_) | (refine ld_f hS 0 rfl rfl ?_) | (refine ldA_f hS 0 rfl rfl ?_) | (refine stN_f hS 0 rfl (Nat.le_of_ble_eq_true rfl) rfl rfl ?_; (conv => whnf); intro w1 hS) | (refine stM_f hS 0 rfl (Nat.le_of_ble_eq_true rfl) rfl ?_; (conv => whnf); intro w1 hS) | (refine drawf TB_ok rfl (by kernel_rfl) (by kernel_rfl) hS (List.Sublist.refl _) (List.Sublist.refl _) ?_; intro w1 hS) | (refine br_t (by assumption) ?_) | (refine br_f (by assumption) ?_))
  refine fc_m (rd8_c br s _ hS.ownF) ?_
  rintro v w1 ⟨rfl, hS'⟩
  replace hS := hS.callW hS'
  have hn := num1_lt s
  generalize aft1 s = s1 at *
  generalize num1 s = n at *
  have hw : IntKind.i64.wrap n = n := wrap_i64 (by omega) (by omega)
  have hc := rfixed0_c br s1 n
  rw [← hw] at hc
  repeat ((conv => whnf); first | (apply q_i; focus (intro w1 hS; (conv => whnf); first | exact ⟨rfl, rfl⟩ | ((refine ld_f hS 0 rfl rfl ?_); (conv => whnf); exact ⟨rfl, rfl⟩) | ((refine ldA_f hS 0 rfl rfl ?_); (conv => whnf); exact ⟨rfl, rfl⟩))) | (refine nw_f hS ?_; intro b w1 hS) | (refine as_i hS ?_) | (refine as_i (hS.subs (List.nil_sublist _) (by repeat (first | exact List.Sublist.refl _ | apply List.Sublist.cons_cons | apply List.Sublist.cons))) ?_) | (refine as_i (hS.subs (List.Sublist.refl _) (by repeat (first | exact List.Sublist.refl _ | apply List.Sublist.cons_cons | apply List.Sublist.cons))) ?_) | (refine bar_f hS ?_) | (refine ld_f hS 0 rfl rfl ?_) | (refine ldA_f hS 0 rfl rfl ?_) | (refine stN_f hS 0 rfl (Nat.le_of_ble_eq_true rfl) rfl rfl ?_; (conv => whnf); intro w1 hS) | (refine stM_f hS 0 rfl (Nat.le_of_ble_eq_true rfl) rfl ?_; (conv => whnf); intro w1 hS) | (refine drawf TB_ok rfl (by kernel_rfl) (by kernel_rfl) hS (List.Sublist.refl _) (List.Sublist.refl _) ?_; intro w1 hS) | (refine br_t (by assumption) ?_) | (refine br_f (by assumption) ?_))
  (conv => whnf)
  refine fc_m (hc _ hS.ownF) ?_
  rintro v w2 ⟨rfl, hS'⟩
  rw [hw] at hS' ⊢
  replace hS := hS.callW hS'
  generalize fixedR s1 n = z at *
  obtain ⟨y, s2⟩ := z
  simp only at hS ⊢
  repeat ((conv => whnf); first | (apply q_i; focus (intro w1 hS; (conv => whnf); first | exact ⟨rfl, rfl⟩ | ((refine ld_f hS 0 rfl rfl ?_); (conv => whnf); exact ⟨rfl, rfl⟩) | ((refine ldA_f hS 0 rfl rfl ?_); (conv => whnf); exact ⟨rfl, rfl⟩) | ((refine fc_m (rerr_c br s2 _ hS.ownF) ?_; rintro v w3 ⟨rfl, hS'⟩; replace hS := hS.call0 hS'); (conv => whnf); exact ⟨rfl, rfl⟩))) | (refine nw_f hS ?_; intro b w1 hS) | (refine as_i hS ?_) | (refine as_i (hS.subs (List.nil_sublist _) (by repeat (first | exact List.Sublist.refl _ | apply List.Sublist.cons_cons | apply List.Sublist.cons))) ?_) | (refine as_i (hS.subs (List.Sublist.refl _) (by repeat (first | exact List.Sublist.refl _ | apply List.Sublist.cons_cons | apply List.Sublist.cons))) ?_) | (refine bar_f hS ?_) | (refine ld_f hS 0 rfl rfl ?_) | (refine ldA_f hS 0 rfl rfl ?_) | (refine stN_f hS 0 rfl (Nat.le_of_ble_eq_true rfl) rfl rfl ?_; (conv => whnf); intro w1 hS) | (refine stM_f hS 0 rfl (Nat.le_of_ble_eq_true rfl) rfl ?_; (conv => whnf); intro w1 hS) | (refine fc_m (rerr_c br s2 _ hS.ownF) ?_; rintro v w3 ⟨rfl, hS'⟩; replace hS := hS.call0 hS') | (refine drawf TB_ok rfl (by kernel_rfl) (by kernel_rfl) hS (List.Sublist.refl _) (List.Sublist.refl _) ?_; intro w1 hS) | (refine br_t (by assumption) ?_) | (refine br_f (by assumption) ?_))
  exact ⟨rfl, hS.st⟩
end Go.RV
