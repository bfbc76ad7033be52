/- Plain laws of chapter 28: errors stick; what is written is read. Conditions: none. -/
import Derived.Test.YtnhlpmnehdackaaMa1
set_option maxRecDepth 20000
set_option linter.unusedVariables false
set_option linter.unusedSimpArgs false
namespace Go.RV
open Go Go.Proofs

theorem tk2_err {s : RS} (k : Nat) : tk2 0 s k = (s, zeroF) := by
  induction k with
  | zero => rfl
  | succ k ih =>
    have hb : bitB 0 k = false := by
      unfold bitB
      rw [Int.zero_ediv]
      rfl
    rw [tk2, hb, if_neg (by decide), ih]
section
variable {s : RS} (h : s.e ≠ 0)
include h
theorem aft1_err : aft1 s = s := by unfold aft1; rw [fixedR_err h]
theorem num1_err : num1 s = 0 := by unfold num1; rw [fixedR_err h]; rfl
theorem ctxR_err : ctxR s = (s, zeroF) := by unfold ctxR; rw [num1_err h, aft1_err h, tk2_err]
theorem sibsR_err (k : Nat) : sibsR s k = (s, []) := by
  induction k with
  | zero => rfl
  | succ k ih => rw [sibsR, ih, if_pos h]
theorem pathR_err : pathR s = ([], s) := by unfold pathR; rw [aft1_err h, aft1_err h, fixedR_err h]
end
theorem readA_path {s : RS} (h : (pathR s).2.e ≠ 0) : (readA s).1 = (pathR s).2 := by unfold readA; rw [ctxR_err h]
theorem readE_ctx {s : RS} (h : (ctxR (pathR s).2).1.e ≠ 0) : (readE s).1 = (ctxR (pathR s).2).1 := by
  unfold readE entR
  rw [aft1_err h, sibsR_err h]
theorem readE_path {s : RS} (h : (pathR s).2.e ≠ 0) : (readE s).1 = (pathR s).2 := by
  have h2 : (ctxR (pathR s).2).1 = (pathR s).2 := by rw [ctxR_err h]
  rw [readE_ctx (by rw [h2]; exact h), h2]
theorem readS_path {s : RS} (h : (pathR s).2.e ≠ 0) : (readS s).1 = (pathR s).2 := by
  unfold readS
  split
  · exact readA_path h
  · exact readE_path h
theorem pathR_kind {s : RS} (h : (aft1 s).e ≠ 0) : (pathR s).2 = aft1 s := by
  unfold pathR
  rw [aft1_err h, fixedR_err h]
theorem num1_kind {s : RS} (h : (aft1 s).e ≠ 0) : num1 s = 0 := by
  unfold aft1 at h
  unfold num1
  rw [fixedR_e h]
  rfl

/-- the types' bounds -/
structure okM (m : Mx) : Prop where
  f : ∀ j, j < 8 → 0 ≤ m.f j ∧ m.f j ≤ 4294967295
  g : ∀ j, j < 8 → 0 ≤ m.g j ∧ m.g j ≤ 4294967295
  x : ∀ x ∈ m.xs, 0 ≤ x.r ∧ x.r ≤ 255 ∧ 0 ≤ x.n ∧ x.n ≤ 4294967295
theorem num1_lt (s : RS) : 0 ≤ num1 s ∧ num1 s < 256 := by
  have := numF_lt s 1
  unfold num1
  constructor
  · exact this.1
  · have := this.2; simpa using this
theorem tk2_bound (b : Int) (s : RS) : ∀ i j, 0 ≤ (tk2 b s i).2 j ∧ (tk2 b s i).2 j ≤ 65535
  | 0, j => by show 0 ≤ (0 : Int) ∧ (0 : Int) ≤ _; decide
  | i+1, j => by
    have ih := tk2_bound b s i j
    rw [tk2]
    split
    · simp only [upd]
      split
      · have := numF_lt (tk2 b s i).1 2
        simp only [show (256 : Int) ^ 2 = 65536 from by decide] at this
        omega
      · exact ih
    · exact ih
theorem sibsR_in (s : RS) : ∀ k, ∀ x ∈ (sibsR s k).2, 0 ≤ x.r ∧ x.r ≤ 255 ∧ 0 ≤ x.n ∧ x.n ≤ 65535 ∧ x.v.length ≤ 256
  | 0, x, hx => by simp [sibsR] at hx
  | k+1, x, hx => by
    have ih := sibsR_in s k x
    rw [sibsR] at hx
    split at hx
    · exact ih hx
    · simp only at hx
      split at hx
      · exact ih hx
      · rcases List.mem_append.1 hx with hx | hx
        · exact ih hx
        · obtain rfl := List.mem_singleton.1 hx
          have h1 := num1_lt (sibsR s k).1
          have h2 := numF_lt (aft1 (sibsR s k).1) 2
          simp only [show (256 : Int) ^ 2 = 65536 from by decide] at h2
          refine ⟨h1.1, ?_, h2.1, ?_, takeC_len _⟩
          · have := h1.2; simp only [sib1]; omega
          · have := h2.2; simp only [sib1]; omega
theorem zeroF_ok : ∀ j, j < 8 → 0 ≤ zeroF j ∧ zeroF j ≤ 4294967295 := fun j _ => by show 0 ≤ (0 : Int) ∧ (0 : Int) ≤ _; decide
theorem readS_ok (s : RS) : okM (readS s).2 := by
  unfold readS
  split
  · refine ⟨zeroF_ok, fun j _ => ?_, fun x hx => by cases hx⟩
    have := tk2_bound (num1 (pathR s).2) (aft1 (pathR s).2) 8 j
    simp only [readA, ctxR]; omega
  · refine ⟨fun j _ => ?_, zeroF_ok, fun x hx => ?_⟩
    · have := tk2_bound (num1 (pathR s).2) (aft1 (pathR s).2) 8 j
      simp only [readE, ctxR]; omega
    · have := sibsR_in _ _ x hx
      omega
theorem takeM_ok (s : List UInt8) : okM (takeM s).1 := by
  have hz : okM zeroM := ⟨zeroF_ok, zeroF_ok, fun x hx => by cases hx⟩
  unfold takeM readM finM
  repeat' split
  all_goals first | exact hz | exact readS_ok _

/-- what is read of a message's text -/
def normM (m : Mx) : Mx := if m.a then ⟨true, m.p, zeroF, [], fun j => if j < 8 then m.g j else 0⟩ else ⟨false, m.p, fun j => if j < 8 then m.f j else 0, m.xs, zeroF⟩
def x2 (f : Nat → Int) (i : Nat) : List UInt8 := if 0 < f i then be (f i) 2 else []
theorem num2_x (f : Nat → Int) (k : Nat) : num2 f (k + 1) = num2 f k ++ x2 f k := by
  show (if 0 < f k then num2 f k ++ be (f k) 2 else num2 f k) = _
  unfold x2
  split <;> simp
def k2 (f : Nat → Int) (rest : List UInt8) : Nat → List UInt8
  | 0 => rest
  | k+1 => x2 f (7 - k) ++ k2 f rest k
theorem num_k2 (f : Nat → Int) (rest : List UInt8) : ∀ i, i ≤ 8 → num2 f i ++ k2 f rest (8 - i) = k2 f rest 8
  | 0, _ => by simp [num2]
  | i+1, h => by
    have ih := num_k2 f rest i (by omega)
    rw [← ih, num2_x, show 8 - i = (8 - (i + 1)) + 1 from by omega, k2, show 7 - (8 - (i + 1)) = i from by omega, List.append_assoc]
theorem tk2_back (f : Nat → Int) (hf : ∀ j, j < 8 → 0 ≤ f j ∧ f j ≤ 65535) (rest : List UInt8) : ∀ i, i ≤ 8 → tk2 (bitsN f 8) ⟨k2 f rest 8, 0⟩ i = (⟨k2 f rest (8 - i), 0⟩, fun j => if j < i then f j else 0)
  | 0, _ => by
    show (_, _) = (_, _)
    congr 2
  | i+1, h => by
    have ih := tk2_back f hf rest i (by omega)
    have hfi := hf i (by omega)
    rw [tk2, ih, bitsN_bit f 8 i (by omega)]
    simp only
    rw [show 8 - i = (8 - (i + 1)) + 1 from by omega, k2, show 7 - (8 - (i + 1)) = i from by omega]
    have hu : ∀ x, x = f i → upd (fun j => if j < i then f j else 0) i x = fun j => if j < i + 1 then f j else 0 := fun x hx => updJ (h := f) (f := fun _ => 0) hx
    by_cases hp : 0 < f i
    · rw [x2, if_pos hp, fixedR_all (by rw [be_len])]
      simp only [hp, decide_true, if_true]
      rw [hu _ (by rw [numF_be2 hfi.1]; omega)]
    · have h0 : f i = 0 := by omega
      rw [x2, if_neg hp]
      simp only [hp, decide_false, Bool.false_eq_true, if_false, List.nil_append]
      rw [← hu 0 h0.symm]
      congr 1
      funext j
      unfold upd
      by_cases e : j = i
      · subst e; simp
      · simp [e]
theorem first1 {n : Int} (h0 : 0 ≤ n) (h1 : n < 256) (rest : List UInt8) : num1 ⟨be n 1 ++ rest, 0⟩ = n ∧ aft1 ⟨be n 1 ++ rest, 0⟩ = ⟨rest, 0⟩ := by
  unfold num1 aft1
  rw [fixedR_all (by rw [be_len])]
  refine ⟨?_, rfl⟩
  rw [numF_be1 h0]
  omega
theorem ctx_back (f : Nat → Int) (hf : ∀ j, j < 8 → 0 ≤ f j ∧ f j ≤ 65535) (rest : List UInt8) : ctxR ⟨ctxT f ++ rest, 0⟩ = (⟨rest, 0⟩, fun j => if j < 8 then f j else 0) := by
  have hb := bitsN_lt f 8
  obtain ⟨h1, h2⟩ := first1 hb.1 hb.2 (num2 f 8 ++ rest)
  unfold ctxR ctxT
  rw [List.append_assoc, h1, h2, show num2 f 8 ++ rest = k2 f rest 8 from num_k2 f rest 8 (Nat.le_refl _), tk2_back f hf rest 8 (Nat.le_refl _)]
  rfl
theorem sib_back (x : Sc) (hr : 0 ≤ x.r ∧ x.r ≤ 255) (hn : 0 ≤ x.n ∧ x.n ≤ 65535) (hok : okCB x.d x.v = true) (rest : List UInt8) : sib1 ⟨sibT x ++ rest, 0⟩ = (⟨rest, 0⟩, x) := by
  obtain ⟨h1, h2⟩ := first1 hr.1 (by omega) (be x.n 2 ++ (conT x.d x.v ++ rest))
  have e : sibT x ++ rest = be x.r 1 ++ (be x.n 2 ++ (conT x.d x.v ++ rest)) := by simp [sibT]
  rw [← e] at h1 h2
  have h3 : fixedR ⟨be x.n 2 ++ (conT x.d x.v ++ rest), 0⟩ (2 : Nat) = (be x.n 2, ⟨conT x.d x.v ++ rest, 0⟩) := fixedR_all (by rw [be_len])
  obtain ⟨c1, c2⟩ := con_back x.d x.v hok rest
  unfold sib1 dotR
  rw [h1, h2, h3]
  simp only
  rw [c1, c2, numF_be2 hn.1, show x.n % 65536 = x.n from by omega]
  simp
theorem sibs_back (xs : List Sc) (hx : ∀ x ∈ xs, (0 ≤ x.r ∧ x.r ≤ 255) ∧ (0 ≤ x.n ∧ x.n ≤ 65535) ∧ okCB x.d x.v = true) (rest : List UInt8) : ∀ k, k ≤ xs.length → sibsR ⟨sibsT xs ++ rest, 0⟩ k = (⟨sibsT (xs.drop k) ++ rest, 0⟩, xs.take k)
  | 0, _ => by simp [sibsR]
  | k+1, h => by
    have ih := sibs_back xs hx rest k (by omega)
    have hk : k < xs.length := by omega
    obtain ⟨a1, a2, a3⟩ := hx xs[k] (List.getElem_mem hk)
    have ed : xs.drop k = xs[k] :: xs.drop (k+1) := (List.getElem_cons_drop hk).symm
    have e1 : sib1 ⟨sibsT (xs.drop k) ++ rest, 0⟩ = (⟨sibsT (xs.drop (k+1)) ++ rest, 0⟩, xs[k]) := by
      rw [ed, show sibsT (xs[k] :: xs.drop (k+1)) = sibT xs[k] ++ sibsT (xs.drop (k+1)) from rfl, List.append_assoc]
      exact sib_back xs[k] a1 a2 a3 _
    rw [sibsR, ih]
    simp only [e1]
    rw [List.take_succ_eq_append_getElem hk]
    simp
theorem mayVB_le {f : Nat → Int} (h : mayVB f = true) : ∀ j, j < 8 → f j ≤ 65535 := by
  intro j hj
  unfold mayVB at h
  have := anyJ_false.1 (by simpa using h) j hj
  have := of_decide_eq_false this
  omega
theorem hasB_dot {f : Nat → Int} {r n : Int} (h : hasB f r n = true) : r < 8 ∧ 1 ≤ n ∧ n ≤ 65535 := by
  unfold hasB mayDotB at h
  simp only [Bool.and_eq_true, decide_eq_true_eq] at h
  omega
theorem checkC_parts {f : Nat → Int} {xs : List Sc} (h : checkC f xs = true) : mayVB f = true ∧ xs.length ≤ 8 ∧ ∀ x ∈ xs, hasB f x.r x.n = true := by
  unfold checkC at h
  simp only [Bool.and_eq_true, decide_eq_true_eq, List.all_eq_true] at h
  exact ⟨h.1, h.2.1, h.2.2.1⟩
theorem mayM_parts {m : Mx} (h : mayM m = true) : namedB m.p = true ∧ (m.a = true → mayVB m.g = true ∧ veq m.g zeroF = false ∧ veq m.f zeroF = true ∧ m.xs = []) ∧
    (m.a = false → mayVB m.f = true ∧ m.xs.length ≤ 8 ∧ (∀ x ∈ m.xs, hasB m.f x.r x.n = true ∧ okCB x.d x.v = true) ∧ veq m.f zeroF = false ∧ veq m.g zeroF = true) := by
  unfold mayM at h
  rw [Bool.and_eq_true] at h
  refine ⟨h.1, fun ha => ?_, fun ha => ?_⟩
  · rw [if_pos ha] at h
    simp only [Bool.and_eq_true, Bool.not_eq_true', List.isEmpty_iff] at h
    exact ⟨h.2.1, h.2.2.1, h.2.2.2.1, h.2.2.2.2⟩
  · rw [if_neg (by rw [ha]; decide)] at h
    simp only [Bool.and_eq_true, Bool.not_eq_true', List.all_eq_true] at h
    obtain ⟨c1, c2, c3⟩ := checkC_parts h.2.1
    exact ⟨c1, c2, fun x hx => ⟨c3 x hx, h.2.2.1 x hx⟩, h.2.2.2.1, h.2.2.2.2⟩
theorem namedB_len {p : List UInt8} (h : namedB p = true) : p.length ≤ 36 := by
  unfold namedB at h
  simp only [Bool.and_eq_true, decide_eq_true_eq] at h
  have h1 := h.1
  unfold C04.parseT C04.readT at h1
  split at h1
  · exact absurd h1 (by decide)
  · omega
theorem path_back {k : Int} (hk : 0 ≤ k ∧ k < 256) {p : List UInt8} (hp : p.length ≤ 36) (rest : List UInt8) : num1 ⟨be k 1 ++ (be p.length 1 ++ (p ++ rest)), 0⟩ = k ∧ (aft1 ⟨be k 1 ++ (be p.length 1 ++ (p ++ rest)), 0⟩).e = 0 ∧ pathR ⟨be k 1 ++ (be p.length 1 ++ (p ++ rest)), 0⟩ = (p, ⟨rest, 0⟩) := by
  obtain ⟨h1, h2⟩ := first1 hk.1 hk.2 (be p.length 1 ++ (p ++ rest))
  obtain ⟨h3, h4⟩ := first1 (n := p.length) (by omega) (by omega) (p ++ rest)
  refine ⟨h1, by rw [h2], ?_⟩
  unfold pathR
  rw [h2, h3, h4]
  exact fixedR_all rfl
/-- a message's text is read as the message, and what stands behind it is left -/
theorem read_back (m : Mx) (ho : okM m) (hm : mayM m = true) (rest : List UInt8) : num1 ⟨bodyT m ++ rest, 0⟩ = (if m.a then 2 else 1) ∧ readS ⟨bodyT m ++ rest, 0⟩ = (⟨rest, 0⟩, normM m) := by
  obtain ⟨h1, h2, h3⟩ := mayM_parts hm
  have hp := namedB_len h1
  unfold readS
  cases ha : m.a with
  | true =>
    obtain ⟨a1, a2, a3, a4⟩ := h2 ha
    have hg : ∀ j, j < 8 → 0 ≤ m.g j ∧ m.g j ≤ 65535 := fun j hj => ⟨(ho.g j hj).1, mayVB_le a1 j hj⟩
    have e : bodyT m ++ rest = be 2 1 ++ (be m.p.length 1 ++ (m.p ++ (ctxT m.g ++ rest))) := by
      unfold bodyT
      rw [if_pos ha]
      simp
    obtain ⟨b1, _, b2⟩ := path_back (k := 2) (by decide) hp (ctxT m.g ++ rest)
    rw [e]
    refine ⟨by rw [b1]; rfl, ?_⟩
    rw [b1, if_pos rfl]
    unfold readA
    rw [b2]
    simp only
    rw [ctx_back m.g hg]
    unfold normM
    rw [if_pos ha]
  | false =>
    obtain ⟨a1, a2, a3, a4, a5⟩ := h3 ha
    have hf : ∀ j, j < 8 → 0 ≤ m.f j ∧ m.f j ≤ 65535 := fun j hj => ⟨(ho.f j hj).1, mayVB_le a1 j hj⟩
    have e : bodyT m ++ rest = be 1 1 ++ (be m.p.length 1 ++ (m.p ++ (ctxT m.f ++ (be m.xs.length 1 ++ (sibsT m.xs ++ rest))))) := by
      unfold bodyT
      rw [if_neg (by rw [ha]; decide)]
      simp
    obtain ⟨b1, _, b2⟩ := path_back (k := 1) (by decide) hp (ctxT m.f ++ (be m.xs.length 1 ++ (sibsT m.xs ++ rest)))
    obtain ⟨b3, b4⟩ := first1 (n := m.xs.length) (by omega) (by omega) (sibsT m.xs ++ rest)
    have b5 := sibs_back m.xs (fun x hx => ⟨by have := ho.x x hx; omega, ⟨(ho.x x hx).2.2.1, (hasB_dot (a3 x hx).1).2.2⟩, (a3 x hx).2⟩) rest m.xs.length (Nat.le_refl _)
    rw [List.drop_length, List.take_length] at b5
    rw [e]
    refine ⟨by rw [b1]; rfl, ?_⟩
    rw [b1, if_neg (by decide)]
    unfold readE entR
    rw [b2]
    simp only
    rw [ctx_back m.f hf]
    simp only
    rw [b3, b4, Int.toNat_natCast, b5]
    unfold normM
    rw [if_neg (by rw [ha]; decide)]
    rfl
end Go.RV
