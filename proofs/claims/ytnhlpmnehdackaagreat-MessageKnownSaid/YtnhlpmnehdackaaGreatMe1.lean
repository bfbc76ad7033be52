/- For the law MessageKnown: the messages that it names. Conditions: none. -/
import Derived.Test.YtnhlpmnehdackaaGreatMb5
import Derived.Test.YtnhlpmnehdackaaGreatS4
import Derived.Test.YtnhlpmnehdackaaGreatRvX
set_option maxRecDepth 20000
set_option linter.unusedVariables false
set_option linter.unusedSimpArgs false
namespace Go.RV
open Go Go.Proofs Go.RowKit

theorem repeat28_c (s : List UInt8) (n : Nat) (hn : n ≤ 1073741824) (hl : s.length * n ≤ 140737488355328) (w : World) :
    Fc Tryz.prog 19 [.string (strY s), .int .i64 n] w fun v w' => v = .string (strY (Lib.repeatL s n)) ∧ St [] w w' [] := by
  refine fc_of_calls Tryz.func19 rfl (by kernel_rfl) ?_
  have h := Any.strings_Repeat C04.lays105 C04.extra105 (strY s) n w (by omega) (by rw [strY_size]; exact hl)
  exact h.mono fun e w' ⟨he, hw⟩ => ⟨_, he, by rw [show (strY s).data.toList = s from by simp [strY]]; rfl, St.of_below' hw⟩
def oneF : Nat → Int := fun j => if j = 0 then 1 else 0
def f8F : Nat → Int := fun j => if j = 0 then 8 else if j < 8 then 1 else 0
def kA : Mx := ⟨false, [47, 97], zeroF, [], zeroF⟩
def kB : Mx := ⟨false, [47, 97], oneF, [⟨0, 1, false, [104, 105]⟩], oneF⟩
def kC : Mx := ⟨false, [47], oneF, [⟨0, 1, false, [104, 105]⟩], zeroF⟩
def kD : Mx := ⟨true, [47, 97], zeroF, [], zeroF⟩
def kE : Mx := ⟨true, [47, 97], oneF, [], fun j => if j = 1 then 2 else 0⟩
def kF : Mx := ⟨false, [47, 97], oneF, [⟨0, 1, true, [120]⟩], zeroF⟩
def kG : Mx := ⟨false, [47, 97], oneF, [], zeroF⟩
def p36 : List UInt8 := [47, 49, 50, 51, 52, 53, 54, 55, 56, 47, 49, 50, 51, 52, 53, 54, 55, 56, 47, 49, 50, 51, 52, 53, 54, 55, 56, 47, 49, 50, 51, 52, 53, 54, 55, 56]
def xsB (big : List UInt8) (i : Nat) : List Sc := (List.range i).map fun (j : Nat) => ⟨0, (j : Int) + 1, false, big⟩
def kL (big : List UInt8) : Mx := ⟨false, p36, f8F, xsB big 8, zeroF⟩
theorem oneF_ok : ∀ j, j < 8 → 0 ≤ oneF j ∧ oneF j ≤ 4294967295 := fun j _ => by unfold oneF; split <;> decide
theorem f8F_ok : ∀ j, j < 8 → 0 ≤ f8F j ∧ f8F j ≤ 4294967295 := fun j _ => by unfold f8F; split <;> (try split) <;> decide
theorem nil_ok {P : Sc → Prop} : ∀ x ∈ ([] : List Sc), P x := fun x hx => by cases hx
theorem one_ok : ∀ x ∈ [(⟨0, 1, false, [104, 105]⟩ : Sc)], 0 ≤ x.r ∧ x.r ≤ 255 ∧ 0 ≤ x.n ∧ x.n ≤ 4294967295 := fun x hx => by obtain rfl := List.mem_singleton.1 hx; decide
theorem one_ok2 : ∀ x ∈ [(⟨0, 1, true, [120]⟩ : Sc)], 0 ≤ x.r ∧ x.r ≤ 255 ∧ 0 ≤ x.n ∧ x.n ≤ 4294967295 := fun x hx => by obtain rfl := List.mem_singleton.1 hx; decide
theorem one_v : ∀ x ∈ [(⟨0, 1, false, [104, 105]⟩ : Sc)], x.v.length ≤ 400 := fun x hx => by obtain rfl := List.mem_singleton.1 hx; decide
theorem one_v2 : ∀ x ∈ [(⟨0, 1, true, [120]⟩ : Sc)], x.v.length ≤ 400 := fun x hx => by obtain rfl := List.mem_singleton.1 hx; decide
theorem ackg_ok : ∀ j, j < 8 → 0 ≤ (fun j => if j = 1 then (2 : Int) else 0) j ∧ (fun j => if j = 1 then (2 : Int) else 0) j ≤ 4294967295 := fun j _ => by simp only; split <;> decide
theorem kA_ok : okM kA := ⟨zeroF_ok, zeroF_ok, nil_ok⟩
theorem kB_ok : okM kB := ⟨oneF_ok, oneF_ok, one_ok⟩
theorem kC_ok : okM kC := ⟨oneF_ok, zeroF_ok, one_ok⟩
theorem kD_ok : okM kD := ⟨zeroF_ok, zeroF_ok, nil_ok⟩
theorem kE_ok : okM kE := ⟨oneF_ok, ackg_ok, nil_ok⟩
theorem kF_ok : okM kF := ⟨oneF_ok, zeroF_ok, one_ok2⟩
theorem kG_ok : okM kG := ⟨oneF_ok, zeroF_ok, nil_ok⟩
theorem kZ_ok : okM zeroM := ⟨zeroF_ok, zeroF_ok, nil_ok⟩
theorem kA_few : fewM kA := ⟨by decide, by decide, nil_ok⟩
theorem kB_few : fewM kB := ⟨by decide, by decide, one_v⟩
theorem kC_few : fewM kC := ⟨by decide, by decide, one_v⟩
theorem kD_few : fewM kD := ⟨by decide, by decide, nil_ok⟩
theorem kE_few : fewM kE := ⟨by decide, by decide, nil_ok⟩
theorem kF_few : fewM kF := ⟨by decide, by decide, one_v2⟩
theorem kG_few : fewM kG := ⟨by decide, by decide, nil_ok⟩
theorem kZ_few : fewM zeroM := ⟨by decide, by decide, nil_ok⟩
theorem parse_root : C04.parseT [47] = ([], 0, none) := by decide +kernel
theorem parse_none : (C04.parseT []).2.1 = 4 := by decide +kernel
theorem named_root : namedB [47] = false := by unfold namedB; rw [parse_root]; rfl
theorem named_none : namedB [] = false := by unfold namedB; rw [parse_none]; rfl
theorem kA_no : mayM kA = false := by unfold mayM kA; simp only [named_a]; decide +kernel
theorem kB_no : mayM kB = false := by unfold mayM kB; simp only [named_a]; decide +kernel
theorem kC_no : mayM kC = false := by unfold mayM kC; simp only [named_root]; rfl
theorem kD_no : mayM kD = false := by unfold mayM kD; simp only [named_a]; decide +kernel
theorem kE_no : mayM kE = false := by unfold mayM kE; simp only [named_a]; decide +kernel
theorem kF_no : mayM kF = false := by unfold mayM kF; simp only [named_a]; decide +kernel
theorem kZ_no : mayM zeroM = false := by unfold mayM zeroM; simp only [named_none]; rfl
theorem kG_may : mayM kG = true := by unfold mayM kG; simp only [named_a]; decide +kernel
theorem kG_body : bodyT kG = [1, 2, 47, 97, 1, 0, 1, 0] := by decide +kernel
theorem parse_36 : (C04.parseT p36).2.1 = 0 ∧ (C04.parseT p36).1.length = 4 := by decide +kernel
theorem named_36 : namedB p36 = true := by unfold namedB; rw [parse_36.1, parse_36.2]; rfl
theorem xsB_len (big : List UInt8) (i : Nat) : (xsB big i).length = i := by simp [xsB]
theorem xsB_snoc (big : List UInt8) (i : Nat) : xsB big (i + 1) = xsB big i ++ [⟨0, (i : Int) + 1, false, big⟩] := by
  unfold xsB
  rw [List.range_succ, List.map_append]
  rfl
theorem xsB_mem {big : List UInt8} {i : Nat} {x : Sc} (h : x ∈ xsB big i) : x.r = 0 ∧ 1 ≤ x.n ∧ x.n ≤ i ∧ x.d = false ∧ x.v = big := by
  unfold xsB at h
  obtain ⟨j, hj, rfl⟩ := List.mem_map.1 h
  have := List.mem_range.1 hj
  refine ⟨rfl, ?_, ?_, rfl, rfl⟩ <;> simp only <;> omega
theorem rises8 (big : List UInt8) : risesC (xsB big 8) = true := by
  show risesC [⟨0, ((0 : Nat) : Int) + 1, false, big⟩, ⟨0, ((1 : Nat) : Int) + 1, false, big⟩, ⟨0, ((2 : Nat) : Int) + 1, false, big⟩, ⟨0, ((3 : Nat) : Int) + 1, false, big⟩, ⟨0, ((4 : Nat) : Int) + 1, false, big⟩, ⟨0, ((5 : Nat) : Int) + 1, false, big⟩, ⟨0, ((6 : Nat) : Int) + 1, false, big⟩, ⟨0, ((7 : Nat) : Int) + 1, false, big⟩] = true
  simp only [risesC, lessC]
  rfl
theorem kL_may {big : List UInt8} (hb : big.length = 256) : mayM (kL big) = true := by
  unfold mayM kL
  simp only [named_36, Bool.true_and, Bool.false_eq_true, if_false]
  have h1 : checkC f8F (xsB big 8) = true := by
    unfold checkC
    rw [rises8, xsB_len]
    have h2 : (xsB big 8).all (fun x => hasB f8F x.r x.n) = true := by
      rw [List.all_eq_true]
      intro x hx
      obtain ⟨h3, h4, h5, _⟩ := xsB_mem hx
      rw [h3]
      unfold hasB mayDotB
      have h6 : f8F (0 : Int).toNat = 8 := rfl
      rw [h6]
      simp only [Bool.and_eq_true, decide_eq_true_eq]
      omega
    rw [h2]
    decide +kernel
  have h3 : (xsB big 8).all (fun x => okCB x.d x.v) = true := by
    rw [List.all_eq_true]
    intro x hx
    obtain ⟨_, _, _, h4, h5⟩ := xsB_mem hx
    rw [h4, h5]
    simp [okCB, hb]
  rw [h1, h3]
  decide +kernel
theorem kL_ok (big : List UInt8) : okM (kL big) := by
  refine ⟨f8F_ok, zeroF_ok, fun x hx => ?_⟩
  obtain ⟨h3, h4, h5, _⟩ := xsB_mem hx
  rw [h3]
  refine ⟨by decide, by decide, by omega, by omega⟩
theorem sibT_lenB {x : Sc} (h : x.d = false) : (sibT x).length = 6 + x.v.length := by
  unfold sibT conT headT
  rw [h]
  simp only [Bool.false_eq_true, if_false, List.length_append, be_len]
  omega
theorem sibsT_lenB {k : Nat} : ∀ (xs : List Sc), (∀ x ∈ xs, x.d = false ∧ x.v.length = k) → (sibsT xs).length = (6 + k) * xs.length
  | [], _ => by simp [sibsT]
  | x :: xs, h => by
    have ih := sibsT_lenB xs (fun y hy => h y (by simp [hy]))
    have h1 := sibT_lenB (h x (by simp)).1
    rw [(h x (by simp)).2] at h1
    show (sibT x ++ sibsT xs).length = _
    rw [List.length_append, ih, h1, List.length_cons, Nat.mul_succ]
    omega
theorem kL_len {big : List UInt8} (hb : big.length = 256) : (summedT (bodyT (kL big))).length = 2156 := by
  rw [summedT_len]
  have h1 : (sibsT (xsB big 8)).length = 2096 := by
    rw [sibsT_lenB (k := 256) _ (fun x hx => ⟨(xsB_mem hx).2.2.2.1, by rw [(xsB_mem hx).2.2.2.2, hb]⟩), xsB_len]
  have h2 : (ctxT f8F).length = 17 := by decide +kernel
  unfold bodyT kL
  simp only [Bool.false_eq_true, if_false, List.length_append, be_len, h1, h2]
  rfl
theorem torn4 : (takeM [0, 0, 0, 1]).2 = 10 := by decide +kernel
theorem form4 : (takeM [3, 0, 4, 0, 4]).2 = 4 := by decide +kernel
theorem long3 {s : List UInt8} (h : 4096 < s.length) : takeM s = (zeroM, 3) := by unfold takeM; rw [if_pos h]
theorem rep_len (n : Nat) : (Lib.repeatL [120] n).length = n := by rw [Lib.repeatL_length]; simp
theorem ae_not : sameM ackM entM = false := rfl
end Go.RV
