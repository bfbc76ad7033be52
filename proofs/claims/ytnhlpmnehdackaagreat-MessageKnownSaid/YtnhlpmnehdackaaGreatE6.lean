/- Plain laws of chapter 7: what is put is taken; what is taken has that text. Conditions: none. -/
import Derived.Test.YtnhlpmnehdackaaGreatE5
import Derived.Test.YtnhlpmnehdackaaGreatP2
set_option maxRecDepth 20000
set_option linter.unusedVariables false
set_option linter.unusedSimpArgs false
namespace Go.RV
open Go Go.Proofs

theorem numF_cons (n : Int) (c : UInt8) (l : List UInt8) : numF n (c :: l) = numF (n * 256 + c.toNat) l := rfl
theorem numF_div : ∀ (l : List UInt8) (n : Int), numF n l / 2 ^ (8 * l.length) = n
  | [], n => by simp [numF]
  | c :: l, n => by
    have hc := c.toNat_lt
    rw [numF_cons, List.length_cons, show 8 * (l.length + 1) = 8 * l.length + 8 from by omega, Int.pow_add, ← Int.ediv_ediv_of_nonneg (by exact Int.le_of_lt (Int.pow_pos (by decide))), numF_div l]
    show (n * 256 + (c.toNat : Int)) / 256 = n
    omega
theorem be_numF : ∀ (l : List UInt8) (n : Int), be (numF n l) l.length = l
  | [], n => rfl
  | c :: l, n => by
    have hc := c.toNat_lt
    rw [List.length_cons, be, numF_cons, numF_div, be_numF l]
    congr 1
    apply u8_ext
    rw [yI_val]
    omega
theorem be_num {l : List UInt8} {k : Nat} (h : l.length = k) : be (numF 0 l) k = l := by rw [← h]; exact be_numF l 0
theorem fixedR_got {s : RS} {n : Int} (h : (fixedR s n).2.e = 0) (hn : 0 ≤ n) : (fixedR s n).1 ++ (fixedR s n).2.rest = s.rest ∧ ((fixedR s n).1.length : Int) = n ∧ s.e = 0 := by
  unfold fixedR at h ⊢
  split
  · rename_i h1
    rw [if_pos h1] at h
    simp only at h
    refine ⟨rfl, ?_, h⟩
    simp
    omega
  · rename_i h1
    rw [if_neg h1] at h
    split
    · rename_i h2
      rw [if_pos h2] at h
      exact absurd h (by decide)
    · rename_i h2
      rw [if_neg h2] at h
      refine ⟨List.take_append_drop _ _, ?_, h⟩
      rw [List.length_take]
      omega
theorem rs_eta {s : RS} (h : s.e = 0) : s = ⟨s.rest, 0⟩ := by cases s; cases h; rfl

theorem tell_back (d : Bool) (n : Int) (h0 : 0 ≤ n) (h1 : n ≤ 256) (hd : d = true → n = 0) (rest : List UInt8) : (tellS ⟨headT d n ++ rest, 0⟩).1 = ⟨rest, 0⟩ ∧ tellR (tellS ⟨headT d n ++ rest, 0⟩) = (d, n, 0) := by
  cases d with
  | true =>
    obtain rfl := hd rfl
    have e1 : fixedR ⟨headT true 0 ++ rest, 0⟩ (1 : Nat) = (be 1 1, ⟨rest, 0⟩) := fixedR_all (l := be 1 1) (by simp [be_len])
    unfold tellS
    rw [e1]
    simp only [numF_be1 (show (0 : Int) ≤ 1 by decide)]
    refine ⟨rfl, ?_⟩
    unfold tellR
    rfl
  | false =>
    have e1 : fixedR ⟨headT false n ++ rest, 0⟩ (1 : Nat) = (be 0 1, ⟨be (IntKind.u16.wrap n) 2 ++ rest, 0⟩) := by
      show fixedR ⟨(be 0 1 ++ be (IntKind.u16.wrap n) 2) ++ rest, 0⟩ (1 : Nat) = _
      rw [List.append_assoc]
      exact fixedR_all (by simp [be_len])
    have hw : IntKind.u16.wrap n = n := by rw [wrap_u16_mod]; omega
    have e2 : fixedR ⟨be (IntKind.u16.wrap n) 2 ++ rest, 0⟩ (2 : Nat) = (be n 2, ⟨rest, 0⟩) := by
      rw [hw]
      exact fixedR_all (by simp [be_len])
    unfold tellS
    rw [e1]
    simp only [numF_be1 (show (0 : Int) ≤ 0 by decide)]
    rw [if_pos (by decide), e2]
    simp only [numF_be2 h0]
    have hm : n % 65536 = n := by omega
    rw [hm]
    refine ⟨trivial, ?_⟩
    unfold tellR
    rw [if_neg (by simp), if_neg (by simp; omega)]
    rfl
theorem ridN_back (xs : List Int) (hx : ∀ x ∈ xs, 0 ≤ x ∧ x ≤ 4294967295) (rest : List UInt8) : ∀ k, k ≤ xs.length → ridN ⟨idsT xs ++ rest, 0⟩ k = (xs.take k, ⟨idsT (xs.drop k) ++ rest, 0⟩)
  | 0, _ => by simp [ridN]
  | k+1, h => by
    have ih := ridN_back xs hx rest k (by omega)
    have hk : k < xs.length := by omega
    have hxk := hx xs[k] (List.getElem_mem hk)
    have ed : xs.drop k = xs[k] :: xs.drop (k+1) := (List.getElem_cons_drop hk).symm
    have e1 : fixedR ⟨idsT (xs.drop k) ++ rest, 0⟩ (4 : Nat) = (be xs[k] 4, ⟨idsT (xs.drop (k+1)) ++ rest, 0⟩) := by
      rw [ed, show idsT (xs[k] :: xs.drop (k+1)) = be xs[k] 4 ++ idsT (xs.drop (k+1)) from rfl, List.append_assoc]
      exact fixedR_all (by simp [be_len])
    rw [ridN, ih]
    simp only [e1, numF_be4 hxk.1 hxk.2]
    rw [List.take_succ_eq_append_getElem hk]
theorem val_back (d : Bool) (n : Int) (xs : List Int) (hx : ∀ x ∈ xs, 0 ≤ x ∧ x ≤ 4294967295) (hok : okVB d n xs = true) (rest : List UInt8) :
    takeV (tellS ⟨valT d n xs ++ rest, 0⟩) = ((d, n, xs), 0) ∧ valR (tellS ⟨valT d n xs ++ rest, 0⟩) = ⟨rest, 0⟩ := by
  have hz := okVB_size hok
  have hlen : (xs.length : Int) = countI n := by
    simp only [okVB, Bool.and_eq_true, Bool.not_eq_true', bne_eq_false_iff_eq] at hok
    exact hok.2.2.1
  obtain ⟨h1, h2⟩ := tell_back d n hz.1 hz.2 (fun h => by subst h; exact (okVB_dir hok).1) (idsT xs ++ rest)
  rw [← List.append_assoc, ← valT] at h1 h2
  have hc : (countI n).toNat = xs.length := by omega
  have hr := ridN_back xs hx rest xs.length (Nat.le_refl _)
  rw [List.take_length, List.drop_length] at hr
  replace hr : ridN ⟨idsT xs ++ rest, 0⟩ xs.length = (xs, ⟨rest, 0⟩) := by simpa [idsT] using hr
  have hv : valR (tellS ⟨valT d n xs ++ rest, 0⟩) = ⟨rest, 0⟩ := by
    unfold valR
    rw [h2, h1]
    simp only [hc, hr]
    rfl
  refine ⟨?_, hv⟩
  unfold takeV
  rw [hv, h2, h1]
  simp only [hc, hr, hok]
  rfl
theorem con_back (d : Bool) (s : List UInt8) (hok : okCB d s = true) (rest : List UInt8) :
    takeC (tellS ⟨conT d s ++ rest, 0⟩) = ((d, s), 0) ∧ conR (tellS ⟨conT d s ++ rest, 0⟩) = ⟨rest, 0⟩ := by
  have h4 : s.length ≤ 256 := by simp [okCB] at hok; omega
  have hd : d = true → s = [] := by
    rintro rfl
    simp [okCB] at hok
    exact hok.2
  obtain ⟨h1, h2⟩ := tell_back d s.length (by omega) (by omega) (fun h => by rw [hd h]; rfl) (s ++ rest)
  rw [← List.append_assoc, ← conT] at h1 h2
  have hf : fixedR ⟨s ++ rest, 0⟩ (s.length : Int) = (s, ⟨rest, 0⟩) := fixedR_all rfl
  have hv : conR (tellS ⟨conT d s ++ rest, 0⟩) = ⟨rest, 0⟩ := by
    unfold conR
    rw [h2, h1]
    simp only [hf]
    rfl
  refine ⟨?_, hv⟩
  unfold takeC
  rw [hv, h2, h1]
  simp only [hf]
  rfl

theorem tell_got {S : List UInt8} (h : (tellR (tellS ⟨S, 0⟩)).2.2 = 0) : ∃ d n, tellR (tellS ⟨S, 0⟩) = (d, n, 0) ∧ (tellS ⟨S, 0⟩).1.e = 0 ∧ 0 ≤ n ∧ n ≤ 256 ∧ (d = true → n = 0) ∧ headT d n ++ (tellS ⟨S, 0⟩).1.rest = S := by
  have he : (tellS ⟨S, 0⟩).1.e = 0 := by
    by_cases he : (tellS ⟨S, 0⟩).1.e = 0
    · exact he
    · unfold tellR at h
      rw [if_pos he] at h
      exact absurd h he
  have hsz := tellS_sz ⟨S, 0⟩
  have h12 : ¬ (1 < (tellS ⟨S, 0⟩).2.1 ∨ 256 < (tellS ⟨S, 0⟩).2.2) := by
    intro hc
    unfold tellR at h
    rw [if_neg (by omega), if_pos hc] at h
    exact absurd h (by decide)
  have hR : tellR (tellS ⟨S, 0⟩) = ((tellS ⟨S, 0⟩).2.1 == 1, (tellS ⟨S, 0⟩).2.2, 0) := by
    unfold tellR
    rw [if_neg (by omega), if_neg h12]
  refine ⟨_, _, hR, he, hsz, by omega, ?_, ?_⟩
  · intro h1
    have h1 : (tellS ⟨S, 0⟩).2.1 = 1 := by simpa using h1
    unfold tellS at h1 ⊢
    split
    · rename_i hz
      rw [if_pos hz] at h1
      exact absurd h1 (show ¬ (0 : Int) = 1 by decide)
    · rfl
  · unfold tellS at he h12 ⊢
    split
    · rename_i hz
      rw [if_pos hz] at he h12
      simp only at he h12 ⊢
      obtain ⟨a1, a2, a3⟩ := fixedR_got he (by decide)
      obtain ⟨b1, b2, b3⟩ := fixedR_got a3 (by decide)
      have l1 : (fixedR ⟨S, 0⟩ (1 : Nat)).1.length = 1 := by omega
      have l2 : (fixedR (fixedR ⟨S, 0⟩ (1 : Nat)).2 (2 : Nat)).1.length = 2 := by omega
      have n1 := be_num l1
      have n2 := be_num l2
      rw [hz] at n1
      have hl := numF_lt (fixedR ⟨S, 0⟩ (1 : Nat)).2 2
      rw [show (256 : Int) ^ 2 = 65536 from by decide] at hl
      have hw : IntKind.u16.wrap (numF 0 (fixedR (fixedR ⟨S, 0⟩ (1 : Nat)).2 (2 : Nat)).1) = numF 0 (fixedR (fixedR ⟨S, 0⟩ (1 : Nat)).2 (2 : Nat)).1 := by rw [wrap_u16_mod, Int.emod_eq_of_lt hl.1 hl.2]
      show (be 0 1 ++ be (IntKind.u16.wrap _) 2) ++ _ = S
      rw [hw, n1, n2, List.append_assoc, a1, b1]
    · rename_i hz
      rw [if_neg hz] at he h12
      simp only at he h12 ⊢
      obtain ⟨b1, b2, b3⟩ := fixedR_got he (by decide)
      have l1 : (fixedR ⟨S, 0⟩ (1 : Nat)).1.length = 1 := by omega
      have n1 := be_num l1
      have hl := numF_lt ⟨S, 0⟩ 1
      have hk : numF 0 (fixedR ⟨S, 0⟩ (1 : Nat)).1 = 1 := by omega
      rw [hk] at n1 ⊢
      show be 1 1 ++ _ = S
      rw [n1, b1]
theorem ridN_got {s : RS} : ∀ k, (ridN s k).2.e = 0 → idsT (ridN s k).1 ++ (ridN s k).2.rest = s.rest ∧ s.e = 0
  | 0, h => ⟨rfl, h⟩
  | k+1, h => by
    obtain ⟨a1, a2, a3⟩ := fixedR_got (s := (ridN s k).2) (n := (4 : Nat)) h (by decide)
    obtain ⟨b1, b2⟩ := ridN_got k a3
    refine ⟨?_, b2⟩
    have l1 : (fixedR (ridN s k).2 (4 : Nat)).1.length = 4 := by omega
    have n1 := be_num l1
    show idsT ((ridN s k).1 ++ [numF 0 (fixedR (ridN s k).2 (4 : Nat)).1]) ++ (fixedR (ridN s k).2 (4 : Nat)).2.rest = s.rest
    rw [show ∀ (a : List Int) (b : Int), idsT (a ++ [b]) = idsT a ++ be b 4 from fun a b => by simp [idsT], n1, List.append_assoc, a1, b1]
theorem ridN_in (s : RS) : ∀ k, ∀ x ∈ (ridN s k).1, 0 ≤ x ∧ x ≤ 4294967295
  | 0, x, h => by cases h
  | k+1, x, h => by
    rcases List.mem_append.1 (show x ∈ (ridN s k).1 ++ [numF 0 (fixedR (ridN s k).2 (4 : Nat)).1] from h) with h | h
    · exact ridN_in s k x h
    · have hl := numF_lt (ridN s k).2 4
      rw [show (256 : Int) ^ 4 = 4294967296 from by decide] at hl
      obtain rfl := List.mem_singleton.1 h
      exact ⟨hl.1, by omega⟩
theorem takeV_in (s : RS) : ∀ x ∈ (takeV (tellS s)).1.2.2, 0 ≤ x ∧ x ≤ 4294967295 := by
  unfold takeV
  split
  · simp
  · split
    · simp
    · split
      · exact ridN_in _ _
      · simp
theorem takeV_size (s : RS) : 0 ≤ (takeV (tellS s)).1.2.1 ∧ (takeV (tellS s)).1.2.1 ≤ 256 := by
  have hsz := tellR_sz _ (tellS_sz s)
  unfold takeV
  split
  · simp
  · split
    · simp
    · split
      · exact hsz
      · simp
theorem val_got (S : List UInt8) (h : (takeV (tellS ⟨S, 0⟩)).2 = 0) : putVE (takeV (tellS ⟨S, 0⟩)).1.1 (takeV (tellS ⟨S, 0⟩)).1.2.1 (takeV (tellS ⟨S, 0⟩)).1.2.2 = 0 ∧
    putVS (takeV (tellS ⟨S, 0⟩)).1.1 (takeV (tellS ⟨S, 0⟩)).1.2.1 (takeV (tellS ⟨S, 0⟩)).1.2.2 ++ strY (valR (tellS ⟨S, 0⟩)).rest = strY S := by
  have e0 : (tellR (tellS ⟨S, 0⟩)).2.2 = 0 := by
    by_cases e0 : (tellR (tellS ⟨S, 0⟩)).2.2 = 0
    · exact e0
    · unfold takeV at h
      rw [if_pos e0] at h
      exact absurd h e0
  obtain ⟨d, n, hR, he, hn0, hn1, hd, hS⟩ := tell_got e0
  have e1 : (valR (tellS ⟨S, 0⟩)).e = 0 := by
    by_cases e1 : (valR (tellS ⟨S, 0⟩)).e = 0
    · exact e1
    · unfold takeV at h
      rw [if_neg (by omega), if_pos e1] at h
      exact absurd h e1
  have hvr : valR (tellS ⟨S, 0⟩) = (ridN (tellS ⟨S, 0⟩).1 (countI n).toNat).2 := by
    unfold valR
    rw [if_neg (by omega), hR]
  have hok : okVB d n (ridN (tellS ⟨S, 0⟩).1 (countI n).toNat).1 = true := by
    cases hok : okVB d n (ridN (tellS ⟨S, 0⟩).1 (countI n).toNat).1 with
    | true => rfl
    | false =>
      unfold takeV at h
      rw [if_neg (by omega), if_neg (by omega), hR] at h
      simp only [hok] at h
      exact absurd h (show ¬ (4 : Int) = 0 by decide)
  have htv : takeV (tellS ⟨S, 0⟩) = ((d, n, (ridN (tellS ⟨S, 0⟩).1 (countI n).toNat).1), 0) := by
    unfold takeV
    rw [if_neg (by omega), if_neg (by omega), hR]
    simp only [hok]
    rfl
  rw [htv]
  simp only
  refine ⟨by rw [putVE, if_pos hok], ?_⟩
  rw [hvr] at e1 ⊢
  obtain ⟨c1, c2⟩ := ridN_got _ e1
  rw [putVS, if_pos hok, strY_append, valT, List.append_assoc, c1, hS]
theorem takeC_len (s : RS) : (takeC (tellS s)).1.2.length ≤ 256 := by
  have hsz := tellR_sz _ (tellS_sz s)
  unfold takeC
  split
  · simp
  · split
    · simp
    · simp only [fixedR]
      split
      · simp
      · split
        · simp
        · simp only [List.length_take]
          omega
theorem con_got (S : List UInt8) (h : (takeC (tellS ⟨S, 0⟩)).2 = 0) : putCE (takeC (tellS ⟨S, 0⟩)).1.1 (takeC (tellS ⟨S, 0⟩)).1.2 = 0 ∧
    putCS (takeC (tellS ⟨S, 0⟩)).1.1 (takeC (tellS ⟨S, 0⟩)).1.2 ++ strY (conR (tellS ⟨S, 0⟩)).rest = strY S := by
  have e0 : (tellR (tellS ⟨S, 0⟩)).2.2 = 0 := by
    by_cases e0 : (tellR (tellS ⟨S, 0⟩)).2.2 = 0
    · exact e0
    · unfold takeC at h
      rw [if_pos e0] at h
      exact absurd h e0
  obtain ⟨d, n, hR, he, hn0, hn1, hd, hS⟩ := tell_got e0
  have e1 : (conR (tellS ⟨S, 0⟩)).e = 0 := by
    by_cases e1 : (conR (tellS ⟨S, 0⟩)).e = 0
    · exact e1
    · unfold takeC at h
      rw [if_neg (by omega), if_pos e1] at h
      exact absurd h e1
  have hvr : conR (tellS ⟨S, 0⟩) = (fixedR (tellS ⟨S, 0⟩).1 n).2 := by
    unfold conR
    rw [if_neg (by omega), hR]
  have htv : takeC (tellS ⟨S, 0⟩) = ((d, (fixedR (tellS ⟨S, 0⟩).1 n).1), 0) := by
    unfold takeC
    rw [if_neg (by omega), if_neg (by omega), hR]
  rw [htv]
  simp only
  rw [hvr] at e1 ⊢
  obtain ⟨c1, c2, c3⟩ := fixedR_got e1 hn0
  have hok : okCB d (fixedR (tellS ⟨S, 0⟩).1 n).1 = true := by
    unfold okCB
    have g : decide (256 < (fixedR (tellS ⟨S, 0⟩).1 n).1.length) = false := decide_eq_false (by omega)
    rw [g]
    cases d with
    | false => rfl
    | true =>
      have := hd rfl
      have hz : (fixedR (tellS ⟨S, 0⟩).1 n).1 = [] := List.length_eq_zero_iff.1 (by omega)
      rw [hz]
      rfl
  refine ⟨by rw [putCE, if_pos hok], ?_⟩
  rw [putCS, if_pos hok, strY_append, conT, List.append_assoc, c1, c2, hS]
end Go.RV
