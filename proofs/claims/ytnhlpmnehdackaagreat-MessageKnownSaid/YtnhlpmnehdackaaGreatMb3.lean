/- Plain laws of chapter 28: what is put is taken; what is taken has that text; no beginning is a message; one byte changed. Conditions: none. -/
import Derived.Test.YtnhlpmnehdackaaGreatMb2
set_option maxRecDepth 20000
set_option linter.unusedVariables false
set_option linter.unusedSimpArgs false
namespace Go.RV
open Go Go.Proofs Go.RowKit

theorem bitsN_cg {f g : Nat → Int} : ∀ k, (∀ j, j < k → f j = g j) → bitsN f k = bitsN g k
  | 0, _ => rfl
  | k+1, h => by
    have ih := bitsN_cg k (fun j hj => h j (by omega))
    unfold bitsN
    rw [ih, h k (by omega)]
theorem num2_cg {f g : Nat → Int} : ∀ k, (∀ j, j < k → f j = g j) → num2 f k = num2 g k
  | 0, _ => rfl
  | k+1, h => by
    have ih := num2_cg k (fun j hj => h j (by omega))
    unfold num2
    rw [ih, h k (by omega)]
theorem ctxT_cg {f g : Nat → Int} (h : ∀ j, j < 8 → f j = g j) : ctxT f = ctxT g := by
  unfold ctxT
  rw [bitsN_cg 8 h, num2_cg 8 h]
theorem veq_cg {f g : Nat → Int} (h : ∀ j, j < 8 → f j = g j) (k : Nat → Int) : veq f k = veq g k := by
  rw [Bool.eq_iff_iff, veq_iff, veq_iff]
  exact ⟨fun q j hj => by rw [← h j hj]; exact q j hj, fun q j hj => by rw [h j hj]; exact q j hj⟩
theorem veq_self8 (f : Nat → Int) : veq f f = true := veq_iff.2 fun _ _ => rfl
theorem low8 (f : Nat → Int) : ∀ j, j < 8 → (fun j => if j < 8 then f j else 0) j = f j := fun j hj => if_pos hj
theorem hasB_cg {f g : Nat → Int} (h : ∀ j, j < 8 → f j = g j) {r n : Int} (hr : 0 ≤ r) : hasB f r n = hasB g r n := by
  unfold hasB
  by_cases h8 : r < 8
  · rw [h r.toNat (by omega)]
  · have : mayDotB r n = false := by unfold mayDotB; rw [decide_eq_false h8]; rfl
    rw [this]; rfl
theorem checkC_cg {f g : Nat → Int} (h : ∀ j, j < 8 → f j = g j) {xs : List Sc} (hx : ∀ x ∈ xs, 0 ≤ x.r) : checkC f xs = checkC g xs := by
  unfold checkC
  rw [mayVB_congr h]
  congr 3
  rw [Bool.eq_iff_iff, List.all_eq_true, List.all_eq_true]
  exact ⟨fun q x hm => by rw [← hasB_cg h (hx x hm)]; exact q x hm, fun q x hm => by rw [hasB_cg h (hx x hm)]; exact q x hm⟩
theorem norm_text {m : Mx} (ho : okM m) (hm : mayM m = true) : mayM (normM m) = true ∧ bodyT (normM m) = bodyT m ∧ sameM (normM m) m = true := by
  obtain ⟨h1, h2, h3⟩ := mayM_parts hm
  obtain ⟨a, p, f, xs, g⟩ := m
  simp only at h1 h2 h3
  unfold normM
  cases a with
  | true =>
    obtain ⟨a1, a2, a3, rfl⟩ := h2 rfl
    simp only [if_true]
    refine ⟨?_, ?_, ?_⟩
    · unfold mayM
      simp only [if_true]
      rw [h1, mayVB_congr (low8 g), veq_cg (low8 g), a1, a2, veq_self8]
      rfl
    · unfold bodyT
      simp only [if_true]
      rw [ctxT_cg (low8 g)]
    · unfold sameM
      simp only
      rw [veq_cg (low8 g), veq_self8, veq_symm zeroF f, a3]
      simp [eqCs]
  | false =>
    obtain ⟨a1, a2, a3, a4, a5⟩ := h3 rfl
    simp only [Bool.false_eq_true, if_false]
    refine ⟨?_, ?_, ?_⟩
    · unfold mayM at hm ⊢
      simp only [Bool.false_eq_true, if_false] at hm ⊢
      rw [checkC_cg (low8 f) (fun x hx => (ho.x x hx).1), veq_cg (low8 f), veq_self8]
      rw [a5] at hm
      exact hm
    · unfold bodyT
      simp only [Bool.false_eq_true, if_false]
      rw [ctxT_cg (low8 f)]
    · unfold sameM
      simp only
      rw [veq_cg (low8 f), veq_self8, veq_symm zeroF g, a5, (eqCs_iff xs xs).2 rfl]
      simp
theorem summedT_len (s : List UInt8) : (summedT s).length = s.length + 4 := by unfold summedT; rw [List.length_append, be_len]
theorem summedT_take (s : List UInt8) : (summedT s).take ((summedT s).length - 4) = s := by
  rw [summedT_len, Nat.add_sub_cancel]
  unfold summedT
  exact List.take_left
theorem take_put {m : Mx} (ho : okM m) (hm : mayM m = true) : takeM (summedT (bodyT m)) = (normM m, 0) := by
  have hb := bodyT_len hm
  obtain ⟨n1, n2, n3⟩ := norm_text ho hm
  obtain ⟨r1, r2⟩ := read_back m ho hm []
  rw [List.append_nil] at r1 r2
  have hl := summedT_len (bodyT m)
  unfold takeM
  rw [summedT_take, if_neg (by omega), if_neg (by omega), if_neg (by simp)]
  rw [readM_of (by rw [r1]; cases m.a <;> simp), r2]
  unfold finM
  rw [if_neg (by simp), if_neg (by simp [n1, n2])]
theorem takeM_one {t : List UInt8} (h : (takeM t).2 = 0) : mayM (takeM t).1 = true ∧ summedT (bodyT (takeM t).1) = t := by
  unfold takeM at h ⊢
  split at h
  · exact absurd h (by decide)
  · split at h
    · exact absurd h (by decide)
    · split at h
      · exact absurd h (by decide)
      · rename_i h1 h2 h3
        rw [if_neg h1, if_neg h2, if_neg h3]
        unfold readM at h ⊢
        split at h
        · exact absurd h (by decide)
        · rename_i h4
          rw [if_neg h4]
          unfold finM at h ⊢
          split at h
          · rename_i h5; exact absurd h h5
          · rename_i h5
            rw [if_neg h5]
            split at h
            · exact absurd h (by decide)
            · rename_i h6
              rw [if_neg h6]
              simp only [not_or, Bool.not_eq_false, Decidable.not_not] at h6 h3
              exact ⟨h6.2.1, by rw [h6.2.2]; exact h3⟩
theorem finM_bad {body : List UInt8} {u : RS × Mx} (h : (finM body u).2 ≠ 0) : (finM body u).1 = zeroM := by
  unfold finM at h ⊢
  split
  · rfl
  · rename_i h1
    rw [if_neg h1] at h
    split
    · rfl
    · rename_i h2
      rw [if_neg h2] at h
      exact absurd rfl h
theorem readM_bad {body : List UInt8} (h : (readM body).2 ≠ 0) : (readM body).1 = zeroM := by
  unfold readM at h ⊢
  split
  · rfl
  · rename_i h1
    rw [if_neg h1] at h
    exact finM_bad h
theorem take_bad {t : List UInt8} (h : (takeM t).2 ≠ 0) : (takeM t).1 = zeroM := by
  unfold takeM at h ⊢
  split
  · rfl
  · rename_i h1
    rw [if_neg h1] at h
    split
    · rfl
    · rename_i h2
      rw [if_neg h2] at h
      split
      · rfl
      · rename_i h3
        rw [if_neg h3] at h
        exact readM_bad h
theorem take_len {t : List UInt8} (h : (takeM t).2 = 0) : 4 ≤ t.length ∧ t.length ≤ 4096 := by
  obtain ⟨h1, h2⟩ := takeM_one h
  have := bodyT_len h1
  have := summedT_len (bodyT (takeM t).1)
  rw [h2] at this
  omega
/-- of two messages' texts none is the other's beginning -/
theorem body_prefix {m k : Mx} (ho : okM m) (hm : mayM m = true) (ko : okM k) (hk : mayM k = true) {z : List UInt8} (h : bodyT k ++ z = bodyT m) : z = [] := by
  obtain ⟨r1, r2⟩ := read_back m ho hm []
  obtain ⟨q1, q2⟩ := read_back k ko hk z
  rw [h] at q2
  rw [List.append_nil] at r2
  have e := r2.symm.trans q2
  exact (congrArg (fun t : RS × Mx => t.1.rest) e).symm
theorem whole_cut {m : Mx} (ho : okM m) (hm : mayM m = true) {n : Nat} (hn : n < (summedT (bodyT m)).length) : (takeM ((summedT (bodyT m)).take n)).2 ≠ 0 := fun h => by
  obtain ⟨h1, h2⟩ := takeM_one h
  have hk := takeM_ok ((summedT (bodyT m)).take n)
  generalize (takeM ((summedT (bodyT m)).take n)).1 = k at *
  have hl := summedT_len (bodyT m)
  have hl2 := summedT_len (bodyT k)
  rw [h2, List.length_take] at hl2
  have e : bodyT k = (bodyT m).take (n - 4) := by
    have e1 := summedT_take (bodyT k)
    rw [h2, List.length_take, List.take_take] at e1
    rw [← e1, show min (min n (summedT (bodyT m)).length - 4) n = n - 4 from by omega]
    unfold summedT
    rw [List.take_append_of_le_length (by omega)]
  have e2 := body_prefix ho hm hk h1 (z := (bodyT m).drop (n - 4)) (by rw [e, List.take_append_drop])
  have := congrArg List.length e2
  rw [List.length_drop] at this
  simp at this
  omega
theorem whole_behind {m : Mx} (ho : okM m) (hm : mayM m = true) {z : List UInt8} (hz : z ≠ []) : (takeM (summedT (bodyT m) ++ z)).2 ≠ 0 := fun h => by
  obtain ⟨h1, h2⟩ := takeM_one h
  have hk := takeM_ok (summedT (bodyT m) ++ z)
  generalize (takeM (summedT (bodyT m) ++ z)).1 = k at *
  have hc := whole_cut hk h1 (n := (summedT (bodyT m)).length) (by rw [h2, List.length_append]; have := List.length_pos_iff.2 hz; omega)
  rw [h2, List.take_left, take_put ho hm] at hc
  exact hc rfl

/- one byte changed -/
theorem sumS_from : ∀ (l : List UInt8) (a c a' c' : Int), (a' - a) % 65535 ≠ 0 → ((sumS (a', c') l).1 - (sumS (a, c) l).1) % 65535 ≠ 0
  | [], a, c, a', c', h => h
  | x :: l, a, c, a', c', h => sumS_from l _ _ _ _ (by omega)
theorem sum_spoilt (l : List UInt8) (i : Nat) (hi : i < l.length) (y : UInt8) (hy : y ≠ l[i]) : sumI (l.set i y) ≠ sumI l := by
  have hs : l = l.take i ++ (l[i] :: l.drop (i + 1)) := by rw [List.getElem_cons_drop, List.take_append_drop]
  have hs2 : l.set i y = l.take i ++ (y :: l.drop (i + 1)) := by
    rw [List.set_eq_take_append_cons_drop, if_pos hi]
  have key : ∀ (st : Int × Int) (x y : UInt8) (r : List UInt8), y ≠ x → ((sumS st (y :: r)).1 - (sumS st (x :: r)).1) % 65535 ≠ 0 := by
    intro st x y r hxy
    refine sumS_from r _ _ _ _ ?_
    have h1 := x.toNat_lt
    have h2 := y.toNat_lt
    have h3 : x.toNat ≠ y.toNat := fun h => hxy (UInt8.toNat_inj.1 h.symm)
    omega
  have hap : ∀ st (p r : List UInt8), sumS st (p ++ r) = sumS (sumS st p) r := fun st p r => List.foldl_append
  have h1 : ((sumS (1, 0) (l.set i y)).1 - (sumS (1, 0) l).1) % 65535 ≠ 0 := by
    rw [hs2]
    conv => lhs; lhs; rhs; rw [hs]
    rw [hap, hap]
    exact key _ _ _ _ hy
  intro h
  have b1 := sumS_lt l 1 0 (by decide) (by decide)
  have b2 := sumS_lt (l.set i y) 1 0 (by decide) (by decide)
  unfold sumI at h
  generalize sumS (1, 0) l = u at *
  generalize sumS (1, 0) (l.set i y) = v at *
  omega
theorem be4_inj {a b : Int} (ha : 0 ≤ a ∧ a ≤ 4294967295) (hb : 0 ≤ b ∧ b ≤ 4294967295) (h : be a 4 = be b 4) : a = b := by
  have := congrArg (numF 0) h
  rwa [numF_be4 ha.1 ha.2, numF_be4 hb.1 hb.2] at this
theorem take_spoilt (b : List UInt8) (hb : b.length ≤ 4092) (i : Nat) (hi : i < (summedT b).length) (y : UInt8) (hy : y ≠ (summedT b)[i]) : takeM ((summedT b).set i y) = (zeroM, 9) := by
  have hl := summedT_len b
  have hls : ((summedT b).set i y).length = b.length + 4 := by rw [List.length_set, hl]
  unfold takeM
  rw [if_neg (by omega), if_neg (by omega), hls, Nat.add_sub_cancel, if_pos]
  by_cases hib : i < b.length
  · have e1 : (summedT b).set i y = b.set i y ++ be (sumI b) 4 := by
      unfold summedT
      rw [List.set_append_left _ _ hib]
    have e2 : (summedT b)[i] = b[i] := by
      show (b ++ be (sumI b) 4)[i]'(by rw [List.length_append]; omega) = b[i]
      rw [List.getElem_append_left hib]
    rw [e1, show ((b.set i y ++ be (sumI b) 4).take b.length) = b.set i y from by
      have e3 : (b.set i y).length = b.length := List.length_set
      rw [← e3]
      exact List.take_left]
    intro h
    unfold summedT at h
    have h2 := List.append_cancel_left h
    exact sum_spoilt b i hib y (by rw [← e2]; exact hy) (be4_inj (sumI_lt _) (sumI_lt _) h2)
  · have e1 : ((summedT b).set i y).take b.length = b := by
      rw [List.take_set_of_le (by omega)]
      unfold summedT
      exact List.take_left
    rw [e1]
    intro h
    have h2 : (summedT b)[i] = ((summedT b).set i y)[i]'(by omega) := by
      congr 1
    rw [List.getElem_set_self] at h2
    exact hy h2.symm
end Go.RV
