/- Contracts of functions of chapter 6: siblings are sorted. Conditions: none. -/
import Derived.Test.YtjgdcifkaopnpaaDoorH4
set_option maxRecDepth 20000
set_option linter.unusedVariables false
set_option linter.unusedSimpArgs false
namespace Go.RV
open Go Go.Proofs

theorem setsL_flat {α : Type} {enc : α → List Value} {sz : Nat} (henc : ∀ x, (enc x).length = sz) (x : α) : ∀ (xs : List α) (k : Nat), k < xs.length → setsL (flat enc xs) (k * sz) (enc x) = flat enc (xs.set k x)
  | [], k, h => by cases h
  | y :: xs, 0, _ => by
    have hfl : flat enc (y :: xs) = enc y ++ flat enc xs := by simp [flat]
    have hle : 0 * sz + (enc x).length ≤ (flat enc (y :: xs)).length := by rw [hfl, List.length_append, henc, henc]; omega
    rw [setsL_eq _ _ _ hle, hfl]
    simp [flat, henc]
  | y :: xs, k+1, h => by
    have ih := setsL_flat henc x xs k (by simpa using h)
    have hk : k * sz + sz ≤ xs.length * sz := by
      have : (k + 1) * sz ≤ xs.length * sz := Nat.mul_le_mul_right _ (by simp at h; omega)
      rwa [Nat.add_mul, Nat.one_mul] at this
    have hle : (k * sz) + (enc x).length ≤ (flat enc xs).length := by rw [flat_length henc, henc]; omega
    have e1 : (k + 1) * sz = sz + k * sz := by rw [Nat.add_mul]; omega
    have hfl : flat enc (y :: xs) = enc y ++ flat enc xs := by simp [flat]
    have hle2 : (k + 1) * sz + (enc x).length ≤ (flat enc (y :: xs)).length := by rw [hfl, List.length_append, henc, e1, flat_length henc, henc]; omega
    rw [setsL_eq _ _ _ hle] at ih
    rw [setsL_eq _ _ _ hle2, hfl, e1]
    show _ = enc y ++ flat enc (xs.set k x)
    rw [← ih]
    rw [List.take_append, List.drop_append, henc, henc]
    rw [List.take_of_length_le (by rw [henc]; omega), List.drop_eq_nil_of_le (by rw [henc]; omega)]
    rw [show sz + k * sz - sz = k * sz from by omega, show sz + k * sz + sz - sz = k * sz + sz from by omega]
    simp
section
variable {P : Program} {M : List Nat} {w0 w w' : World} {F L : LM}
/-- an element of a slice of the call's own is written -/
theorem stE_sl {α : Type} {enc : α → List Value} {sz e b off n c : Nat} {xs : List α} {Lv : LM} {K : World → Prop} (henc : ∀ x, (enc x).length = sz) (hn : n = xs.length) (hv : Sl e sz (.slice (some ⟨b, off, none⟩) n c) n (flat enc xs) Lv) (hS : Sf M w0 w (Lv ++ F) L) (k : Nat) (hk : k < xs.length) (x : α) {o : Nat} (ho : o = off + k * sz) {vs : List Value} (hvs : vs = enc x) (h1 : allOne (enc x) = true)
    (h : ∀ w' Lv', Sl e sz (.slice (some ⟨b, off, none⟩) n c) n (flat enc (xs.set k x)) Lv' → Sf M w0 w' (Lv' ++ F) L → K w') : StN P w ⟨b, o, none⟩ vs K := by
  subst ho hvs
  cases hv with
  | blk _ cap n cs cur q1 q2 q3 q4 =>
    have hkk : k * sz + sz ≤ n * sz := by
      have : (k + 1) * sz ≤ n * sz := Nat.mul_le_mul_right _ (by omega)
      rwa [Nat.add_mul, Nat.one_mul] at this
    have hlen : n * sz ≤ cur.toList.length := by
      have := Nat.mul_le_mul_right sz q1
      simp only [Array.length_toList]
      omega
    have hle : 0 + k * sz + (enc x).length ≤ cur.toList.length := by rw [henc]; omega
    have hSt : St M w0 w ((b, .cells cur e (0, 0)) :: (F ++ L)) := by simpa using hS.st
    refine stM_s hSt 0 rfl hle h1 (setsK_i ?_)
    show ∀ w', St M w0 w' ((b, .cells (setsL cur.toList (0 + k * sz) (enc x)).toArray e (0, 0)) :: (F ++ L)) → K w'
    intro w' hS'
    refine h w' [(b, .cells (setsL cur.toList (0 + k * sz) (enc x)).toArray e (0, 0))] (.blk b _ n _ _ q1 ?_ ?_ ?_) ⟨by simpa using hS'⟩
    · rw [setsL_eq _ _ _ hle]
      simp only [List.size_toArray, List.length_append, List.length_take, List.length_drop, henc] at hle ⊢
      rw [← q2]
      simp only [Array.length_toList] at *
      omega
    · rw [flat_length henc, List.length_set, hn]
    · rw [← setsL_flat henc x xs k (by omega), ← q4]
      have h3 : k * sz + (enc x).length ≤ (cur.toList.take (n * sz)).length := by rw [List.length_take, henc]; omega
      rw [setsL_eq _ _ _ hle, setsL_eq _ _ _ h3, Nat.zero_add]
      simp only [List.take_append, List.take_take, List.drop_take, List.length_append, List.length_take, henc]
      rw [Nat.min_eq_left (show k * sz ≤ n * sz by omega), Nat.min_eq_right (show k * sz ≤ n * sz by omega)]
      rw [Nat.min_eq_left (show k * sz ≤ cur.toList.length by omega)]
      rw [List.take_of_length_le (show (enc x).length ≤ n * sz - k * sz by rw [henc]; omega)]
end

def swp (l : List Sx) (j : Nat) (h : j < l.length) : List Sx := (l.set j (l[j - 1]'(by omega))).set (j - 1) l[j]
theorem swp_len (l : List Sx) (j : Nat) (h : j < l.length) : (swp l j h).length = l.length := by simp [swp]
def sink : Nat → List Sx → List Sx
  | 0, l => l
  | j+1, l => if h : j + 1 < l.length then (if lessX l[j + 1] l[j] then sink j (swp l (j + 1) h) else l) else l
theorem sink_len : ∀ j l, (sink j l).length = l.length
  | 0, l => rfl
  | j+1, l => by
    unfold sink
    split
    · split
      · rw [sink_len j, swp_len]
      · rfl
    · rfl
def isF : Nat → Nat → List Sx → List Sx
  | 0, _, l => l
  | k+1, i, l => isF k (i + 1) (sink i l)
theorem ord_lt (a b : Sx) : decide (ordI a.r a.n b.r b.n < 0) = lessX a b := by
  have := ord_less a b
  rw [Bool.eq_iff_iff] at this ⊢
  simp only [decide_eq_true_eq, Bool.not_eq_true'] at this ⊢
  constructor
  · intro h
    cases hl : lessX a b with
    | true => rfl
    | false => have := this.2 hl; omega
  · intro h
    rcases (show ordI a.r a.n b.r b.n < 0 ∨ 0 ≤ ordI a.r a.n b.r b.n by omega) with h1 | h1
    · exact h1
    · have := this.1 h1; rw [h] at this; cases this
theorem isort_c (A : Option Addr) (c : Nat) (xs : List Sx) (Lv : LM) (w : World) (hv : Sl 44 3 (.slice A xs.length c) xs.length (flat encX xs) Lv) (hS : St (keys Lv) w w Lv) (hn : xs.length ≤ 1000000) :
    Fc Tryd.prog 73 [.slice A xs.length c, .int .i64 0, .int .i64 xs.length, .func (.func 31) #[] #[]] w fun v w' => ∃ Lv', Sl 44 3 (.slice A xs.length c) xs.length (flat encX (isF (xs.length - 1) 1 xs)) Lv' ∧ St (keys Lv) w w' Lv' := by
  refine fc_i TB_ok Tryd.func73 rfl (by kernel_rfl) ?_
  replace hS : Sf (keys Lv) w w (Lv ++ []) [] := ⟨by simpa using hS⟩
  generalize hM : keys Lv = M at *
  have hw1 : IntKind.i64.wrap ((0 : Int) + 1) = 1 := rfl
  repeat ((conv => whnf); first | (apply q_i; focus (intro w1 hS; (conv => whnf); first | exact ⟨rfl, rfl⟩)) | (refine nw_f hS ?_; intro b w1 hS) | (refine as_i hS ?_) | (refine as_i (hS.subs (List.nil_sublist _) (by repeat (first | exact List.Sublist.refl _ | apply List.Sublist.cons_cons | apply List.Sublist.cons))) ?_) | (refine as_i (hS.subs (List.Sublist.refl _) (by repeat (first | exact List.Sublist.refl _ | apply List.Sublist.cons_cons | apply List.Sublist.cons))) ?_) | (refine bar_f hS ?_) | (refine drawf TB_ok rfl (by kernel_rfl) (by kernel_rfl) hS (List.Sublist.refl _) (List.Sublist.refl _) ?_; intro w1 hS) | (refine br_t (by assumption) ?_) | (refine br_f (by assumption) ?_))
  refine loop_i TB_ok (fun t : Nat × List Sx => [(8, .int .i64 t.1)]) (fun t w' => 1 ≤ t.1 ∧ t.1 ≤ xs.length + 1 ∧ t.2.length = xs.length ∧ isF (xs.length - t.1) t.1 t.2 = isF (xs.length - 1) 1 xs ∧ ∃ Lv', Sl 44 3 (.slice A xs.length c) xs.length (flat encX t.2) Lv' ∧ Sf M w w' (Lv' ++ []) []) (fun t => xs.length + 1 - t.1) (1, xs) rfl ⟨Nat.le_refl _, by simp, rfl, rfl, Lv, hv, hS⟩ ?_
  rintro ⟨i, l⟩ us w2 ⟨hi1, hi2, hll, hF, Lv2, hv, hS⟩
  simp only at hi1 hi2 hll hF hv hS ⊢
  by_cases hlt : i < xs.length
  · have h1 : decide ((i : Int) < (xs.length : Int)) = true := decide_eq_true (by omega)
    repeat ((conv => whnf); first | (apply q_i; focus (intro w1 hS; (conv => whnf); first | exact ⟨rfl, rfl⟩)) | (refine nw_f hS ?_; intro b w1 hS) | (refine as_i hS ?_) | (refine as_i (hS.subs (List.nil_sublist _) (by repeat (first | exact List.Sublist.refl _ | apply List.Sublist.cons_cons | apply List.Sublist.cons))) ?_) | (refine as_i (hS.subs (List.Sublist.refl _) (by repeat (first | exact List.Sublist.refl _ | apply List.Sublist.cons_cons | apply List.Sublist.cons))) ?_) | (refine bar_f hS ?_) | (refine drawf TB_ok rfl (by kernel_rfl) (by kernel_rfl) hS (List.Sublist.refl _) (List.Sublist.refl _) ?_; intro w1 hS) | (refine br_t (by assumption) ?_) | (refine br_f (by assumption) ?_))
    refine loop_i TB_ok (fun t : Nat × List Sx => [(9, .int .i64 t.1)]) (fun t w' => t.1 ≤ i ∧ t.2.length = xs.length ∧ sink t.1 t.2 = sink i l ∧ ∃ Lv', Sl 44 3 (.slice A xs.length c) xs.length (flat encX t.2) Lv' ∧ Sf M w w' (Lv' ++ []) []) (fun t => t.1) (i, l) rfl ⟨Nat.le_refl _, hll, rfl, Lv2, hv, hS⟩ ?_
    rintro ⟨j, m⟩ us3 w3 ⟨hj, hml, hsk, Lv3, hv, hS⟩
    simp only at hj hml hsk hv hS ⊢
    have hend : ∀ (w4 : World), sink j m = m → Sf M w w4 (Lv3 ++ []) [] → isF (xs.length - (i + 1)) (i + 1) m = isF (xs.length - 1) 1 xs := fun w4 he _ => by
      rw [← hF, show xs.length - i = (xs.length - (i + 1)) + 1 from by omega]
      show _ = isF _ (i + 1) (sink i l)
      rw [← hsk, he]
    by_cases h0 : 0 < j
    · have g0 : decide ((0 : Int) < (j : Int)) = true := decide_eq_true (by omega)
      obtain ⟨k, rfl⟩ : ∃ k, j = k + 1 := ⟨j - 1, by omega⟩
      have hk1 : k + 1 < m.length := by omega
      have hk0 : k < m.length := by omega
      have hw : IntKind.i64.wrap (((k + 1 : Nat) : Int) - 1) = (k : Int) := by rw [wrap_i64 (by omega) (by omega)]; omega
      have hol := ord_lt m[k + 1] m[k]
      have hcl : ∀ w, Cv Tryd.prog (.func (.func 31) #[] #[]) [.agg (encX m[k + 1]).toArray, .agg (encX m[k]).toArray] w fun v w' => v = .int .i64 (ordI m[k + 1].r m[k + 1].n m[k].r m[k].n) ∧ St [] w w' [] := fun w => Cv.of_fc (sortCl_c m[k + 1] m[k] w)
      obtain ⟨x, off, rfl⟩ := (hv.rdF hS).form (by rw [← List.length_pos_iff, flat_length encX_len]; omega)
      cases hl : lessX m[k + 1] m[k] with
      | false =>
        rw [hl] at hol
        have hsm : sink (k + 1) m = m := by unfold sink; rw [dif_pos hk1, hl]; rfl
        repeat ((conv => whnf); first | (apply q_i; focus (intro w1 hS; (conv => whnf); first | exact ⟨rfl, rfl⟩)) | (refine nw_f hS ?_; intro b w1 hS) | (refine as_i hS ?_) | (refine as_i (hS.subs (List.nil_sublist _) (by repeat (first | exact List.Sublist.refl _ | apply List.Sublist.cons_cons | apply List.Sublist.cons))) ?_) | (refine as_i (hS.subs (List.Sublist.refl _) (by repeat (first | exact List.Sublist.refl _ | apply List.Sublist.cons_cons | apply List.Sublist.cons))) ?_) | (refine bar_f hS ?_) | (refine br_t (by assumption) ?_) | (refine br_f (by assumption) ?_))
        refine drawf (Ls := []) TB_ok rfl (by kernel_rfl) (by kernel_rfl) hS (List.Sublist.refl _) (List.Sublist.refl _) ?_; intro w1 hS
        repeat ((conv => whnf); first | (apply q_i; focus (intro w1 hS; (conv => whnf); first | exact ⟨rfl, rfl⟩ | ((refine .mk ⟨by omega, by omega⟩ ?_; refine ix_i rfl ?_); (conv => whnf); exact ⟨rfl, rfl⟩) | ((refine ldN_el encX_len (hv.rdF hS).at (i := k + 1) hk1 rfl rfl ?_); (conv => whnf); exact ⟨rfl, rfl⟩) | ((refine ldN_el encX_len (hv.rdF hS).at (i := k) hk0 (by show off + (IntKind.i64.wrap (((k + 1 : Nat) : Int) - 1)).toNat * 3 = off + k * 3; rw [hw]; rfl) rfl ?_); (conv => whnf); exact ⟨rfl, rfl⟩) | ((refine cv_i (Cv.mono (hcl _) ?_); rintro v w5 ⟨rfl, hS'⟩; replace hS := hS.call0 hS'); (conv => whnf); exact ⟨rfl, rfl⟩))) | (refine nw_f hS ?_; intro b w1 hS) | (refine as_i hS ?_) | (refine as_i (hS.subs (List.nil_sublist _) (by repeat (first | exact List.Sublist.refl _ | apply List.Sublist.cons_cons | apply List.Sublist.cons))) ?_) | (refine as_i (hS.subs (List.Sublist.refl _) (by repeat (first | exact List.Sublist.refl _ | apply List.Sublist.cons_cons | apply List.Sublist.cons))) ?_) | (refine bar_f hS ?_) | (refine .mk ⟨by omega, by omega⟩ ?_; refine ix_i rfl ?_) | (refine ldN_el encX_len (hv.rdF hS).at (i := k + 1) hk1 rfl rfl ?_) | (refine ldN_el encX_len (hv.rdF hS).at (i := k) hk0 (by show off + (IntKind.i64.wrap (((k + 1 : Nat) : Int) - 1)).toNat * 3 = off + k * 3; rw [hw]; rfl) rfl ?_) | (refine cv_i (Cv.mono (hcl _) ?_); rintro v w5 ⟨rfl, hS'⟩; replace hS := hS.call0 hS') | (refine drawf TB_ok rfl (by kernel_rfl) (by kernel_rfl) hS (List.Sublist.refl _) (List.Sublist.refl _) ?_; intro w1 hS) | (refine br_t (by assumption) ?_) | (refine br_f (by assumption) ?_))
        refine ⟨rfl, (i + 1, m), ?_, ⟨by show 1 ≤ i + 1; omega, by show i + 1 ≤ _; omega, hml, hend _ hsm hS, Lv3, hv, hS⟩, by show xs.length + 1 - (i + 1) < _; omega⟩
        rw [wi hlt (by omega)]
        rfl
      | true =>
        rw [hl] at hol
        have hsm : sink (k + 1) m = sink k (swp m (k + 1) hk1) := by conv => lhs; unfold sink; rw [dif_pos hk1, hl, if_pos rfl]
        repeat ((conv => whnf); first | (apply q_i; focus (intro w1 hS; (conv => whnf); first | exact ⟨rfl, rfl⟩)) | (refine nw_f hS ?_; intro b w1 hS) | (refine as_i hS ?_) | (refine as_i (hS.subs (List.nil_sublist _) (by repeat (first | exact List.Sublist.refl _ | apply List.Sublist.cons_cons | apply List.Sublist.cons))) ?_) | (refine as_i (hS.subs (List.Sublist.refl _) (by repeat (first | exact List.Sublist.refl _ | apply List.Sublist.cons_cons | apply List.Sublist.cons))) ?_) | (refine bar_f hS ?_) | (refine br_t (by assumption) ?_) | (refine br_f (by assumption) ?_))
        refine drawf (Ls := []) TB_ok rfl (by kernel_rfl) (by kernel_rfl) hS (List.Sublist.refl _) (List.Sublist.refl _) ?_; intro w1 hS
        repeat ((conv => whnf); first | (apply q_i; focus (intro w1 hS; (conv => whnf); first | exact ⟨rfl, rfl⟩ | ((refine .mk ⟨by omega, by omega⟩ ?_; refine ix_i rfl ?_); (conv => whnf); exact ⟨rfl, rfl⟩) | ((refine ldN_el encX_len (hv.rdF hS).at (i := k + 1) hk1 rfl rfl ?_); (conv => whnf); exact ⟨rfl, rfl⟩) | ((refine ldN_el encX_len (hv.rdF hS).at (i := k) hk0 (by show off + (IntKind.i64.wrap (((k + 1 : Nat) : Int) - 1)).toNat * 3 = off + k * 3; rw [hw]; rfl) rfl ?_); (conv => whnf); exact ⟨rfl, rfl⟩) | ((refine cv_i (Cv.mono (hcl _) ?_); rintro v w5 ⟨rfl, hS'⟩; replace hS := hS.call0 hS'); (conv => whnf); exact ⟨rfl, rfl⟩))) | (refine nw_f hS ?_; intro b w1 hS) | (refine as_i hS ?_) | (refine as_i (hS.subs (List.nil_sublist _) (by repeat (first | exact List.Sublist.refl _ | apply List.Sublist.cons_cons | apply List.Sublist.cons))) ?_) | (refine as_i (hS.subs (List.Sublist.refl _) (by repeat (first | exact List.Sublist.refl _ | apply List.Sublist.cons_cons | apply List.Sublist.cons))) ?_) | (refine bar_f hS ?_) | (refine .mk ⟨by omega, by omega⟩ ?_; refine ix_i rfl ?_) | (refine ldN_el encX_len (hv.rdF hS).at (i := k + 1) hk1 rfl rfl ?_) | (refine ldN_el encX_len (hv.rdF hS).at (i := k) hk0 (by show off + (IntKind.i64.wrap (((k + 1 : Nat) : Int) - 1)).toNat * 3 = off + k * 3; rw [hw]; rfl) rfl ?_) | (refine cv_i (Cv.mono (hcl _) ?_); rintro v w5 ⟨rfl, hS'⟩; replace hS := hS.call0 hS') | (refine br_t (by assumption) ?_) | (refine br_f (by assumption) ?_))
        refine drawf (Ls := []) TB_ok rfl (by kernel_rfl) (by kernel_rfl) hS (List.Sublist.refl _) (List.Sublist.refl _) ?_; intro w1 hS
        repeat ((conv => whnf); first | (apply q_i; focus (intro w1 hS; (conv => whnf); first | exact ⟨rfl, rfl⟩ | ((refine .mk ⟨by omega, by omega⟩ ?_; refine ix_i rfl ?_); (conv => whnf); exact ⟨rfl, rfl⟩) | ((refine ldN_el encX_len (hv.rdF hS).at (i := k + 1) hk1 rfl rfl ?_); (conv => whnf); exact ⟨rfl, rfl⟩) | ((refine ldN_el encX_len (hv.rdF hS).at (i := k) hk0 (by show off + (IntKind.i64.wrap (((k + 1 : Nat) : Int) - 1)).toNat * 3 = off + k * 3; rw [hw]; rfl) rfl ?_); (conv => whnf); exact ⟨rfl, rfl⟩) | ((refine stE_sl encX_len hml.symm hv hS (k + 1) hk1 m[k] rfl rfl rfl ?_; intro w8 Lv8 hv hS); (conv => whnf); exact ⟨rfl, rfl⟩) | ((refine stE_sl encX_len (by rw [List.length_set, hml]) hv hS (k + 1) (by rw [List.length_set]; exact hk1) m[k] rfl rfl rfl ?_; intro w8 Lv8 hv hS); (conv => whnf); exact ⟨rfl, rfl⟩) | ((refine stE_sl encX_len hml.symm hv hS k hk0 m[k + 1] (by show off + (IntKind.i64.wrap (((k + 1 : Nat) : Int) - 1)).toNat * 3 = off + k * 3; rw [hw]; rfl) rfl rfl ?_; intro w8 Lv8 hv hS); (conv => whnf); exact ⟨rfl, rfl⟩) | ((refine stE_sl encX_len (by rw [List.length_set, hml]) hv hS k (by rw [List.length_set]; exact hk0) m[k + 1] (by show off + (IntKind.i64.wrap (((k + 1 : Nat) : Int) - 1)).toNat * 3 = off + k * 3; rw [hw]; rfl) rfl rfl ?_; intro w8 Lv8 hv hS); (conv => whnf); exact ⟨rfl, rfl⟩))) | (refine nw_f hS ?_; intro b w1 hS) | (refine as_i hS ?_) | (refine as_i (hS.subs (List.nil_sublist _) (by repeat (first | exact List.Sublist.refl _ | apply List.Sublist.cons_cons | apply List.Sublist.cons))) ?_) | (refine as_i (hS.subs (List.Sublist.refl _) (by repeat (first | exact List.Sublist.refl _ | apply List.Sublist.cons_cons | apply List.Sublist.cons))) ?_) | (refine bar_f hS ?_) | (refine .mk ⟨by omega, by omega⟩ ?_; refine ix_i rfl ?_) | (refine ldN_el encX_len (hv.rdF hS).at (i := k + 1) hk1 rfl rfl ?_) | (refine ldN_el encX_len (hv.rdF hS).at (i := k) hk0 (by show off + (IntKind.i64.wrap (((k + 1 : Nat) : Int) - 1)).toNat * 3 = off + k * 3; rw [hw]; rfl) rfl ?_) | (refine stE_sl encX_len hml.symm hv hS (k + 1) hk1 m[k] rfl rfl rfl ?_; intro w8 Lv8 hv hS) | (refine stE_sl encX_len (by rw [List.length_set, hml]) hv hS (k + 1) (by rw [List.length_set]; exact hk1) m[k] rfl rfl rfl ?_; intro w8 Lv8 hv hS) | (refine stE_sl encX_len hml.symm hv hS k hk0 m[k + 1] (by show off + (IntKind.i64.wrap (((k + 1 : Nat) : Int) - 1)).toNat * 3 = off + k * 3; rw [hw]; rfl) rfl rfl ?_; intro w8 Lv8 hv hS) | (refine stE_sl encX_len (by rw [List.length_set, hml]) hv hS k (by rw [List.length_set]; exact hk0) m[k + 1] (by show off + (IntKind.i64.wrap (((k + 1 : Nat) : Int) - 1)).toNat * 3 = off + k * 3; rw [hw]; rfl) rfl rfl ?_; intro w8 Lv8 hv hS) | (refine drawf TB_ok rfl (by kernel_rfl) (by kernel_rfl) hS (List.Sublist.refl _) (List.Sublist.refl _) ?_; intro w1 hS) | (refine br_t (by assumption) ?_) | (refine br_f (by assumption) ?_))
        refine ⟨rfl, (k, swp m (k + 1) hk1), ?_, ⟨by show k ≤ i; omega, by show (swp m (k + 1) hk1).length = _; rw [swp_len]; exact hml, by show sink k (swp m (k + 1) hk1) = _; rw [← hsm]; exact hsk, Lv8, hv, hS⟩, by show k < k + 1; omega⟩
        rw [hw]
        rfl
    · have g0 : decide ((0 : Int) < (j : Int)) = false := decide_eq_false (by omega)
      obtain rfl : j = 0 := by omega
      repeat ((conv => whnf); first | (apply q_i; focus (intro w1 hS; (conv => whnf); first | exact ⟨rfl, rfl⟩)) | (refine nw_f hS ?_; intro b w1 hS) | (refine as_i hS ?_) | (refine as_i (hS.subs (List.nil_sublist _) (by repeat (first | exact List.Sublist.refl _ | apply List.Sublist.cons_cons | apply List.Sublist.cons))) ?_) | (refine as_i (hS.subs (List.Sublist.refl _) (by repeat (first | exact List.Sublist.refl _ | apply List.Sublist.cons_cons | apply List.Sublist.cons))) ?_) | (refine bar_f hS ?_) | (refine br_t (by assumption) ?_) | (refine br_f (by assumption) ?_))
      refine drawf (Ls := []) TB_ok rfl (by kernel_rfl) (by kernel_rfl) hS (List.Sublist.refl _) (List.Sublist.refl _) ?_; intro w1 hS
      repeat ((conv => whnf); first | (apply q_i; focus (intro w1 hS; (conv => whnf); first | exact ⟨rfl, rfl⟩)) | (refine nw_f hS ?_; intro b w1 hS) | (refine as_i hS ?_) | (refine as_i (hS.subs (List.nil_sublist _) (by repeat (first | exact List.Sublist.refl _ | apply List.Sublist.cons_cons | apply List.Sublist.cons))) ?_) | (refine as_i (hS.subs (List.Sublist.refl _) (by repeat (first | exact List.Sublist.refl _ | apply List.Sublist.cons_cons | apply List.Sublist.cons))) ?_) | (refine bar_f hS ?_) | (refine drawf TB_ok rfl (by kernel_rfl) (by kernel_rfl) hS (List.Sublist.refl _) (List.Sublist.refl _) ?_; intro w1 hS) | (refine br_t (by assumption) ?_) | (refine br_f (by assumption) ?_))
      refine ⟨rfl, (i + 1, m), ?_, ⟨by show 1 ≤ i + 1; omega, by show i + 1 ≤ _; omega, hml, hend _ rfl hS, Lv3, hv, hS⟩, by show xs.length + 1 - (i + 1) < _; omega⟩
      rw [wi hlt (by omega)]
      rfl
  · have h1 : decide ((i : Int) < (xs.length : Int)) = false := decide_eq_false (by omega)
    rw [show xs.length - i = 0 from by omega] at hF
    have hF : l = isF (xs.length - 1) 1 xs := hF
    subst hF
    repeat ((conv => whnf); first | (apply q_i; focus (intro w1 hS; (conv => whnf); first | exact ⟨rfl, rfl⟩)) | (refine nw_f hS ?_; intro b w1 hS) | (refine as_i hS ?_) | (refine as_i (hS.subs (List.nil_sublist _) (by repeat (first | exact List.Sublist.refl _ | apply List.Sublist.cons_cons | apply List.Sublist.cons))) ?_) | (refine as_i (hS.subs (List.Sublist.refl _) (by repeat (first | exact List.Sublist.refl _ | apply List.Sublist.cons_cons | apply List.Sublist.cons))) ?_) | (refine bar_f hS ?_) | (refine drawf TB_ok rfl (by kernel_rfl) (by kernel_rfl) hS (List.Sublist.refl _) (List.Sublist.refl _) ?_; intro w1 hS) | (refine br_t (by assumption) ?_) | (refine br_f (by assumption) ?_))
    exact ⟨Lv2, hv, by simpa using hS.fr (List.Sublist.refl _)⟩
theorem pdq_c (A : Option Addr) (c : Nat) (xs : List Sx) (lim : Int) (Lv : LM) (w : World) (hv : Sl 44 3 (.slice A xs.length c) xs.length (flat encX xs) Lv) (hS : St (keys Lv) w w Lv) (hn : xs.length ≤ 12) :
    Fc Tryd.prog 54 [.slice A xs.length c, .int .i64 0, .int .i64 xs.length, .int .i64 lim, .func (.func 31) #[] #[]] w fun v w' => ∃ Lv', Sl 44 3 (.slice A xs.length c) xs.length (flat encX (isF (xs.length - 1) 1 xs)) Lv' ∧ St (keys Lv) w w' Lv' := by
  refine fc_i TB_ok Tryd.func54 rfl (by kernel_rfl) ?_
  replace hS : Sf (keys Lv) w w (Lv ++ []) [] := ⟨by simpa using hS⟩
  generalize hM : keys Lv = M at *
  have hw1 : IntKind.i64.wrap ((xs.length : Int) - 0) = xs.length := by rw [wrap_i64 (by omega) (by omega)]; omega
  have h12 : decide (IntKind.i64.wrap ((xs.length : Int) - 0) ≤ 12) = true := decide_eq_true (by omega)
  repeat ((conv => whnf); first | (apply q_i; focus (intro w1 hS; (conv => whnf); first | exact ⟨rfl, rfl⟩)) | (refine nw_f hS ?_; intro b w1 hS) | (refine as_i hS ?_) | (refine as_i (hS.subs (List.nil_sublist _) (by repeat (first | exact List.Sublist.refl _ | apply List.Sublist.cons_cons | apply List.Sublist.cons))) ?_) | (refine as_i (hS.subs (List.Sublist.refl _) (by repeat (first | exact List.Sublist.refl _ | apply List.Sublist.cons_cons | apply List.Sublist.cons))) ?_) | (refine bar_f hS ?_) | (refine drawf TB_ok rfl (by kernel_rfl) (by kernel_rfl) hS (List.Sublist.refl _) (List.Sublist.refl _) ?_; intro w1 hS) | (refine br_t (by assumption) ?_) | (refine br_f (by assumption) ?_))
  refine loop_i TB_ok (fun _ : Unit => [(1, .int .i64 0), (2, .int .i64 xs.length), (3, .int .i64 lim)]) (fun _ w' => Sf M w w' (Lv ++ []) []) (fun _ => 0) () rfl hS ?_
  rintro _ us w2 hS
  repeat ((conv => whnf); first | (apply q_i; focus (intro w1 hS; (conv => whnf); first | exact ⟨rfl, rfl⟩)) | (refine nw_f hS ?_; intro b w1 hS) | (refine as_i hS ?_) | (refine as_i (hS.subs (List.nil_sublist _) (by repeat (first | exact List.Sublist.refl _ | apply List.Sublist.cons_cons | apply List.Sublist.cons))) ?_) | (refine as_i (hS.subs (List.Sublist.refl _) (by repeat (first | exact List.Sublist.refl _ | apply List.Sublist.cons_cons | apply List.Sublist.cons))) ?_) | (refine bar_f hS ?_) | (refine drawf TB_ok rfl (by kernel_rfl) (by kernel_rfl) hS (List.Sublist.refl _) (List.Sublist.refl _) ?_; intro w1 hS) | (refine br_t (by assumption) ?_) | (refine br_f (by assumption) ?_))
  refine fc_m (isort_c A c xs Lv _ hv hS.ownF (by omega)) ?_
  rintro v w3 ⟨Lv', hv', hS'⟩
  replace hS := hS.callW hS'
  repeat ((conv => whnf); first | (apply q_i; focus (intro w1 hS; (conv => whnf); first | exact ⟨rfl, rfl⟩)) | (refine nw_f hS ?_; intro b w1 hS) | (refine as_i hS ?_) | (refine as_i (hS.subs (List.nil_sublist _) (by repeat (first | exact List.Sublist.refl _ | apply List.Sublist.cons_cons | apply List.Sublist.cons))) ?_) | (refine as_i (hS.subs (List.Sublist.refl _) (by repeat (first | exact List.Sublist.refl _ | apply List.Sublist.cons_cons | apply List.Sublist.cons))) ?_) | (refine bar_f hS ?_) | (refine drawf TB_ok rfl (by kernel_rfl) (by kernel_rfl) hS (List.Sublist.refl _) (List.Sublist.refl _) ?_; intro w1 hS) | (refine br_t (by assumption) ?_) | (refine br_f (by assumption) ?_))
  exact ⟨Lv', hv', by simpa using hS.fr (List.Sublist.refl _)⟩
theorem len64_c (n : Nat) (hn : n ≤ 12) (w : World) : Fc Tryd.prog 82 [.int .u64 n] w fun v w' => (∃ k, v = .int .i64 k) ∧ St [] w w' [] := by
  refine fc_i TB_ok Tryd.func82 rfl (by kernel_rfl) ?_
  have hS := Sf.refl w
  rcases (show n = 0 ∨ n = 1 ∨ n = 2 ∨ n = 3 ∨ n = 4 ∨ n = 5 ∨ n = 6 ∨ n = 7 ∨ n = 8 ∨ n = 9 ∨ n = 10 ∨ n = 11 ∨ n = 12 by omega) with rfl | rfl | rfl | rfl | rfl | rfl | rfl | rfl | rfl | rfl | rfl | rfl | rfl
  all_goals
    repeat ((conv => whnf); first | (apply q_i; focus (intro w1 hS; (conv => whnf); first | exact ⟨rfl, rfl⟩ | ((refine .mk ⟨by decide, by decide⟩ ?_); (conv => whnf); exact ⟨rfl, rfl⟩))) | (refine nw_f hS ?_; intro b w1 hS) | (refine as_i hS ?_) | (refine as_i (hS.subs (List.nil_sublist _) (by repeat (first | exact List.Sublist.refl _ | apply List.Sublist.cons_cons | apply List.Sublist.cons))) ?_) | (refine as_i (hS.subs (List.Sublist.refl _) (by repeat (first | exact List.Sublist.refl _ | apply List.Sublist.cons_cons | apply List.Sublist.cons))) ?_) | (refine bar_f hS ?_) | (refine .mk ⟨by decide, by decide⟩ ?_) | (refine drawf TB_ok rfl (by kernel_rfl) (by kernel_rfl) hS (List.Sublist.refl _) (List.Sublist.refl _) ?_; intro w1 hS) | (refine br_t (by assumption) ?_) | (refine br_f (by assumption) ?_))
    exact ⟨⟨_, rfl⟩, hS.nil⟩
theorem len_c (n : Nat) (hn : n ≤ 12) (w : World) : Fc Tryd.prog 55 [.int .u64 n] w fun v w' => (∃ k, v = .int .i64 k) ∧ St [] w w' [] := by
  refine fc_i TB_ok Tryd.func55 rfl (by kernel_rfl) ?_
  have hS := Sf.refl w
  repeat ((conv => whnf); first | (apply q_i; focus (intro w1 hS; (conv => whnf); first | exact ⟨rfl, rfl⟩)) | (refine nw_f hS ?_; intro b w1 hS) | (refine as_i hS ?_) | (refine as_i (hS.subs (List.nil_sublist _) (by repeat (first | exact List.Sublist.refl _ | apply List.Sublist.cons_cons | apply List.Sublist.cons))) ?_) | (refine as_i (hS.subs (List.Sublist.refl _) (by repeat (first | exact List.Sublist.refl _ | apply List.Sublist.cons_cons | apply List.Sublist.cons))) ?_) | (refine bar_f hS ?_) | (refine drawf TB_ok rfl (by kernel_rfl) (by kernel_rfl) hS (List.Sublist.refl _) (List.Sublist.refl _) ?_; intro w1 hS) | (refine br_t (by assumption) ?_) | (refine br_f (by assumption) ?_))
  refine fc_m (len64_c n hn _) ?_; rintro v w1 ⟨⟨k, rfl⟩, hS'⟩; replace hS := hS.call0 hS'
  repeat ((conv => whnf); first | (apply q_i; focus (intro w1 hS; (conv => whnf); first | exact ⟨rfl, rfl⟩)) | (refine nw_f hS ?_; intro b w1 hS) | (refine as_i hS ?_) | (refine as_i (hS.subs (List.nil_sublist _) (by repeat (first | exact List.Sublist.refl _ | apply List.Sublist.cons_cons | apply List.Sublist.cons))) ?_) | (refine as_i (hS.subs (List.Sublist.refl _) (by repeat (first | exact List.Sublist.refl _ | apply List.Sublist.cons_cons | apply List.Sublist.cons))) ?_) | (refine bar_f hS ?_) | (refine drawf TB_ok rfl (by kernel_rfl) (by kernel_rfl) hS (List.Sublist.refl _) (List.Sublist.refl _) ?_; intro w1 hS) | (refine br_t (by assumption) ?_) | (refine br_f (by assumption) ?_))
  exact ⟨⟨_, rfl⟩, hS.nil⟩
theorem sort_c (A : Option Addr) (c : Nat) (xs : List Sx) (Lv : LM) (w : World) (hv : Sl 44 3 (.slice A xs.length c) xs.length (flat encX xs) Lv) (hS : St (keys Lv) w w Lv) (hn : xs.length ≤ 12) :
    Fc Tryd.prog 30 [.slice A xs.length c, .func (.func 31) #[] #[]] w fun v w' => ∃ Lv', Sl 44 3 (.slice A xs.length c) xs.length (flat encX (isF (xs.length - 1) 1 xs)) Lv' ∧ St (keys Lv) w w' Lv' := by
  refine fc_i TB_ok Tryd.func30 rfl (by kernel_rfl) ?_
  replace hS : Sf (keys Lv) w w (Lv ++ []) [] := ⟨by simpa using hS⟩
  generalize hM : keys Lv = M at *
  repeat ((conv => whnf); first | (apply q_i; focus (intro w1 hS; (conv => whnf); first | exact ⟨rfl, rfl⟩)) | (refine nw_f hS ?_; intro b w1 hS) | (refine as_i hS ?_) | (refine as_i (hS.subs (List.nil_sublist _) (by repeat (first | exact List.Sublist.refl _ | apply List.Sublist.cons_cons | apply List.Sublist.cons))) ?_) | (refine as_i (hS.subs (List.Sublist.refl _) (by repeat (first | exact List.Sublist.refl _ | apply List.Sublist.cons_cons | apply List.Sublist.cons))) ?_) | (refine bar_f hS ?_) | (refine drawf TB_ok rfl (by kernel_rfl) (by kernel_rfl) hS (List.Sublist.refl _) (List.Sublist.refl _) ?_; intro w1 hS) | (refine br_t (by assumption) ?_) | (refine br_f (by assumption) ?_))
  have hw : IntKind.u64.wrap (xs.length : Int) = xs.length := by
    unfold IntKind.wrap IntKind.bits IntKind.signed
    simp only [Bool.false_and, Bool.false_eq_true, if_false]
    omega
  have hl := fun w => len_c xs.length hn w
  rw [← hw] at hl
  refine fc_m (hl _) ?_; rintro v w1 ⟨⟨k, rfl⟩, hS'⟩; replace hS := hS.call0 hS'
  repeat ((conv => whnf); first | (apply q_i; focus (intro w1 hS; (conv => whnf); first | exact ⟨rfl, rfl⟩)) | (refine nw_f hS ?_; intro b w1 hS) | (refine as_i hS ?_) | (refine as_i (hS.subs (List.nil_sublist _) (by repeat (first | exact List.Sublist.refl _ | apply List.Sublist.cons_cons | apply List.Sublist.cons))) ?_) | (refine as_i (hS.subs (List.Sublist.refl _) (by repeat (first | exact List.Sublist.refl _ | apply List.Sublist.cons_cons | apply List.Sublist.cons))) ?_) | (refine bar_f hS ?_) | (refine drawf TB_ok rfl (by kernel_rfl) (by kernel_rfl) hS (List.Sublist.refl _) (List.Sublist.refl _) ?_; intro w1 hS) | (refine br_t (by assumption) ?_) | (refine br_f (by assumption) ?_))
  refine fc_m (pdq_c A c xs k Lv _ hv hS.ownF hn) ?_
  rintro v w3 ⟨Lv', hv', hS'⟩
  replace hS := hS.callW hS'
  repeat ((conv => whnf); first | (apply q_i; focus (intro w1 hS; (conv => whnf); first | exact ⟨rfl, rfl⟩)) | (refine nw_f hS ?_; intro b w1 hS) | (refine as_i hS ?_) | (refine as_i (hS.subs (List.nil_sublist _) (by repeat (first | exact List.Sublist.refl _ | apply List.Sublist.cons_cons | apply List.Sublist.cons))) ?_) | (refine as_i (hS.subs (List.Sublist.refl _) (by repeat (first | exact List.Sublist.refl _ | apply List.Sublist.cons_cons | apply List.Sublist.cons))) ?_) | (refine bar_f hS ?_) | (refine drawf TB_ok rfl (by kernel_rfl) (by kernel_rfl) hS (List.Sublist.refl _) (List.Sublist.refl _) ?_; intro w1 hS) | (refine br_t (by assumption) ?_) | (refine br_f (by assumption) ?_))
  exact ⟨Lv', hv', by simpa using hS.fr (List.Sublist.refl _)⟩
end Go.RV
