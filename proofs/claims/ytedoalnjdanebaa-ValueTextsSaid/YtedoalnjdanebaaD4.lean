/- Contracts of functions of chapter 7: what is taken. Conditions: none. -/
import Derived.Test.YtedoalnjdanebaaD3
set_option maxRecDepth 20000
set_option linter.unusedVariables false
set_option linter.unusedSimpArgs false
namespace Go.RV
open Go Go.Proofs

def tellS (s : RS) : RS × Int × Int := if numF 0 (fixedR s (1 : Nat)).1 = 0 then ((fixedR (fixedR s (1 : Nat)).2 (2 : Nat)).2, 0, numF 0 (fixedR (fixedR s (1 : Nat)).2 (2 : Nat)).1) else ((fixedR s (1 : Nat)).2, numF 0 (fixedR s (1 : Nat)).1, 0)
def tellR (t : RS × Int × Int) : Bool × Int × Int := if t.1.e ≠ 0 then (false, 0, t.1.e) else if 1 < t.2.1 ∨ 256 < t.2.2 then (false, 0, 4) else (t.2.1 == 1, t.2.2, 0)
theorem tell_c (br : Nat) (s : RS) (w : World) (hS : St [br] w w [(br, rdO s)]) :
    Fc Try.prog 44 [.pointer (some ⟨br, 0, none⟩)] w fun v w' => v = .tuple #[.bool (tellR (tellS s)).1, .int .i64 (tellR (tellS s)).2.1, .int .i64 (tellR (tellS s)).2.2] ∧ St [br] w w' [(br, rdO (tellS s).1)] := by
  refine fc_i TB_ok Try.func44 rfl (by kernel_rfl) ?_
  have hS : Sf [br] w w ([(br, rdO s)] ++ []) [] := ⟨hS⟩
  repeat ((conv => whnf); first | (refine nw_f hS ?_; intro b w1 hS) | (refine as_i hS ?_) | (refine as_i (hS.subs (List.nil_sublist _) (by repeat (first | exact List.Sublist.refl _ | apply List.Sublist.cons_cons | apply List.Sublist.cons))) ?_) | (refine bar_f hS ?_) | (refine drawf TB_ok rfl (by kernel_rfl) (by kernel_rfl) hS (List.Sublist.refl _) (List.Sublist.refl _) ?_; intro w1 hS) | (refine br_t (by assumption) ?_) | (refine br_f (by assumption) ?_) | (apply q_i; focus (intro w1 hS; (conv => whnf); first | exact ⟨rfl, rfl⟩)))
  refine fc_m (r8_c br s _ hS.ownF) ?_
  rintro v w1 ⟨rfl, hS'⟩
  replace hS := hS.callW hS'
  have hnl := numF_lt s 1
  rw [show (256 : Int) ^ 1 = 256 from by decide] at hnl
  have hw8 : IntKind.u8.wrap (numF 0 (fixedR s 1).1) = numF 0 (fixedR s (1 : Nat)).1 := wrap_u8 hnl.1 hnl.2
  rw [hw8]
  replace hS : Sf [br] w w1 ([(br, rdO (fixedR s (1 : Nat)).2)] ++ []) [] := hS
  unfold tellS
  generalize numF 0 (fixedR s (1 : Nat)).1 = k at *
  generalize (fixedR s (1 : Nat)).2 = s1 at *
  have fin : ∀ (t : RS × Int × Int) (w' : World), St [br] w w' [(br, rdO t.1)] → Sf [br] w w' ([(br, rdO t.1)] ++ []) [] := fun t w' h => ⟨by simpa using h⟩
  repeat ((conv => whnf); first | (refine nw_f hS ?_; intro b w1 hS) | (refine as_i hS ?_) | (refine as_i (hS.subs (List.nil_sublist _) (by repeat (first | exact List.Sublist.refl _ | apply List.Sublist.cons_cons | apply List.Sublist.cons))) ?_) | (refine bar_f hS ?_) | (refine drawf TB_ok rfl (by kernel_rfl) (by kernel_rfl) hS (List.Sublist.refl _) (List.Sublist.refl _) ?_; intro w1 hS) | (refine br_t (by assumption) ?_) | (refine br_f (by assumption) ?_) | (apply q_i; focus (intro w1 hS; (conv => whnf); first | exact ⟨rfl, rfl⟩)))
  refine br_i (fun h0 => ?_) (fun h0 => ?_)
  · have hk : k = 0 := by simpa using h0
    rw [if_pos hk]
    repeat ((conv => whnf); first | (refine nw_f hS ?_; intro b w1 hS) | (refine as_i hS ?_) | (refine as_i (hS.subs (List.nil_sublist _) (by repeat (first | exact List.Sublist.refl _ | apply List.Sublist.cons_cons | apply List.Sublist.cons))) ?_) | (refine bar_f hS ?_) | (refine drawf TB_ok rfl (by kernel_rfl) (by kernel_rfl) hS (List.Sublist.refl _) (List.Sublist.refl _) ?_; intro w1 hS) | (refine br_t (by assumption) ?_) | (refine br_f (by assumption) ?_) | (apply q_i; focus (intro w1 hS; (conv => whnf); first | exact ⟨rfl, rfl⟩)))
    refine fc_m (r16_c br s1 _ hS.ownF) ?_
    rintro v w2 ⟨rfl, hS'⟩
    replace hS := hS.callW hS'
    have hnl2 := numF_lt s1 2
    rw [show (256 : Int) ^ 2 = 65536 from by decide] at hnl2
    have hw16 : IntKind.u16.wrap (numF 0 (fixedR s1 2).1) = numF 0 (fixedR s1 (2 : Nat)).1 := by
      show IntKind.u16.wrap (numF 0 (fixedR s1 (2 : Nat)).1) = _
      rw [wrap_u16_mod, Int.emod_eq_of_lt hnl2.1 hnl2.2]
    replace hS : Sf [br] w w2 ([(br, rdO (fixedR s1 (2 : Nat)).2)] ++ []) [] := hS
    rw [hw16]
    generalize numF 0 (fixedR s1 (2 : Nat)).1 = sz at *
    generalize (fixedR s1 (2 : Nat)).2 = s2 at *
    subst hk
    have hwz : IntKind.i64.wrap sz = sz := wrap_i64 (by omega) (by omega)
    repeat ((conv => whnf); first | (refine nw_f hS ?_; intro b w1 hS) | (refine as_i hS ?_) | (refine as_i (hS.subs (List.nil_sublist _) (by repeat (first | exact List.Sublist.refl _ | apply List.Sublist.cons_cons | apply List.Sublist.cons))) ?_) | (refine bar_f hS ?_) | (refine drawf TB_ok rfl (by kernel_rfl) (by kernel_rfl) hS (List.Sublist.refl _) (List.Sublist.refl _) ?_; intro w1 hS) | (refine br_t (by assumption) ?_) | (refine br_f (by assumption) ?_) | (apply q_i; focus (intro w1 hS; (conv => whnf); first | exact ⟨rfl, rfl⟩)))
    refine fc_m (rerr_c br s2 _ hS.ownF) ?_
    rintro v w3 ⟨rfl, hS'⟩
    replace hS := hS.call0 hS'
    unfold tellR
    simp only
    repeat ((conv => whnf); first | (refine nw_f hS ?_; intro b w1 hS) | (refine as_i hS ?_) | (refine as_i (hS.subs (List.nil_sublist _) (by repeat (first | exact List.Sublist.refl _ | apply List.Sublist.cons_cons | apply List.Sublist.cons))) ?_) | (refine bar_f hS ?_) | (refine drawf TB_ok rfl (by kernel_rfl) (by kernel_rfl) hS (List.Sublist.refl _) (List.Sublist.refl _) ?_; intro w1 hS) | (refine br_t (by assumption) ?_) | (refine br_f (by assumption) ?_) | (apply q_i; focus (intro w1 hS; (conv => whnf); first | exact ⟨rfl, rfl⟩)))
    refine br_i (fun h1 => ?_) (fun h1 => ?_)
    · have he : s2.e ≠ 0 := by simpa using h1
      repeat ((conv => whnf); first | (refine nw_f hS ?_; intro b w1 hS) | (refine as_i hS ?_) | (refine as_i (hS.subs (List.nil_sublist _) (by repeat (first | exact List.Sublist.refl _ | apply List.Sublist.cons_cons | apply List.Sublist.cons))) ?_) | (refine bar_f hS ?_) | (refine drawf TB_ok rfl (by kernel_rfl) (by kernel_rfl) hS (List.Sublist.refl _) (List.Sublist.refl _) ?_; intro w1 hS) | (refine br_t (by assumption) ?_) | (refine br_f (by assumption) ?_) | (apply q_i; focus (intro w1 hS; (conv => whnf); first | exact ⟨rfl, rfl⟩)))
      refine fc_m (rerr_c br s2 _ hS.ownF) ?_
      rintro v w4 ⟨rfl, hS'⟩
      replace hS := hS.call0 hS'
      repeat ((conv => whnf); first | (refine nw_f hS ?_; intro b w1 hS) | (refine as_i hS ?_) | (refine as_i (hS.subs (List.nil_sublist _) (by repeat (first | exact List.Sublist.refl _ | apply List.Sublist.cons_cons | apply List.Sublist.cons))) ?_) | (refine bar_f hS ?_) | (refine drawf TB_ok rfl (by kernel_rfl) (by kernel_rfl) hS (List.Sublist.refl _) (List.Sublist.refl _) ?_; intro w1 hS) | (refine br_t (by assumption) ?_) | (refine br_f (by assumption) ?_) | (apply q_i; focus (intro w1 hS; (conv => whnf); first | exact ⟨rfl, rfl⟩)))
      rw [if_pos he]
      exact ⟨rfl, by simpa using hS.st⟩
    have he : ¬ s2.e ≠ 0 := by simpa using h1
    rw [if_neg he]
    repeat ((conv => whnf); first | (refine nw_f hS ?_; intro b w1 hS) | (refine as_i hS ?_) | (refine as_i (hS.subs (List.nil_sublist _) (by repeat (first | exact List.Sublist.refl _ | apply List.Sublist.cons_cons | apply List.Sublist.cons))) ?_) | (refine bar_f hS ?_) | (refine drawf TB_ok rfl (by kernel_rfl) (by kernel_rfl) hS (List.Sublist.refl _) (List.Sublist.refl _) ?_; intro w1 hS) | (refine br_t (by assumption) ?_) | (refine br_f (by assumption) ?_) | (apply q_i; focus (intro w1 hS; (conv => whnf); first | exact ⟨rfl, rfl⟩)))
    refine br_i (fun h2 => ?_) (fun h2 => ?_)
    · have h2' : 256 < sz := by rw [hwz] at h2; exact of_decide_eq_true h2
      repeat ((conv => whnf); first | (refine nw_f hS ?_; intro b w1 hS) | (refine as_i hS ?_) | (refine as_i (hS.subs (List.nil_sublist _) (by repeat (first | exact List.Sublist.refl _ | apply List.Sublist.cons_cons | apply List.Sublist.cons))) ?_) | (refine bar_f hS ?_) | (refine drawf TB_ok rfl (by kernel_rfl) (by kernel_rfl) hS (List.Sublist.refl _) (List.Sublist.refl _) ?_; intro w1 hS) | (refine br_t (by assumption) ?_) | (refine br_f (by assumption) ?_) | (apply q_i; focus (intro w1 hS; (conv => whnf); first | exact ⟨rfl, rfl⟩)))
      rw [if_pos (.inr h2')]
      exact ⟨rfl, by simpa using hS.st⟩
    · have h2' : ¬ 256 < sz := by rw [hwz] at h2; exact of_decide_eq_false h2
      repeat ((conv => whnf); first | (refine nw_f hS ?_; intro b w1 hS) | (refine as_i hS ?_) | (refine as_i (hS.subs (List.nil_sublist _) (by repeat (first | exact List.Sublist.refl _ | apply List.Sublist.cons_cons | apply List.Sublist.cons))) ?_) | (refine bar_f hS ?_) | (refine drawf TB_ok rfl (by kernel_rfl) (by kernel_rfl) hS (List.Sublist.refl _) (List.Sublist.refl _) ?_; intro w1 hS) | (refine br_t (by assumption) ?_) | (refine br_f (by assumption) ?_) | (apply q_i; focus (intro w1 hS; (conv => whnf); first | exact ⟨rfl, rfl⟩)))
      rw [if_neg (by omega)]
      refine ⟨?_, by simpa using hS.st⟩
      show Value.tuple #[.bool (0 == 1), .int .i64 (IntKind.i64.wrap sz), .int .i64 0] = _
      rw [hwz]
  · have hk : ¬ k = 0 := by simpa using h0
    rw [if_neg hk]
    repeat ((conv => whnf); first | (refine nw_f hS ?_; intro b w1 hS) | (refine as_i hS ?_) | (refine as_i (hS.subs (List.nil_sublist _) (by repeat (first | exact List.Sublist.refl _ | apply List.Sublist.cons_cons | apply List.Sublist.cons))) ?_) | (refine bar_f hS ?_) | (refine drawf TB_ok rfl (by kernel_rfl) (by kernel_rfl) hS (List.Sublist.refl _) (List.Sublist.refl _) ?_; intro w1 hS) | (refine br_t (by assumption) ?_) | (refine br_f (by assumption) ?_) | (apply q_i; focus (intro w1 hS; (conv => whnf); first | exact ⟨rfl, rfl⟩)))
    refine fc_m (rerr_c br s1 _ hS.ownF) ?_
    rintro v w3 ⟨rfl, hS'⟩
    replace hS := hS.call0 hS'
    unfold tellR
    simp only
    repeat ((conv => whnf); first | (refine nw_f hS ?_; intro b w1 hS) | (refine as_i hS ?_) | (refine as_i (hS.subs (List.nil_sublist _) (by repeat (first | exact List.Sublist.refl _ | apply List.Sublist.cons_cons | apply List.Sublist.cons))) ?_) | (refine bar_f hS ?_) | (refine drawf TB_ok rfl (by kernel_rfl) (by kernel_rfl) hS (List.Sublist.refl _) (List.Sublist.refl _) ?_; intro w1 hS) | (refine br_t (by assumption) ?_) | (refine br_f (by assumption) ?_) | (apply q_i; focus (intro w1 hS; (conv => whnf); first | exact ⟨rfl, rfl⟩)))
    refine br_i (fun h1 => ?_) (fun h1 => ?_)
    · have he : s1.e ≠ 0 := by simpa using h1
      repeat ((conv => whnf); first | (refine nw_f hS ?_; intro b w1 hS) | (refine as_i hS ?_) | (refine as_i (hS.subs (List.nil_sublist _) (by repeat (first | exact List.Sublist.refl _ | apply List.Sublist.cons_cons | apply List.Sublist.cons))) ?_) | (refine bar_f hS ?_) | (refine drawf TB_ok rfl (by kernel_rfl) (by kernel_rfl) hS (List.Sublist.refl _) (List.Sublist.refl _) ?_; intro w1 hS) | (refine br_t (by assumption) ?_) | (refine br_f (by assumption) ?_) | (apply q_i; focus (intro w1 hS; (conv => whnf); first | exact ⟨rfl, rfl⟩)))
      refine fc_m (rerr_c br s1 _ hS.ownF) ?_
      rintro v w4 ⟨rfl, hS'⟩
      replace hS := hS.call0 hS'
      repeat ((conv => whnf); first | (refine nw_f hS ?_; intro b w1 hS) | (refine as_i hS ?_) | (refine as_i (hS.subs (List.nil_sublist _) (by repeat (first | exact List.Sublist.refl _ | apply List.Sublist.cons_cons | apply List.Sublist.cons))) ?_) | (refine bar_f hS ?_) | (refine drawf TB_ok rfl (by kernel_rfl) (by kernel_rfl) hS (List.Sublist.refl _) (List.Sublist.refl _) ?_; intro w1 hS) | (refine br_t (by assumption) ?_) | (refine br_f (by assumption) ?_) | (apply q_i; focus (intro w1 hS; (conv => whnf); first | exact ⟨rfl, rfl⟩)))
      rw [if_pos he]
      exact ⟨rfl, by simpa using hS.st⟩
    have he : ¬ s1.e ≠ 0 := by simpa using h1
    rw [if_neg he]
    repeat ((conv => whnf); first | (refine nw_f hS ?_; intro b w1 hS) | (refine as_i hS ?_) | (refine as_i (hS.subs (List.nil_sublist _) (by repeat (first | exact List.Sublist.refl _ | apply List.Sublist.cons_cons | apply List.Sublist.cons))) ?_) | (refine bar_f hS ?_) | (refine drawf TB_ok rfl (by kernel_rfl) (by kernel_rfl) hS (List.Sublist.refl _) (List.Sublist.refl _) ?_; intro w1 hS) | (refine br_t (by assumption) ?_) | (refine br_f (by assumption) ?_) | (apply q_i; focus (intro w1 hS; (conv => whnf); first | exact ⟨rfl, rfl⟩)))
    refine br_i (fun h2 => ?_) (fun h2 => ?_)
    · have h2' : 1 < k := of_decide_eq_true h2
      repeat ((conv => whnf); first | (refine nw_f hS ?_; intro b w1 hS) | (refine as_i hS ?_) | (refine as_i (hS.subs (List.nil_sublist _) (by repeat (first | exact List.Sublist.refl _ | apply List.Sublist.cons_cons | apply List.Sublist.cons))) ?_) | (refine bar_f hS ?_) | (refine drawf TB_ok rfl (by kernel_rfl) (by kernel_rfl) hS (List.Sublist.refl _) (List.Sublist.refl _) ?_; intro w1 hS) | (refine br_t (by assumption) ?_) | (refine br_f (by assumption) ?_) | (apply q_i; focus (intro w1 hS; (conv => whnf); first | exact ⟨rfl, rfl⟩)))
      rw [if_pos (.inl h2')]
      exact ⟨rfl, by simpa using hS.st⟩
    · have h2' : ¬ 1 < k := of_decide_eq_false h2
      repeat ((conv => whnf); first | (refine nw_f hS ?_; intro b w1 hS) | (refine as_i hS ?_) | (refine as_i (hS.subs (List.nil_sublist _) (by repeat (first | exact List.Sublist.refl _ | apply List.Sublist.cons_cons | apply List.Sublist.cons))) ?_) | (refine bar_f hS ?_) | (refine drawf TB_ok rfl (by kernel_rfl) (by kernel_rfl) hS (List.Sublist.refl _) (List.Sublist.refl _) ?_; intro w1 hS) | (refine br_t (by assumption) ?_) | (refine br_f (by assumption) ?_) | (apply q_i; focus (intro w1 hS; (conv => whnf); first | exact ⟨rfl, rfl⟩)))
      rw [if_neg (by omega)]
      exact ⟨rfl, by simpa using hS.st⟩

theorem elU : ElemOk Try.prog TB 22 35 1 4 := ⟨rfl, ⟨_, _, inf35, rfl, rfl, rfl, rfl⟩, by decide⟩
theorem zero_val : (Value.agg #[.bool false, .int .i64 0, .slice none 0 0]) = valV false 0 none 0 0 := rfl
def ridN (s : RS) : Nat → List Int × RS
  | 0 => ([], s)
  | k+1 => ((ridN s k).1 ++ [numF 0 (fixedR (ridN s k).2 (4 : Nat)).1], (fixedR (ridN s k).2 (4 : Nat)).2)
theorem ridN_len (s : RS) : ∀ k, (ridN s k).1.length = k
  | 0 => rfl
  | k+1 => by
    show ((ridN s k).1 ++ [_]).length = _
    rw [List.length_append, ridN_len s k]
    rfl
def valR (t : RS × Int × Int) : RS := if (tellR t).2.2 ≠ 0 then t.1 else (ridN t.1 (countI (tellR t).2.1).toNat).2
def takeV (t : RS × Int × Int) : (Bool × Int × List Int) × Int :=
  if (tellR t).2.2 ≠ 0 then ((false, 0, []), (tellR t).2.2) else
  if (valR t).e ≠ 0 then ((false, 0, []), (valR t).e) else
  if okVB (tellR t).1 (tellR t).2.1 (ridN t.1 (countI (tellR t).2.1).toNat).1 then (((tellR t).1, (tellR t).2.1, (ridN t.1 (countI (tellR t).2.1).toNat).1), 0) else ((false, 0, []), 4)
theorem tellR_sz (t : RS × Int × Int) (h : 0 ≤ t.2.2) : 0 ≤ (tellR t).2.1 ∧ (tellR t).2.1 ≤ 256 := by
  unfold tellR
  split
  · simp
  · split
    · simp
    · simp only; omega
theorem tellS_sz (s : RS) : 0 ≤ (tellS s).2.2 := by
  unfold tellS
  split
  · exact (numF_lt _ 2).1
  · simp
end Go.RV
