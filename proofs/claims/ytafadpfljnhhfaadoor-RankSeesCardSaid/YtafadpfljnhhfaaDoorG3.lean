/- Contracts of functions of chapter 8: few, dots, their. Conditions: none. -/
import Derived.Test.YtafadpfljnhhfaaDoorG2
set_option maxRecDepth 20000
set_option linter.unusedVariables false
set_option linter.unusedSimpArgs false
namespace Go.RV
open Go Go.Proofs

def fewB (xs : List Sx) : Bool := !(xs.take 40).any (fun x => decide (100 < x.v.length)) && decide (xs.length ≤ 30)
theorem fewB_ok {xs : List Sx} (h : fewB xs = true) : xs.length ≤ 30 ∧ ∀ x ∈ xs, x.v.length ≤ 100 := by
  simp only [fewB, Bool.and_eq_true, Bool.not_eq_true', decide_eq_true_eq, List.any_eq_false] at h
  refine ⟨h.2, fun x hx => ?_⟩
  have := h.1 x (by rw [List.take_of_length_le (by omega)]; exact hx)
  omega
theorem few_c (f : Nat → Int) (A : Option Addr) (c : Nat) (xs : List Sx) (w : World) (hR : Rd w A (flat encX xs)) (hn : xs.length ≤ 9223372036854775807) :
    Fc Tryd.prog 6 [regV f A xs.length c] w fun v w' => v = .bool (fewB xs) ∧ St [] w w' [] := by
  refine fc_i TB_ok Tryd.func6 rfl (by kernel_rfl) ?_
  have hS := Sf.refl w
  repeat ((conv => whnf); first | (refine nw_f hS ?_; intro b w1 hS) | (refine as_i hS ?_) | (refine as_i (hS.subs (List.nil_sublist _) (by repeat (first | exact List.Sublist.refl _ | apply List.Sublist.cons_cons | apply List.Sublist.cons))) ?_) | (refine bar_f hS ?_) | (refine ld_f hS 0 rfl rfl ?_) | (refine ldA_f hS 0 rfl rfl ?_) | (refine stN_f hS 0 rfl (Nat.le_of_ble_eq_true rfl) rfl rfl ?_; (conv => whnf); intro w1 hS) | (refine stM_f hS 0 rfl (Nat.le_of_ble_eq_true rfl) rfl ?_; (conv => whnf); intro w1 hS) | (refine drawf TB_ok rfl (by kernel_rfl) (by kernel_rfl) hS (List.Sublist.refl _) (List.Sublist.refl _) ?_; intro w1 hS) | (refine br_t (by assumption) ?_) | (refine br_f (by assumption) ?_) | (apply q_i; focus (intro w1 hS; (conv => whnf); first | exact ⟨rfl, rfl⟩ | ((refine ld_f hS 0 rfl rfl ?_); (conv => whnf); exact ⟨rfl, rfl⟩) | ((refine ldA_f hS 0 rfl rfl ?_); (conv => whnf); exact ⟨rfl, rfl⟩))))
  refine loop_i TB_ok (fun i : Nat => [(3, .int .i64 i)]) (fun i w' => i ≤ xs.length ∧ i ≤ 40 ∧ (∀ j (h : j < xs.length), j < i → xs[j].v.length ≤ 100) ∧ Sf [] w w' [] [_]) (fun i => xs.length - i) 0 rfl ⟨Nat.zero_le _, Nat.zero_le _, fun j h h2 => by omega, hS⟩ ?_
  rintro i us w2 ⟨hi, hi2, hj, hS⟩
  by_cases hlt : i < xs.length
  · have h1 : decide ((i : Int) < (xs.length : Int)) = true := decide_eq_true (by omega)
    by_cases h40 : i < 40
    · have h2 : decide ((i : Int) < 40) = true := decide_eq_true (by omega)
      obtain ⟨x, off, rfl⟩ := hR.form (flat_ne encX_len (by omega) hlt)
      have hz := strY_size xs[i].v
      repeat ((conv => whnf); first | (refine nw_f hS ?_; intro b w1 hS) | (refine as_i hS ?_) | (refine as_i (hS.subs (List.nil_sublist _) (by repeat (first | exact List.Sublist.refl _ | apply List.Sublist.cons_cons | apply List.Sublist.cons))) ?_) | (refine bar_f hS ?_) | (refine ld_f hS 0 rfl rfl ?_) | (refine ldA_f hS 0 rfl rfl ?_) | (refine stN_f hS 0 rfl (Nat.le_of_ble_eq_true rfl) rfl rfl ?_; (conv => whnf); intro w1 hS) | (refine stM_f hS 0 rfl (Nat.le_of_ble_eq_true rfl) rfl ?_; (conv => whnf); intro w1 hS) | (refine .mk ⟨by omega, by omega⟩ ?_; refine ix_i rfl ?_) | (refine ld_el encX_len (hR.below hS.nil).at (i := i) (k := 2) hlt (by omega) rfl (v := .string (strY xs[i].v)) rfl ?_) | (refine drawf TB_ok rfl (by kernel_rfl) (by kernel_rfl) hS (List.Sublist.refl _) (List.Sublist.refl _) ?_; intro w1 hS) | (refine br_t (by assumption) ?_) | (refine br_f (by assumption) ?_) | (apply q_i; focus (intro w1 hS; (conv => whnf); first | exact ⟨rfl, rfl⟩ | ((refine ld_f hS 0 rfl rfl ?_); (conv => whnf); exact ⟨rfl, rfl⟩) | ((refine ldA_f hS 0 rfl rfl ?_); (conv => whnf); exact ⟨rfl, rfl⟩) | ((refine .mk ⟨by omega, by omega⟩ ?_; refine ix_i rfl ?_); (conv => whnf); exact ⟨rfl, rfl⟩) | ((refine ld_el encX_len (hR.below hS.nil).at (i := i) (k := 2) hlt (by omega) rfl (v := .string (strY xs[i].v)) rfl ?_); (conv => whnf); exact ⟨rfl, rfl⟩))))
      refine br_i (fun h3 => ?_) (fun h3 => ?_)
      · have h3' : 100 < xs[i].v.length := by have := of_decide_eq_true h3; omega
        have hf : fewB xs = false := by
          cases hf : fewB xs with
          | false => rfl
          | true => have := (fewB_ok hf).2 xs[i] (List.getElem_mem hlt); omega
        rw [hf]
        repeat ((conv => whnf); first | (refine nw_f hS ?_; intro b w1 hS) | (refine as_i hS ?_) | (refine as_i (hS.subs (List.nil_sublist _) (by repeat (first | exact List.Sublist.refl _ | apply List.Sublist.cons_cons | apply List.Sublist.cons))) ?_) | (refine bar_f hS ?_) | (refine ld_f hS 0 rfl rfl ?_) | (refine ldA_f hS 0 rfl rfl ?_) | (refine stN_f hS 0 rfl (Nat.le_of_ble_eq_true rfl) rfl rfl ?_; (conv => whnf); intro w1 hS) | (refine stM_f hS 0 rfl (Nat.le_of_ble_eq_true rfl) rfl ?_; (conv => whnf); intro w1 hS) | (refine drawf TB_ok rfl (by kernel_rfl) (by kernel_rfl) hS (List.Sublist.refl _) (List.Sublist.refl _) ?_; intro w1 hS) | (refine br_t (by assumption) ?_) | (refine br_f (by assumption) ?_) | (apply q_i; focus (intro w1 hS; (conv => whnf); first | exact ⟨rfl, rfl⟩ | ((refine ld_f hS 0 rfl rfl ?_); (conv => whnf); exact ⟨rfl, rfl⟩) | ((refine ldA_f hS 0 rfl rfl ?_); (conv => whnf); exact ⟨rfl, rfl⟩))))
        exact ⟨rfl, hS.nil⟩
      · have h3' : xs[i].v.length ≤ 100 := by have := of_decide_eq_false h3; omega
        repeat ((conv => whnf); first | (refine nw_f hS ?_; intro b w1 hS) | (refine as_i hS ?_) | (refine as_i (hS.subs (List.nil_sublist _) (by repeat (first | exact List.Sublist.refl _ | apply List.Sublist.cons_cons | apply List.Sublist.cons))) ?_) | (refine bar_f hS ?_) | (refine ld_f hS 0 rfl rfl ?_) | (refine ldA_f hS 0 rfl rfl ?_) | (refine stN_f hS 0 rfl (Nat.le_of_ble_eq_true rfl) rfl rfl ?_; (conv => whnf); intro w1 hS) | (refine stM_f hS 0 rfl (Nat.le_of_ble_eq_true rfl) rfl ?_; (conv => whnf); intro w1 hS) | (refine drawf TB_ok rfl (by kernel_rfl) (by kernel_rfl) hS (List.Sublist.refl _) (List.Sublist.refl _) ?_; intro w1 hS) | (refine br_t (by assumption) ?_) | (refine br_f (by assumption) ?_) | (apply q_i; focus (intro w1 hS; (conv => whnf); first | exact ⟨rfl, rfl⟩ | ((refine ld_f hS 0 rfl rfl ?_); (conv => whnf); exact ⟨rfl, rfl⟩) | ((refine ldA_f hS 0 rfl rfl ?_); (conv => whnf); exact ⟨rfl, rfl⟩))))
        refine ⟨rfl, i + 1, ?_, ⟨by omega, by omega, fun j h h2 => ?_, hS⟩, by omega⟩
        · rw [wi h40 (by omega)]
          rfl
        · by_cases e : j = i
          · subst e; exact h3'
          · exact hj j h (by omega)
    · have h2 : decide ((i : Int) < 40) = false := decide_eq_false (by omega)
      have h3 : decide ((xs.length : Int) ≤ 30) = false := decide_eq_false (by omega)
      have hf : fewB xs = false := by
        cases hf : fewB xs with
        | false => rfl
        | true => have := (fewB_ok hf).1; omega
      rw [hf]
      repeat ((conv => whnf); first | (refine nw_f hS ?_; intro b w1 hS) | (refine as_i hS ?_) | (refine as_i (hS.subs (List.nil_sublist _) (by repeat (first | exact List.Sublist.refl _ | apply List.Sublist.cons_cons | apply List.Sublist.cons))) ?_) | (refine bar_f hS ?_) | (refine ld_f hS 0 rfl rfl ?_) | (refine ldA_f hS 0 rfl rfl ?_) | (refine stN_f hS 0 rfl (Nat.le_of_ble_eq_true rfl) rfl rfl ?_; (conv => whnf); intro w1 hS) | (refine stM_f hS 0 rfl (Nat.le_of_ble_eq_true rfl) rfl ?_; (conv => whnf); intro w1 hS) | (refine drawf TB_ok rfl (by kernel_rfl) (by kernel_rfl) hS (List.Sublist.refl _) (List.Sublist.refl _) ?_; intro w1 hS) | (refine br_t (by assumption) ?_) | (refine br_f (by assumption) ?_) | (apply q_i; focus (intro w1 hS; (conv => whnf); first | exact ⟨rfl, rfl⟩ | ((refine ld_f hS 0 rfl rfl ?_); (conv => whnf); exact ⟨rfl, rfl⟩) | ((refine ldA_f hS 0 rfl rfl ?_); (conv => whnf); exact ⟨rfl, rfl⟩))))
      exact ⟨congrArg Value.bool h3, hS.nil⟩
  · have h1 : decide ((i : Int) < (xs.length : Int)) = false := decide_eq_false (by omega)
    have hf : fewB xs = decide ((xs.length : Int) ≤ 30) := by
      have : (xs.take 40).any (fun x => decide (100 < x.v.length)) = false := by
        rw [List.any_eq_false]
        intro x hx
        obtain ⟨j, hjl, rfl⟩ := List.getElem_of_mem (List.mem_of_mem_take hx)
        have := hj j hjl (by omega)
        simp
        omega
      rw [fewB, this]
      rw [Bool.eq_iff_iff]
      simp
      omega
    rw [hf]
    repeat ((conv => whnf); first | (refine nw_f hS ?_; intro b w1 hS) | (refine as_i hS ?_) | (refine as_i (hS.subs (List.nil_sublist _) (by repeat (first | exact List.Sublist.refl _ | apply List.Sublist.cons_cons | apply List.Sublist.cons))) ?_) | (refine bar_f hS ?_) | (refine ld_f hS 0 rfl rfl ?_) | (refine ldA_f hS 0 rfl rfl ?_) | (refine stN_f hS 0 rfl (Nat.le_of_ble_eq_true rfl) rfl rfl ?_; (conv => whnf); intro w1 hS) | (refine stM_f hS 0 rfl (Nat.le_of_ble_eq_true rfl) rfl ?_; (conv => whnf); intro w1 hS) | (refine drawf TB_ok rfl (by kernel_rfl) (by kernel_rfl) hS (List.Sublist.refl _) (List.Sublist.refl _) ?_; intro w1 hS) | (refine br_t (by assumption) ?_) | (refine br_f (by assumption) ?_) | (apply q_i; focus (intro w1 hS; (conv => whnf); first | exact ⟨rfl, rfl⟩ | ((refine ld_f hS 0 rfl rfl ?_); (conv => whnf); exact ⟨rfl, rfl⟩) | ((refine ldA_f hS 0 rfl rfl ?_); (conv => whnf); exact ⟨rfl, rfl⟩))))
    exact ⟨rfl, hS.nil⟩

theorem dotF (r n r2 n2 : Int) (w : World) : (Op.eqFields 9999 #[.int .u8 r, .int .u32 n] #[.int .u8 r2, .int .u32 n2] (Tryd.prog.fieldsOf 68).toList).run Tryd.prog w = .ok ((r == r2) && ((n == n2) && true)) w := by
  simp only [Program.fieldsOf, Tryd.underlying68]
  exact eqF_cons (d := 9998) rfl rfl rfl (.int Tryd.underlying5) (eqF_cons rfl rfl rfl (.int Tryd.underlying22) eqF_nil)
theorem fieldsRDot : Tryd.prog.underlying 68 = some (.struct (Tryd.prog.fieldsOf 68)) := by
  unfold Program.fieldsOf
  rw [Tryd.underlying68]
theorem neRDot (r n r2 n2 : Int) {ox oy : Operand} {w : World} {K : Value → World → Prop} (k : K (.bool (!((r == r2) && ((n == n2) && true)))) w) :
    SemN Tryd.prog (do eqGuard .neq 68 ox oy (dotV r n) (dotV r2 n2); binOp .neq 68 (dotV r n) (dotV r2 n2)) w K :=
  neS_i (by kernel_rfl) fieldsRDot (by kernel_rfl) (dotF r n r2 n2 w) k
/-- the dots are the same -/
theorem dotsT_c (A : Option Addr) (c : Nat) (B : Option Addr) (d : Nat) (xs : List (Int × Int)) (w : World) (hR : Rd w A (flat encD xs)) (hQ : Rd w B (flat encD xs)) (hn : xs.length ≤ 4611686018427387904) :
    Fc Tryd.prog 11 [.slice A xs.length c, .slice B xs.length d] w fun v w' => v = .bool true ∧ St [] w w' [] := by
  refine fc_i TB_ok Tryd.func11 rfl (by kernel_rfl) ?_
  have hS := Sf.refl w
  have h0 : ((xs.length : Int) != (xs.length : Int)) = false := by simp
  repeat ((conv => whnf); first | (refine nw_f hS ?_; intro b w1 hS) | (refine as_i hS ?_) | (refine as_i (hS.subs (List.nil_sublist _) (by repeat (first | exact List.Sublist.refl _ | apply List.Sublist.cons_cons | apply List.Sublist.cons))) ?_) | (refine bar_f hS ?_) | (refine drawf TB_ok rfl (by kernel_rfl) (by kernel_rfl) hS (List.Sublist.refl _) (List.Sublist.refl _) ?_; intro w1 hS) | (refine br_t (by assumption) ?_) | (refine br_f (by assumption) ?_) | (apply q_i; focus (intro w1 hS; (conv => whnf); first | exact ⟨rfl, rfl⟩)))
  refine loop_i TB_ok (fun i : Nat => [(5, .int .i64 i)]) (fun i w' => i ≤ xs.length ∧ Sf [] w w' [] []) (fun i => xs.length - i) 0 rfl ⟨Nat.zero_le _, hS⟩ ?_
  rintro i us w2 ⟨hi, hS⟩
  (conv => whnf)
  refine br_i (fun hb => ?_) (fun hb => ?_)
  · have hlt : i < xs.length := by have := of_decide_eq_true hb; omega
    obtain ⟨x, off, rfl⟩ := hR.form (flat_ne encD_len (by omega) hlt)
    obtain ⟨x2, off2, rfl⟩ := hQ.form (flat_ne encD_len (by omega) hlt)
    have he : (!((xs[i].1 == xs[i].1) && ((xs[i].2 == xs[i].2) && true))) = false := by simp
    repeat ((conv => whnf); first | (refine nw_f hS ?_; intro b w1 hS) | (refine as_i hS ?_) | (refine as_i (hS.subs (List.nil_sublist _) (by repeat (first | exact List.Sublist.refl _ | apply List.Sublist.cons_cons | apply List.Sublist.cons))) ?_) | (refine bar_f hS ?_) | (refine br_t (by assumption) ?_) | (refine br_f (by assumption) ?_) | (apply q_i; focus (intro w1 hS; (conv => whnf); first | exact ⟨rfl, rfl⟩)))
    refine drawf (Ls := []) TB_ok rfl (by kernel_rfl) (by kernel_rfl) hS (List.Sublist.refl _) (List.Sublist.refl _) ?_; intro w1 hS
    repeat ((conv => whnf); first | (refine nw_f hS ?_; intro b w1 hS) | (refine as_i hS ?_) | (refine as_i (hS.subs (List.nil_sublist _) (by repeat (first | exact List.Sublist.refl _ | apply List.Sublist.cons_cons | apply List.Sublist.cons))) ?_) | (refine bar_f hS ?_) | (refine .mk ⟨by omega, by omega⟩ ?_; refine ix_i rfl ?_) | (refine ldN_el encD_len (hR.below hS.nil).at (i := i) hlt rfl rfl ?_) | (refine ldN_el encD_len (hQ.below hS.nil).at (i := i) hlt rfl rfl ?_) | (refine neRDot _ _ _ _ ?_; rw [he]) | (refine drawf TB_ok rfl (by kernel_rfl) (by kernel_rfl) hS (List.Sublist.refl _) (List.Sublist.refl _) ?_; intro w1 hS) | (refine br_t (by assumption) ?_) | (refine br_f (by assumption) ?_) | (apply q_i; focus (intro w1 hS; (conv => whnf); first | exact ⟨rfl, rfl⟩ | ((refine .mk ⟨by omega, by omega⟩ ?_; refine ix_i rfl ?_); (conv => whnf); exact ⟨rfl, rfl⟩) | ((refine ldN_el encD_len (hR.below hS.nil).at (i := i) hlt rfl rfl ?_); (conv => whnf); exact ⟨rfl, rfl⟩) | ((refine ldN_el encD_len (hQ.below hS.nil).at (i := i) hlt rfl rfl ?_); (conv => whnf); exact ⟨rfl, rfl⟩) | ((refine neRDot _ _ _ _ ?_; rw [he]); (conv => whnf); exact ⟨rfl, rfl⟩))))
    refine ⟨rfl, i + 1, ?_, ⟨by omega, hS⟩, by omega⟩
    rw [wi hlt (by omega)]
    rfl
  · repeat ((conv => whnf); first | (refine nw_f hS ?_; intro b w1 hS) | (refine as_i hS ?_) | (refine as_i (hS.subs (List.nil_sublist _) (by repeat (first | exact List.Sublist.refl _ | apply List.Sublist.cons_cons | apply List.Sublist.cons))) ?_) | (refine bar_f hS ?_) | (refine drawf TB_ok rfl (by kernel_rfl) (by kernel_rfl) hS (List.Sublist.refl _) (List.Sublist.refl _) ?_; intro w1 hS) | (refine br_t (by assumption) ?_) | (refine br_f (by assumption) ?_) | (apply q_i; focus (intro w1 hS; (conv => whnf); first | exact ⟨rfl, rfl⟩)))
    exact ⟨rfl, hS.nil⟩
theorem ldN_elp {α : Type} {enc : α → List Value} {sz n j0 : Nat} {w : World} {b off : Nat} {xs : List α} (henc : ∀ x, (enc x).length = sz) (hc : ∀ j v o, (flat enc xs)[j]? = some v → o = off + j → w.cell? ⟨b, o, none⟩ = some v) {i o : Nat} (hi : i < xs.length) (ho : o = off + i * sz + j0) (hn : j0 + n ≤ sz) {K : List Value → Prop} (vs : List Value) (hv : ((enc xs[i]).drop j0).take n = vs) (k : K vs) : LdN w ⟨b, o, none⟩ n K := by
  have hl : vs.length = n := by rw [← hv, List.length_take, List.length_drop, henc]; omega
  refine ldN_i vs hl ?_ k
  intro j hj
  rw [add_none]
  have h1 := flat_get henc xs i hi (j0 + j) (by omega)
  rw [← hv, List.getElem?_take, if_pos hj, List.getElem?_drop]
  have hlt : j0 + j < (enc xs[i]).length := by rw [henc]; omega
  rw [List.getElem?_eq_getElem hlt] at h1 ⊢
  exact hc _ _ _ h1 (by omega)
theorem elSb : ElemOk Tryd.prog TB 35 70 3 24 := ⟨rfl, ⟨_, _, inf70, rfl, rfl, rfl, rfl⟩, by decide⟩
theorem their_c (f : Nat → Int) (A : Option Addr) (c : Nat) (xs : List Sx) (w : World) (hR : Rd w A (flat encX xs)) (hn : xs.length ≤ 1000000) :
    Fc Tryd.prog 10 [regV f A xs.length c] w fun v w' => ∃ A' c' Lv, v = regV f A' xs.length c' ∧ Sl 70 3 (.slice A' xs.length c') xs.length (flat encX xs) Lv ∧ St [] w w' Lv := by
  refine fc_i TB_ok Tryd.func10 rfl (by kernel_rfl) ?_
  have hS := Sf.refl w
  repeat ((conv => whnf); first | (refine nw_f hS ?_; intro b w1 hS) | (refine as_i hS ?_) | (refine as_i (hS.subs (List.nil_sublist _) (by repeat (first | exact List.Sublist.refl _ | apply List.Sublist.cons_cons | apply List.Sublist.cons))) ?_) | (refine bar_f hS ?_) | (refine ld_f hS 0 rfl rfl ?_) | (refine ld_f hS 1 rfl rfl ?_) | (refine ld_f hS 2 rfl rfl ?_) | (refine ldA_f hS 0 rfl rfl ?_) | (refine ldA_f hS 1 rfl rfl ?_) | (refine ldA_f hS 2 rfl rfl ?_) | (refine stN_f hS 0 rfl (Nat.le_of_ble_eq_true rfl) rfl rfl ?_; (conv => whnf); intro w1 hS) | (refine stN_f hS 1 rfl (Nat.le_of_ble_eq_true rfl) rfl rfl ?_; (conv => whnf); intro w1 hS) | (refine stN_f hS 2 rfl (Nat.le_of_ble_eq_true rfl) rfl rfl ?_; (conv => whnf); intro w1 hS) | (refine stM_f hS 0 rfl (Nat.le_of_ble_eq_true rfl) rfl ?_; (conv => whnf); intro w1 hS) | (refine stM_f hS 1 rfl (Nat.le_of_ble_eq_true rfl) rfl ?_; (conv => whnf); intro w1 hS) | (refine stM_f hS 2 rfl (Nat.le_of_ble_eq_true rfl) rfl ?_; (conv => whnf); intro w1 hS) | (refine ldN_f hS 1 rfl (Nat.le_of_ble_eq_true rfl) ?_) | (refine drawf TB_ok rfl (by kernel_rfl) (by kernel_rfl) hS (List.Sublist.refl _) (List.Sublist.refl _) ?_; intro w1 hS) | (refine br_t (by assumption) ?_) | (refine br_f (by assumption) ?_) | (apply q_i; focus (intro w1 hS; (conv => whnf); first | exact ⟨rfl, rfl⟩ | ((refine ld_f hS 0 rfl rfl ?_); (conv => whnf); exact ⟨rfl, rfl⟩) | ((refine ld_f hS 1 rfl rfl ?_); (conv => whnf); exact ⟨rfl, rfl⟩) | ((refine ld_f hS 2 rfl rfl ?_); (conv => whnf); exact ⟨rfl, rfl⟩) | ((refine ldA_f hS 0 rfl rfl ?_); (conv => whnf); exact ⟨rfl, rfl⟩) | ((refine ldA_f hS 1 rfl rfl ?_); (conv => whnf); exact ⟨rfl, rfl⟩) | ((refine ldA_f hS 2 rfl rfl ?_); (conv => whnf); exact ⟨rfl, rfl⟩) | ((refine ldN_f hS 1 rfl (Nat.le_of_ble_eq_true rfl) ?_); (conv => whnf); exact ⟨rfl, rfl⟩))))
  replace hS : Sf [] w _ ([] ++ []) _ := hS
  refine loop_i TB_ok (fun i : Nat => [(4, .int .i64 i)]) (fun i w' => i ≤ xs.length ∧ ∃ A' c' Lv, Sl 70 3 (.slice A' i c') i (flat encX (xs.take i)) Lv ∧ Sf [] w w' (Lv ++ []) [(_, .cells (vecF f ++ [Value.slice A' i c']).toArray 37 (0, 0)), _, _]) (fun i => xs.length - i) 0 rfl ⟨Nat.zero_le _, none, 0, [], .nil, hS⟩ ?_
  rintro i us w2 ⟨hi, A', c', Lv, hv, hS⟩
  repeat ((conv => whnf); first | (refine nw_f hS ?_; intro b w1 hS) | (refine as_i hS ?_) | (refine as_i (hS.subs (List.nil_sublist _) (by repeat (first | exact List.Sublist.refl _ | apply List.Sublist.cons_cons | apply List.Sublist.cons))) ?_) | (refine bar_f hS ?_) | (refine ld_f hS 0 rfl rfl ?_) | (refine ld_f hS 1 rfl rfl ?_) | (refine ld_f hS 2 rfl rfl ?_) | (refine ldA_f hS 0 rfl rfl ?_) | (refine ldA_f hS 1 rfl rfl ?_) | (refine ldA_f hS 2 rfl rfl ?_) | (refine stN_f hS 0 rfl (Nat.le_of_ble_eq_true rfl) rfl rfl ?_; (conv => whnf); intro w1 hS) | (refine stN_f hS 1 rfl (Nat.le_of_ble_eq_true rfl) rfl rfl ?_; (conv => whnf); intro w1 hS) | (refine stN_f hS 2 rfl (Nat.le_of_ble_eq_true rfl) rfl rfl ?_; (conv => whnf); intro w1 hS) | (refine stM_f hS 0 rfl (Nat.le_of_ble_eq_true rfl) rfl ?_; (conv => whnf); intro w1 hS) | (refine stM_f hS 1 rfl (Nat.le_of_ble_eq_true rfl) rfl ?_; (conv => whnf); intro w1 hS) | (refine stM_f hS 2 rfl (Nat.le_of_ble_eq_true rfl) rfl ?_; (conv => whnf); intro w1 hS) | (refine drawf TB_ok rfl (by kernel_rfl) (by kernel_rfl) hS (List.Sublist.refl _) (List.Sublist.refl _) ?_; intro w1 hS) | (refine br_t (by assumption) ?_) | (refine br_f (by assumption) ?_) | (apply q_i; focus (intro w1 hS; (conv => whnf); first | exact ⟨rfl, rfl⟩ | ((refine ld_f hS 0 rfl rfl ?_); (conv => whnf); exact ⟨rfl, rfl⟩) | ((refine ld_f hS 1 rfl rfl ?_); (conv => whnf); exact ⟨rfl, rfl⟩) | ((refine ld_f hS 2 rfl rfl ?_); (conv => whnf); exact ⟨rfl, rfl⟩) | ((refine ldA_f hS 0 rfl rfl ?_); (conv => whnf); exact ⟨rfl, rfl⟩) | ((refine ldA_f hS 1 rfl rfl ?_); (conv => whnf); exact ⟨rfl, rfl⟩) | ((refine ldA_f hS 2 rfl rfl ?_); (conv => whnf); exact ⟨rfl, rfl⟩))))
  refine br_i (fun hb => ?_) (fun hb => ?_)
  · have hlt : i < xs.length := by have := of_decide_eq_true hb; omega
    obtain ⟨x, off, rfl⟩ := hR.form (flat_ne encX_len (by omega) hlt)
    repeat ((conv => whnf); first | (refine nw_f hS ?_; intro b w1 hS) | (refine as_i hS ?_) | (refine as_i (hS.subs (List.nil_sublist _) (by repeat (first | exact List.Sublist.refl _ | apply List.Sublist.cons_cons | apply List.Sublist.cons))) ?_) | (refine bar_f hS ?_) | (refine ld_f hS 0 rfl rfl ?_) | (refine ld_f hS 1 rfl rfl ?_) | (refine ld_f hS 2 rfl rfl ?_) | (refine ldA_f hS 0 rfl rfl ?_) | (refine ldA_f hS 1 rfl rfl ?_) | (refine ldA_f hS 2 rfl rfl ?_) | (refine stN_f hS 0 rfl (Nat.le_of_ble_eq_true rfl) rfl rfl ?_; (conv => whnf); intro w1 hS) | (refine stN_f hS 1 rfl (Nat.le_of_ble_eq_true rfl) rfl rfl ?_; (conv => whnf); intro w1 hS) | (refine stN_f hS 2 rfl (Nat.le_of_ble_eq_true rfl) rfl rfl ?_; (conv => whnf); intro w1 hS) | (refine stM_f hS 0 rfl (Nat.le_of_ble_eq_true rfl) rfl ?_; (conv => whnf); intro w1 hS) | (refine stM_f hS 1 rfl (Nat.le_of_ble_eq_true rfl) rfl ?_; (conv => whnf); intro w1 hS) | (refine stM_f hS 2 rfl (Nat.le_of_ble_eq_true rfl) rfl ?_; (conv => whnf); intro w1 hS) | (refine br_t (by assumption) ?_) | (refine br_f (by assumption) ?_) | (apply q_i; focus (intro w1 hS; (conv => whnf); first | exact ⟨rfl, rfl⟩ | ((refine ld_f hS 0 rfl rfl ?_); (conv => whnf); exact ⟨rfl, rfl⟩) | ((refine ld_f hS 1 rfl rfl ?_); (conv => whnf); exact ⟨rfl, rfl⟩) | ((refine ld_f hS 2 rfl rfl ?_); (conv => whnf); exact ⟨rfl, rfl⟩) | ((refine ldA_f hS 0 rfl rfl ?_); (conv => whnf); exact ⟨rfl, rfl⟩) | ((refine ldA_f hS 1 rfl rfl ?_); (conv => whnf); exact ⟨rfl, rfl⟩) | ((refine ldA_f hS 2 rfl rfl ?_); (conv => whnf); exact ⟨rfl, rfl⟩))))
    refine drawf (Ls := [_, _]) TB_ok rfl (by kernel_rfl) (by kernel_rfl) hS (List.nil_sublist _) (.cons_cons _ (.cons _ (.refl _))) ?_; intro w1 hS
    repeat ((conv => whnf); first | (refine nw_f hS ?_; intro b w1 hS) | (refine as_i hS ?_) | (refine as_i (hS.subs (List.nil_sublist _) (by repeat (first | exact List.Sublist.refl _ | apply List.Sublist.cons_cons | apply List.Sublist.cons))) ?_) | (refine bar_f hS ?_) | (refine ld_f hS 0 rfl rfl ?_) | (refine ld_f hS 1 rfl rfl ?_) | (refine ld_f hS 2 rfl rfl ?_) | (refine ldA_f hS 0 rfl rfl ?_) | (refine ldA_f hS 1 rfl rfl ?_) | (refine ldA_f hS 2 rfl rfl ?_) | (refine stN_f hS 0 rfl (Nat.le_of_ble_eq_true rfl) rfl rfl ?_; (conv => whnf); intro w1 hS) | (refine stN_f hS 1 rfl (Nat.le_of_ble_eq_true rfl) rfl rfl ?_; (conv => whnf); intro w1 hS) | (refine stN_f hS 2 rfl (Nat.le_of_ble_eq_true rfl) rfl rfl ?_; (conv => whnf); intro w1 hS) | (refine stM_f hS 0 rfl (Nat.le_of_ble_eq_true rfl) rfl ?_; (conv => whnf); intro w1 hS) | (refine stM_f hS 1 rfl (Nat.le_of_ble_eq_true rfl) rfl ?_; (conv => whnf); intro w1 hS) | (refine stM_f hS 2 rfl (Nat.le_of_ble_eq_true rfl) rfl ?_; (conv => whnf); intro w1 hS) | (refine .mk ⟨by omega, by omega⟩ ?_; refine ix_i rfl ?_) | (refine ldN_elp encX_len (hR.below hS.nil).at (i := i) (j0 := 0) hlt rfl (Nat.le_of_ble_eq_true rfl) [.int .u8 xs[i].r, .int .u32 xs[i].n] rfl ?_) | (refine ld_el encX_len (hR.below hS.nil).at (i := i) (k := 2) hlt (by omega) rfl (v := .string (strY xs[i].v)) rfl ?_) | (refine drawf TB_ok rfl (by kernel_rfl) (by kernel_rfl) hS (List.Sublist.refl _) (List.Sublist.refl _) ?_; intro w1 hS) | (refine br_t (by assumption) ?_) | (refine br_f (by assumption) ?_) | (apply q_i; focus (intro w1 hS; (conv => whnf); first | exact ⟨rfl, rfl⟩ | ((refine ld_f hS 0 rfl rfl ?_); (conv => whnf); exact ⟨rfl, rfl⟩) | ((refine ld_f hS 1 rfl rfl ?_); (conv => whnf); exact ⟨rfl, rfl⟩) | ((refine ld_f hS 2 rfl rfl ?_); (conv => whnf); exact ⟨rfl, rfl⟩) | ((refine ldA_f hS 0 rfl rfl ?_); (conv => whnf); exact ⟨rfl, rfl⟩) | ((refine ldA_f hS 1 rfl rfl ?_); (conv => whnf); exact ⟨rfl, rfl⟩) | ((refine ldA_f hS 2 rfl rfl ?_); (conv => whnf); exact ⟨rfl, rfl⟩) | ((refine .mk ⟨by omega, by omega⟩ ?_; refine ix_i rfl ?_); (conv => whnf); exact ⟨rfl, rfl⟩) | ((refine ldN_elp encX_len (hR.below hS.nil).at (i := i) (j0 := 0) hlt rfl (Nat.le_of_ble_eq_true rfl) [.int .u8 xs[i].r, .int .u32 xs[i].n] rfl ?_); (conv => whnf); exact ⟨rfl, rfl⟩) | ((refine ld_el encX_len (hR.below hS.nil).at (i := i) (k := 2) hlt (by omega) rfl (v := .string (strY xs[i].v)) rfl ?_); (conv => whnf); exact ⟨rfl, rfl⟩))))
    refine app_f TB_ok elSb hS hv (show Rd _ _ (flat encX [xs[i]]) from hS.rd 0 rfl) rfl (fun y hy => ?_) (by omega) (by omega) ?_
    · simp [flat, encX] at hy
      rcases hy with rfl | rfl | rfl <;> rfl
    intro v' Lv' w6 hv' hS
    obtain ⟨A2, c2, rfl, hv'⟩ := hv'.open
    repeat ((conv => whnf); first | (refine nw_f hS ?_; intro b w1 hS) | (refine as_i hS ?_) | (refine as_i (hS.subs (List.nil_sublist _) (by repeat (first | exact List.Sublist.refl _ | apply List.Sublist.cons_cons | apply List.Sublist.cons))) ?_) | (refine bar_f hS ?_) | (refine ld_f hS 0 rfl rfl ?_) | (refine ld_f hS 1 rfl rfl ?_) | (refine ld_f hS 2 rfl rfl ?_) | (refine ld_f hS 3 rfl rfl ?_) | (refine ldA_f hS 0 rfl rfl ?_) | (refine ldA_f hS 1 rfl rfl ?_) | (refine ldA_f hS 2 rfl rfl ?_) | (refine ldA_f hS 3 rfl rfl ?_) | (refine stN_f hS 0 rfl (Nat.le_of_ble_eq_true rfl) rfl rfl ?_; (conv => whnf); intro w1 hS) | (refine stN_f hS 1 rfl (Nat.le_of_ble_eq_true rfl) rfl rfl ?_; (conv => whnf); intro w1 hS) | (refine stN_f hS 2 rfl (Nat.le_of_ble_eq_true rfl) rfl rfl ?_; (conv => whnf); intro w1 hS) | (refine stN_f hS 3 rfl (Nat.le_of_ble_eq_true rfl) rfl rfl ?_; (conv => whnf); intro w1 hS) | (refine stM_f hS 0 rfl (Nat.le_of_ble_eq_true rfl) rfl ?_; (conv => whnf); intro w1 hS) | (refine stM_f hS 1 rfl (Nat.le_of_ble_eq_true rfl) rfl ?_; (conv => whnf); intro w1 hS) | (refine stM_f hS 2 rfl (Nat.le_of_ble_eq_true rfl) rfl ?_; (conv => whnf); intro w1 hS) | (refine stM_f hS 3 rfl (Nat.le_of_ble_eq_true rfl) rfl ?_; (conv => whnf); intro w1 hS) | (refine drawf TB_ok rfl (by kernel_rfl) (by kernel_rfl) hS (List.Sublist.refl _) (List.Sublist.refl _) ?_; intro w1 hS) | (refine br_t (by assumption) ?_) | (refine br_f (by assumption) ?_) | (apply q_i; focus (intro w1 hS; (conv => whnf); first | exact ⟨rfl, rfl⟩ | ((refine ld_f hS 0 rfl rfl ?_); (conv => whnf); exact ⟨rfl, rfl⟩) | ((refine ld_f hS 1 rfl rfl ?_); (conv => whnf); exact ⟨rfl, rfl⟩) | ((refine ld_f hS 2 rfl rfl ?_); (conv => whnf); exact ⟨rfl, rfl⟩) | ((refine ld_f hS 3 rfl rfl ?_); (conv => whnf); exact ⟨rfl, rfl⟩) | ((refine ldA_f hS 0 rfl rfl ?_); (conv => whnf); exact ⟨rfl, rfl⟩) | ((refine ldA_f hS 1 rfl rfl ?_); (conv => whnf); exact ⟨rfl, rfl⟩) | ((refine ldA_f hS 2 rfl rfl ?_); (conv => whnf); exact ⟨rfl, rfl⟩) | ((refine ldA_f hS 3 rfl rfl ?_); (conv => whnf); exact ⟨rfl, rfl⟩))))
    refine ⟨rfl, i + 1, ?_, ⟨by omega, A2, c2, Lv', ?_, hS.subs (List.Sublist.refl _) (.cons _ (.refl _))⟩, by omega⟩
    · rw [wi hlt (by omega)]
      rfl
    · rw [List.take_succ_eq_append_getElem hlt, flat_append]
      exact hv'
  · have hge : i = xs.length := by have := of_decide_eq_false hb; omega
    subst hge
    rw [List.take_length] at hv
    repeat ((conv => whnf); first | (refine nw_f hS ?_; intro b w1 hS) | (refine as_i hS ?_) | (refine as_i (hS.subs (List.nil_sublist _) (by repeat (first | exact List.Sublist.refl _ | apply List.Sublist.cons_cons | apply List.Sublist.cons))) ?_) | (refine bar_f hS ?_) | (refine ld_f hS 0 rfl rfl ?_) | (refine ld_f hS 1 rfl rfl ?_) | (refine ld_f hS 2 rfl rfl ?_) | (refine ldA_f hS 0 rfl rfl ?_) | (refine ldA_f hS 1 rfl rfl ?_) | (refine ldA_f hS 2 rfl rfl ?_) | (refine stN_f hS 0 rfl (Nat.le_of_ble_eq_true rfl) rfl rfl ?_; (conv => whnf); intro w1 hS) | (refine stN_f hS 1 rfl (Nat.le_of_ble_eq_true rfl) rfl rfl ?_; (conv => whnf); intro w1 hS) | (refine stN_f hS 2 rfl (Nat.le_of_ble_eq_true rfl) rfl rfl ?_; (conv => whnf); intro w1 hS) | (refine stM_f hS 0 rfl (Nat.le_of_ble_eq_true rfl) rfl ?_; (conv => whnf); intro w1 hS) | (refine stM_f hS 1 rfl (Nat.le_of_ble_eq_true rfl) rfl ?_; (conv => whnf); intro w1 hS) | (refine stM_f hS 2 rfl (Nat.le_of_ble_eq_true rfl) rfl ?_; (conv => whnf); intro w1 hS) | (refine drawf TB_ok rfl (by kernel_rfl) (by kernel_rfl) hS (List.Sublist.refl _) (List.Sublist.refl _) ?_; intro w1 hS) | (refine br_t (by assumption) ?_) | (refine br_f (by assumption) ?_) | (apply q_i; focus (intro w1 hS; (conv => whnf); first | exact ⟨rfl, rfl⟩ | ((refine ld_f hS 0 rfl rfl ?_); (conv => whnf); exact ⟨rfl, rfl⟩) | ((refine ld_f hS 1 rfl rfl ?_); (conv => whnf); exact ⟨rfl, rfl⟩) | ((refine ld_f hS 2 rfl rfl ?_); (conv => whnf); exact ⟨rfl, rfl⟩) | ((refine ldA_f hS 0 rfl rfl ?_); (conv => whnf); exact ⟨rfl, rfl⟩) | ((refine ldA_f hS 1 rfl rfl ?_); (conv => whnf); exact ⟨rfl, rfl⟩) | ((refine ldA_f hS 2 rfl rfl ?_); (conv => whnf); exact ⟨rfl, rfl⟩))))
    exact ⟨A', c', Lv, rfl, hv, by simpa using hS.fr (List.Sublist.refl _)⟩
end Go.RV
