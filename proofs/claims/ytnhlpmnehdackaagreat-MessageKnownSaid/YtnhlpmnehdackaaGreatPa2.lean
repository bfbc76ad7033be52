/- Contracts of functions of chapter 4: the document's names. Conditions: none. -/
import Derived.Test.YtnhlpmnehdackaaGreatPa1
import Derived.Test.YtnhlpmnehdackaaGreatRvY
import Derived.Lib.DecodeN
set_option maxRecDepth 20000
set_option linter.unusedVariables false
set_option linter.unusedSimpArgs false
namespace Go.RV.C04
open Go Go.Proofs Go.RowKit

theorem bads_hit {l : List UInt8} {i : Nat} (h : i < l.length) (hb : badC l[i].toNat = true) : bads l = true := List.any_eq_true.2 ⟨_, List.getElem_mem h, hb⟩
theorem bads_no {l : List UInt8} (h : ∀ j (h : j < l.length), badC l[j].toNat = false) : bads l = false := by
  unfold bads
  rw [List.any_eq_false]
  intro x hx
  obtain ⟨j, hj, rfl⟩ := List.getElem_of_mem hx
  rw [h j hj]
  decide
theorem rcheck_c (l : List UInt8) (hl : l.length ≤ 4611686018427387904) (w : World) : Fc Tryz.prog 97 [.string (strY l)] w fun v w' => v = .int .i64 (checkE l) ∧ St [] w w' [] := by
  refine fc_i TB_ok Tryz.func97 rfl (by kernel_rfl) ?_
  have hS := Sf.refl w
  have hz := strY_size l
  by_cases h0 : l.length = 0
  · have g : (((strY l).size : Int) == 0) = true := by rw [hz, h0]; rfl
    have he : checkE l = 4 := by unfold checkE; rw [List.eq_nil_of_length_eq_zero h0]; rfl
    rw [he]
    repeat ((conv => whnf); first | (apply q_i; focus (intro w1 hS; (conv => whnf); first | exact ⟨rfl, rfl⟩)) | (refine nw_f hS ?_; intro b w1 hS) | (refine as_i hS ?_) | (refine as_i (hS.subs (List.nil_sublist _) (by repeat (first | exact List.Sublist.refl _ | apply List.Sublist.cons_cons | apply List.Sublist.cons))) ?_) | (refine as_i (hS.subs (List.Sublist.refl _) (by repeat (first | exact List.Sublist.refl _ | apply List.Sublist.cons_cons | apply List.Sublist.cons))) ?_) | (refine bar_f hS ?_) | (refine drawf TB_ok rfl (by kernel_rfl) (by kernel_rfl) hS (List.Sublist.refl _) (List.Sublist.refl _) ?_; intro w1 hS) | (refine br_t (by assumption) ?_) | (refine br_f (by assumption) ?_))
    exact ⟨rfl, hS.nil⟩
  · have g : (((strY l).size : Int) == 0) = false := beq_eq_false_iff_ne.2 (by omega)
    have hne : l.isEmpty = false := by cases l with | nil => exact absurd rfl h0 | cons a b => rfl
    repeat ((conv => whnf); first | (apply q_i; focus (intro w1 hS; (conv => whnf); first | exact ⟨rfl, rfl⟩)) | (refine nw_f hS ?_; intro b w1 hS) | (refine as_i hS ?_) | (refine as_i (hS.subs (List.nil_sublist _) (by repeat (first | exact List.Sublist.refl _ | apply List.Sublist.cons_cons | apply List.Sublist.cons))) ?_) | (refine as_i (hS.subs (List.Sublist.refl _) (by repeat (first | exact List.Sublist.refl _ | apply List.Sublist.cons_cons | apply List.Sublist.cons))) ?_) | (refine bar_f hS ?_) | (refine drawf TB_ok rfl (by kernel_rfl) (by kernel_rfl) hS (List.Sublist.refl _) (List.Sublist.refl _) ?_; intro w1 hS) | (refine br_t (by assumption) ?_) | (refine br_f (by assumption) ?_))
    refine loop_i TB_ok (fun i : Nat => [(3, .int .i64 i)]) (fun i w' => i ≤ l.length ∧ (∀ j (h : j < l.length), j < i → badC l[j].toNat = false) ∧ Sf [] w w' [] []) (fun i => l.length - i) 0 rfl ⟨Nat.zero_le _, fun j h h2 => by omega, hS⟩ ?_
    rintro i us w2 ⟨hi, hj, hS⟩
    by_cases hlt : i < l.length
    · have h1 : decide ((i : Int) < ((strY l).size : Int)) = true := decide_eq_true (by omega)
      have hsx := byteAt_strY hlt
      replace hsx : byteAt (strY l) ((i : Int)).toNat = (l[i].toNat : Int) := hsx
      obtain ⟨b1, e1⟩ : ∃ b1, decide (byteAt (strY l) ((i : Int)).toNat < 33) = b1 := ⟨_, rfl⟩
      obtain ⟨b2, e2⟩ : ∃ b2, decide (125 < byteAt (strY l) ((i : Int)).toNat) = b2 := ⟨_, rfl⟩
      obtain ⟨b3, e3⟩ : ∃ b3, (byteAt (strY l) ((i : Int)).toNat == 47) = b3 := ⟨_, rfl⟩
      have hbb : badC l[i].toNat = (b1 || (b2 || b3)) := by
        rw [← e1, ← e2, ← e3, hsx]
        unfold badC
        congr 1
        · exact decide_eq_decide.2 (by omega)
        · congr 1
          · exact decide_eq_decide.2 (by omega)
          · rw [Bool.eq_iff_iff]; simp; omega
      cases b1 with
      | true =>
        have he : checkE l = 4 := by unfold checkE; rw [bads_hit hlt hbb]; simp
        rw [he]
        repeat ((conv => whnf); first | (apply q_i; focus (intro w1 hS; (conv => whnf); first | exact ⟨rfl, rfl⟩ | ((refine .mk ⟨by omega, by omega⟩ ?_); (conv => whnf); exact ⟨rfl, rfl⟩))) | (refine nw_f hS ?_; intro b w1 hS) | (refine as_i hS ?_) | (refine as_i (hS.subs (List.nil_sublist _) (by repeat (first | exact List.Sublist.refl _ | apply List.Sublist.cons_cons | apply List.Sublist.cons))) ?_) | (refine as_i (hS.subs (List.Sublist.refl _) (by repeat (first | exact List.Sublist.refl _ | apply List.Sublist.cons_cons | apply List.Sublist.cons))) ?_) | (refine bar_f hS ?_) | (refine .mk ⟨by omega, by omega⟩ ?_) | (refine drawf TB_ok rfl (by kernel_rfl) (by kernel_rfl) hS (List.Sublist.refl _) (List.Sublist.refl _) ?_; intro w1 hS) | (refine br_t (by assumption) ?_) | (refine br_f (by assumption) ?_))
        exact ⟨rfl, hS.nil⟩
      | false =>
        cases b2 with
        | true =>
          have he : checkE l = 4 := by unfold checkE; rw [bads_hit hlt hbb]; simp
          rw [he]
          repeat ((conv => whnf); first | (apply q_i; focus (intro w1 hS; (conv => whnf); first | exact ⟨rfl, rfl⟩ | ((refine .mk ⟨by omega, by omega⟩ ?_); (conv => whnf); exact ⟨rfl, rfl⟩))) | (refine nw_f hS ?_; intro b w1 hS) | (refine as_i hS ?_) | (refine as_i (hS.subs (List.nil_sublist _) (by repeat (first | exact List.Sublist.refl _ | apply List.Sublist.cons_cons | apply List.Sublist.cons))) ?_) | (refine as_i (hS.subs (List.Sublist.refl _) (by repeat (first | exact List.Sublist.refl _ | apply List.Sublist.cons_cons | apply List.Sublist.cons))) ?_) | (refine bar_f hS ?_) | (refine .mk ⟨by omega, by omega⟩ ?_) | (refine drawf TB_ok rfl (by kernel_rfl) (by kernel_rfl) hS (List.Sublist.refl _) (List.Sublist.refl _) ?_; intro w1 hS) | (refine br_t (by assumption) ?_) | (refine br_f (by assumption) ?_))
          exact ⟨rfl, hS.nil⟩
        | false =>
          cases b3 with
          | true =>
            have he : checkE l = 4 := by unfold checkE; rw [bads_hit hlt hbb]; simp
            rw [he]
            repeat ((conv => whnf); first | (apply q_i; focus (intro w1 hS; (conv => whnf); first | exact ⟨rfl, rfl⟩ | ((refine .mk ⟨by omega, by omega⟩ ?_); (conv => whnf); exact ⟨rfl, rfl⟩))) | (refine nw_f hS ?_; intro b w1 hS) | (refine as_i hS ?_) | (refine as_i (hS.subs (List.nil_sublist _) (by repeat (first | exact List.Sublist.refl _ | apply List.Sublist.cons_cons | apply List.Sublist.cons))) ?_) | (refine as_i (hS.subs (List.Sublist.refl _) (by repeat (first | exact List.Sublist.refl _ | apply List.Sublist.cons_cons | apply List.Sublist.cons))) ?_) | (refine bar_f hS ?_) | (refine .mk ⟨by omega, by omega⟩ ?_) | (refine drawf TB_ok rfl (by kernel_rfl) (by kernel_rfl) hS (List.Sublist.refl _) (List.Sublist.refl _) ?_; intro w1 hS) | (refine br_t (by assumption) ?_) | (refine br_f (by assumption) ?_))
            exact ⟨rfl, hS.nil⟩
          | false =>
            repeat ((conv => whnf); first | (apply q_i; focus (intro w1 hS; (conv => whnf); first | exact ⟨rfl, rfl⟩ | ((refine .mk ⟨by omega, by omega⟩ ?_); (conv => whnf); exact ⟨rfl, rfl⟩))) | (refine nw_f hS ?_; intro b w1 hS) | (refine as_i hS ?_) | (refine as_i (hS.subs (List.nil_sublist _) (by repeat (first | exact List.Sublist.refl _ | apply List.Sublist.cons_cons | apply List.Sublist.cons))) ?_) | (refine as_i (hS.subs (List.Sublist.refl _) (by repeat (first | exact List.Sublist.refl _ | apply List.Sublist.cons_cons | apply List.Sublist.cons))) ?_) | (refine bar_f hS ?_) | (refine .mk ⟨by omega, by omega⟩ ?_) | (refine drawf TB_ok rfl (by kernel_rfl) (by kernel_rfl) hS (List.Sublist.refl _) (List.Sublist.refl _) ?_; intro w1 hS) | (refine br_t (by assumption) ?_) | (refine br_f (by assumption) ?_))
            refine ⟨rfl, i + 1, ?_, ⟨by omega, fun j h h2 => ?_, hS⟩, by omega⟩
            · rw [wi hlt (by omega)]
              rfl
            · by_cases e : j = i
              · subst e; exact hbb
              · exact hj j h (by omega)
    · have h1 : decide ((i : Int) < ((strY l).size : Int)) = false := decide_eq_false (by omega)
      have hb : bads l = false := bads_no fun j h => hj j h (by omega)
      unfold checkE
      rw [hne, hb]
      by_cases h8 : 8 < l.length
      · have g8 : decide ((8 : Int) < ((strY l).size : Int)) = true := decide_eq_true (by omega)
        rw [if_neg (by decide), if_pos h8]
        repeat ((conv => whnf); first | (apply q_i; focus (intro w1 hS; (conv => whnf); first | exact ⟨rfl, rfl⟩)) | (refine nw_f hS ?_; intro b w1 hS) | (refine as_i hS ?_) | (refine as_i (hS.subs (List.nil_sublist _) (by repeat (first | exact List.Sublist.refl _ | apply List.Sublist.cons_cons | apply List.Sublist.cons))) ?_) | (refine as_i (hS.subs (List.Sublist.refl _) (by repeat (first | exact List.Sublist.refl _ | apply List.Sublist.cons_cons | apply List.Sublist.cons))) ?_) | (refine bar_f hS ?_) | (refine drawf TB_ok rfl (by kernel_rfl) (by kernel_rfl) hS (List.Sublist.refl _) (List.Sublist.refl _) ?_; intro w1 hS) | (refine br_t (by assumption) ?_) | (refine br_f (by assumption) ?_))
        exact ⟨rfl, hS.nil⟩
      · have g8 : decide ((8 : Int) < ((strY l).size : Int)) = false := decide_eq_false (by omega)
        rw [if_neg (by decide), if_neg h8]
        repeat ((conv => whnf); first | (apply q_i; focus (intro w1 hS; (conv => whnf); first | exact ⟨rfl, rfl⟩)) | (refine nw_f hS ?_; intro b w1 hS) | (refine as_i hS ?_) | (refine as_i (hS.subs (List.nil_sublist _) (by repeat (first | exact List.Sublist.refl _ | apply List.Sublist.cons_cons | apply List.Sublist.cons))) ?_) | (refine as_i (hS.subs (List.Sublist.refl _) (by repeat (first | exact List.Sublist.refl _ | apply List.Sublist.cons_cons | apply List.Sublist.cons))) ?_) | (refine bar_f hS ?_) | (refine drawf TB_ok rfl (by kernel_rfl) (by kernel_rfl) hS (List.Sublist.refl _) (List.Sublist.refl _) ?_; intro w1 hS) | (refine br_t (by assumption) ?_) | (refine br_f (by assumption) ?_))
        exact ⟨rfl, hS.nil⟩
theorem dec_len : ∀ k u : Nat, u ≤ k → (Lib.decDigits u).length ≤ u + 1
  | 0, u, hu => by
    rw [Lib.decDigits, dif_pos (by omega)]
    simp
  | k+1, u, hu => by
    rw [Lib.decDigits]
    split
    · simp
    · have := dec_len k (u / 10) (by omega)
      simp only [List.length_append, List.length_singleton]
      omega
theorem tabIs_of_mem {P : Program} {W : World} {name : String} {k : IntKind} {zs : List Int} {g : Nat} {t e : TypeId} {n : Nat}
    (hg : P.globalNamed name = some g) (hty : (P.globals[g]?).map (·.type) = some t) (ht : P.underlying t = some (.array n e)) (he : P.underlying e = some (.int k)) (hce : P.cellsOf e = 1) (hct : P.cellsOf t = n) :
    ∀ {l : List (String × DataW Unit)}, (name, Lib.tabData k zs) ∈ l → laidMet P l W → Lib.TabIs P W name k zs := by
  intro l hm h
  obtain ⟨ps, h, hrest⟩ := h
  clear hrest
  induction l generalizing ps with
  | nil => cases hm
  | cons x r ih =>
    obtain ⟨nm, d⟩ := x
    obtain ⟨g', t', cs, fuel, p, q, hg', ht', hvar, hd, hr, _⟩ := h
    rcases List.mem_cons.1 hm with e | hm
    · cases e
      obtain rfl := Option.some.inj (hg.symm.trans hg')
      obtain rfl := Option.some.inj (hty.symm.trans ht')
      unfold Lib.TabIs
      rw [hvar, ← Lib.cells_of_tab ht he hce hct hd]
    · exact ih hm q hr
end Go.RV.C04
