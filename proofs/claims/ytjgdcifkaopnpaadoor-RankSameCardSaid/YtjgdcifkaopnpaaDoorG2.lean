/- Contracts of functions of chapter 8: which group has a value. Conditions: none. -/
import Derived.Test.YtjgdcifkaopnpaaDoorG1
set_option maxRecDepth 20000
set_option linter.unusedVariables false
set_option linter.unusedSimpArgs false
namespace Go.RV.C08
open Go Go.Proofs

/-- a function value that tells sm of two texts, and changes nothing, wherever nothing that lay in w has turned -/
def TellsS (w : World) (f : Value) (sm : List UInt8 → List UInt8 → Bool) : Prop := ∀ a b w', a.length ≤ 1073741824 → b.length ≤ 1073741824 → St [] w w' [] → Cv Tryd.prog f [.string (strY a), .string (strY b)] w' fun v w'' => v = .bool (sm a b) ∧ St [] w' w'' []
def TellsG (w : World) (f : Value) (p : Gx → Bool) (gs : List Gx) : Prop := ∀ x ∈ gs, ∀ w', St [] w w' [] → Cv Tryd.prog f [.agg (encG x).toArray] w' fun v w'' => v = .bool (p x) ∧ St [] w' w'' []
theorem TellsS.below {w w' : World} {f : Value} {sm : List UInt8 → List UInt8 → Bool} (h : TellsS w f sm) (hS : St [] w w' []) : TellsS w' f sm := fun a b w'' ha hb h' => h a b w'' ha hb (hS.call0 h')
theorem indexG_c (A : Option Addr) (c : Nat) (xs : List Gx) (f : Value) (p : Gx → Bool) (w : World) (hR : Rd w A (flat encG xs)) (hn : xs.length ≤ 4611686018427387904) (hf : TellsG w f p xs) :
    Fc Tryd.prog 63 [.slice A xs.length c, f] w fun v w' => v = .int .i64 (match xs.findIdx? p with | some i => (i : Int) | none => -1) ∧ St [] w w' [] := by
  refine fc_i TB_ok Tryd.func63 rfl (by kernel_rfl) ?_
  have hS := Sf.refl w
  repeat ((conv => whnf); first | (refine nw_f hS ?_; intro b w1 hS) | (refine ld_f hS 0 rfl rfl ?_) | (refine ldA_f hS 0 rfl rfl ?_) | (refine stN_f hS 0 rfl (Nat.le_of_ble_eq_true rfl) rfl rfl ?_; (conv => whnf); intro w1 hS) | (refine stM_f hS 0 rfl (Nat.le_of_ble_eq_true rfl) rfl ?_; (conv => whnf); intro w1 hS))
  refine loop_i TB_ok (fun i : Nat => [(8, .int .i64 i)]) (fun i w' => i ≤ xs.length ∧ (∀ j, j < i → ∀ h : j < xs.length, p xs[j] = false) ∧ St [] w w' []) (fun i => xs.length - i) 0 rfl ⟨Nat.zero_le _, fun j hj => by omega, hS.nil⟩ ?_
  rintro i us w' ⟨hi, hno, hS⟩
  replace hS := hS.sf
  (conv => whnf)
  refine br_i (fun hb => ?_) (fun hb => ?_)
  · have hlt : i < xs.length := by simpa using hb
    repeat ((conv => whnf); first | (refine nw_f hS ?_; intro b w1 hS) | (refine ld_f hS 0 rfl rfl ?_) | (refine ldA_f hS 0 rfl rfl ?_) | (refine stN_f hS 0 rfl (Nat.le_of_ble_eq_true rfl) rfl rfl ?_; (conv => whnf); intro w1 hS) | (refine stM_f hS 0 rfl (Nat.le_of_ble_eq_true rfl) rfl ?_; (conv => whnf); intro w1 hS))
    refine .mk ⟨by omega, by omega⟩ ?_
    refine ix_rd (hR.below hS.nil) (flat_ne encG_len (by omega) hlt) ?_
    intro b off hA hc
    (conv => whnf)
    refine ldN_el encG_len hc hlt rfl rfl ?_
    (conv => whnf)
    refine cv_i (Cv.mono (hf xs[i] (List.getElem_mem hlt) w' hS.nil) ?_)
    rintro v w'' ⟨rfl, hS'⟩
    replace hS := hS.call0 hS'
    (conv => whnf)
    refine br_i (fun hp => ?_) (fun hp => ?_)
    · repeat ((conv => whnf); first | (refine nw_f hS ?_; intro b w1 hS) | (refine ld_f hS 0 rfl rfl ?_) | (refine ldA_f hS 0 rfl rfl ?_) | (refine stN_f hS 0 rfl (Nat.le_of_ble_eq_true rfl) rfl rfl ?_; (conv => whnf); intro w1 hS) | (refine stM_f hS 0 rfl (Nat.le_of_ble_eq_true rfl) rfl ?_; (conv => whnf); intro w1 hS))
      refine ⟨?_, hS.nil⟩
      have : xs.findIdx? p = some i := by
        rw [List.findIdx?_eq_some_iff_getElem]
        exact ⟨hlt, hp, fun j hj => by simp [hno j hj (by omega)]⟩
      rw [this]
    · repeat ((conv => whnf); first | (refine nw_f hS ?_; intro b w1 hS) | (refine ld_f hS 0 rfl rfl ?_) | (refine ldA_f hS 0 rfl rfl ?_) | (refine stN_f hS 0 rfl (Nat.le_of_ble_eq_true rfl) rfl rfl ?_; (conv => whnf); intro w1 hS) | (refine stM_f hS 0 rfl (Nat.le_of_ble_eq_true rfl) rfl ?_; (conv => whnf); intro w1 hS))
      refine ⟨rfl, i + 1, ?_, ⟨by omega, ?_, hS.nil⟩, by omega⟩
      · rw [wi hlt hn]
        rfl
      · intro j hj h
        by_cases e : j = i
        · subst e; exact hp
        · exact hno j (by omega) h
  · have hge : i = xs.length := by simp at hb; omega
    repeat ((conv => whnf); first | (refine nw_f hS ?_; intro b w1 hS) | (refine ld_f hS 0 rfl rfl ?_) | (refine ldA_f hS 0 rfl rfl ?_) | (refine stN_f hS 0 rfl (Nat.le_of_ble_eq_true rfl) rfl rfl ?_; (conv => whnf); intro w1 hS) | (refine stM_f hS 0 rfl (Nat.le_of_ble_eq_true rfl) rfl ?_; (conv => whnf); intro w1 hS))
    refine ⟨?_, hS.nil⟩
    have : xs.findIdx? p = none := by
      rw [List.findIdx?_eq_none_iff]
      intro x hx
      obtain ⟨j, hj, rfl⟩ := List.getElem_of_mem hx
      simp [hno j (by omega) hj]
    rw [this]
theorem eqG_c (x : Gx) (y : Sx) (bs bt : Nat) (f : Value) (sm : List UInt8 → List UInt8 → Bool) (w : World) (hx : x.v.length ≤ 1073741824) (hy : y.v.length ≤ 1073741824) (hf : TellsS w f sm)
    (hH : Holds w [(bs, .cells #[f] 59 (0, 0)), (bt, .cells (encX y).toArray 44 (0, 0))]) :
    Fc Tryd.prog 64 [.agg (encG x).toArray, .pointer (some ⟨bs, 0, none⟩), .pointer (some ⟨bt, 0, none⟩)] w fun v w' => v = .bool (sm x.v y.v) ∧ St [] w w' [] := by
  refine fc_i TB_ok Tryd.func64 rfl (by kernel_rfl) ?_
  have hS := Sf.refl w
  repeat ((conv => whnf); first | (apply q_i; focus (intro w1 hS; (conv => whnf); first | exact ⟨rfl, rfl⟩ | ((refine ld_f hS 0 rfl rfl ?_); (conv => whnf); exact ⟨rfl, rfl⟩) | ((refine ldA_f hS 0 rfl rfl ?_); (conv => whnf); exact ⟨rfl, rfl⟩) | ((refine ld_h hS.nil hH 0 rfl rfl ?_); (conv => whnf); exact ⟨rfl, rfl⟩) | ((refine ld_h hS.nil hH 1 rfl rfl ?_); (conv => whnf); exact ⟨rfl, rfl⟩))) | (refine nw_f hS ?_; intro b w1 hS) | (refine as_i hS ?_) | (refine as_i (hS.subs (List.nil_sublist _) (by repeat (first | exact List.Sublist.refl _ | apply List.Sublist.cons_cons | apply List.Sublist.cons))) ?_) | (refine as_i (hS.subs (List.Sublist.refl _) (by repeat (first | exact List.Sublist.refl _ | apply List.Sublist.cons_cons | apply List.Sublist.cons))) ?_) | (refine bar_f hS ?_) | (refine ld_f hS 0 rfl rfl ?_) | (refine ldA_f hS 0 rfl rfl ?_) | (refine stN_f hS 0 rfl (Nat.le_of_ble_eq_true rfl) rfl rfl ?_; (conv => whnf); intro w1 hS) | (refine stM_f hS 0 rfl (Nat.le_of_ble_eq_true rfl) rfl ?_; (conv => whnf); intro w1 hS) | (refine ld_h hS.nil hH 0 rfl rfl ?_) | (refine ld_h hS.nil hH 1 rfl rfl ?_) | (refine drawf TB_ok rfl (by kernel_rfl) (by kernel_rfl) hS (List.Sublist.refl _) (List.Sublist.refl _) ?_; intro w1 hS) | (refine br_t (by assumption) ?_) | (refine br_f (by assumption) ?_))
  refine cv_i (Cv.mono (hf x.v y.v _ hx hy hS.nil) ?_)
  rintro v w1 ⟨rfl, hS'⟩
  replace hS := hS.call0 hS'
  repeat ((conv => whnf); first | (apply q_i; focus (intro w1 hS; (conv => whnf); first | exact ⟨rfl, rfl⟩ | ((refine ld_f hS 0 rfl rfl ?_); (conv => whnf); exact ⟨rfl, rfl⟩) | ((refine ldA_f hS 0 rfl rfl ?_); (conv => whnf); exact ⟨rfl, rfl⟩))) | (refine nw_f hS ?_; intro b w1 hS) | (refine as_i hS ?_) | (refine as_i (hS.subs (List.nil_sublist _) (by repeat (first | exact List.Sublist.refl _ | apply List.Sublist.cons_cons | apply List.Sublist.cons))) ?_) | (refine as_i (hS.subs (List.Sublist.refl _) (by repeat (first | exact List.Sublist.refl _ | apply List.Sublist.cons_cons | apply List.Sublist.cons))) ?_) | (refine bar_f hS ?_) | (refine ld_f hS 0 rfl rfl ?_) | (refine ldA_f hS 0 rfl rfl ?_) | (refine stN_f hS 0 rfl (Nat.le_of_ble_eq_true rfl) rfl rfl ?_; (conv => whnf); intro w1 hS) | (refine stM_f hS 0 rfl (Nat.le_of_ble_eq_true rfl) rfl ?_; (conv => whnf); intro w1 hS) | (refine drawf TB_ok rfl (by kernel_rfl) (by kernel_rfl) hS (List.Sublist.refl _) (List.Sublist.refl _) ?_; intro w1 hS) | (refine br_t (by assumption) ?_) | (refine br_f (by assumption) ?_))
  exact ⟨rfl, hS.nil⟩
end Go.RV.C08
