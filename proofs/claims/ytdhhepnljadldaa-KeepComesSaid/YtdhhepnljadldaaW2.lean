/- Contracts of functions of chapter 9: what is handed a function. Conditions: none. -/
import Derived.Test.YtdhhepnljadldaaW1
set_option maxRecDepth 20000
set_option linter.unusedVariables false
set_option linter.unusedSimpArgs false
namespace Go.RV
open Go Go.Proofs

theorem encS_len (s : Stp) : (encS s).length = 2 := rfl
/-- a function value that tells p of a stamp, and changes nothing, wherever nothing that lay in w has turned -/
def Tells (w : World) (f : Value) (p : Stp → Bool) : Prop := ∀ x w', St [] w w' [] → Cv Try.prog f [stampV x] w' fun v w'' => v = .bool (p x) ∧ St [] w' w'' []

theorem indexFunc_c (A : Option Addr) (c : Nat) (xs : List Stp) (f : Value) (p : Stp → Bool) (w : World) (hR : Rd w A (flat encS xs)) (hn : xs.length ≤ 4611686018427387904) (hf : Tells w f p) :
    Fc Try.prog 35 [.slice A xs.length c, f] w fun v w' => v = .int .i64 (match xs.findIdx? p with | some i => (i : Int) | none => -1) ∧ St [] w w' [] := by
  refine fc_i TB_ok Try.func35 rfl (by kernel_rfl) ?_
  have hS := Sf.refl w
  repeat ((conv => whnf); first | (refine nw_f hS ?_; intro b w1 hS) | (refine ld_f hS 0 rfl rfl ?_) | (refine ldA_f hS 0 rfl rfl ?_) | (refine stN_f hS 0 rfl (Nat.le_of_ble_eq_true rfl) rfl rfl ?_; (conv => whnf); intro w1 hS) | (refine stM_f hS 0 rfl (Nat.le_of_ble_eq_true rfl) rfl ?_; (conv => whnf); intro w1 hS))
  refine loop_i TB_ok (fun i : Nat => [(8, .int .i64 i)]) (fun i w' => i ≤ xs.length ∧ (∀ j, j < i → ∀ h : j < xs.length, p xs[j] = false) ∧ St [] w w' []) (fun i => xs.length - i) 0 rfl ⟨Nat.zero_le _, fun j hj => by omega, hS.nil⟩ ?_
  rintro i us w' ⟨hi, hno, hS⟩
  replace hS := hS.sf
  (conv => whnf)
  refine br_i (fun hb => ?_) (fun hb => ?_)
  · have hlt : i < xs.length := by simpa using hb
    repeat ((conv => whnf); first | (refine nw_f hS ?_; intro b w1 hS) | (refine ld_f hS 0 rfl rfl ?_) | (refine ldA_f hS 0 rfl rfl ?_) | (refine stN_f hS 0 rfl (Nat.le_of_ble_eq_true rfl) rfl rfl ?_; (conv => whnf); intro w1 hS) | (refine stM_f hS 0 rfl (Nat.le_of_ble_eq_true rfl) rfl ?_; (conv => whnf); intro w1 hS))
    refine .mk ⟨by omega, by omega⟩ ?_
    refine ix_rd (hR.below hS.nil) (flat_ne encS_len (by omega) hlt) ?_
    intro b off hA hc
    (conv => whnf)
    refine ldN_el encS_len hc hlt rfl rfl ?_
    (conv => whnf)
    refine cv_i (Cv.mono (hf xs[i] w' hS.nil) ?_)
    rintro v w'' ⟨rfl, hS'⟩
    replace hS := hS.call0 hS'
    (conv => whnf)
    refine br_i (fun hp => ?_) (fun hp => ?_)
    · repeat ((conv => whnf); first | (refine nw_f hS ?_; intro b w1 hS) | (refine ld_f hS 0 rfl rfl ?_) | (refine ldA_f hS 0 rfl rfl ?_) | (refine stN_f hS 0 rfl (Nat.le_of_ble_eq_true rfl) rfl rfl ?_; (conv => whnf); intro w1 hS) | (refine stM_f hS 0 rfl (Nat.le_of_ble_eq_true rfl) rfl ?_; (conv => whnf); intro w1 hS))
      refine ⟨?_, hS.nil⟩
      have : xs.findIdx? p = some i := by
        rw [List.findIdx?_eq_some_iff_getElem]
        exact ⟨hlt, hp, fun j hj => by simp [hno j hj (by omega)]⟩
      rw [this]
    · repeat ((conv => whnf); first | (refine nw_f hS ?_; intro b w1 hS) | (refine ld_f hS 0 rfl rfl ?_) | (refine ldA_f hS 0 rfl rfl ?_) | (refine stN_f hS 0 rfl (Nat.le_of_ble_eq_true rfl) rfl rfl ?_; (conv => whnf); intro w1 hS) | (refine stM_f hS 0 rfl (Nat.le_of_ble_eq_true rfl) rfl ?_; (conv => whnf); intro w1 hS))
      refine ⟨rfl, i + 1, ?_, ⟨by omega, ?_, hS.nil⟩, by omega⟩
      · rw [wi hlt hn]
        rfl
      · intro j hj h
        by_cases e : j = i
        · subst e; exact hp
        · exact hno j (by omega) h
  · have hge : i = xs.length := by simp at hb; omega
    repeat ((conv => whnf); first | (refine nw_f hS ?_; intro b w1 hS) | (refine ld_f hS 0 rfl rfl ?_) | (refine ldA_f hS 0 rfl rfl ?_) | (refine stN_f hS 0 rfl (Nat.le_of_ble_eq_true rfl) rfl rfl ?_; (conv => whnf); intro w1 hS) | (refine stM_f hS 0 rfl (Nat.le_of_ble_eq_true rfl) rfl ?_; (conv => whnf); intro w1 hS))
    refine ⟨?_, hS.nil⟩
    have : xs.findIdx? p = none := by
      rw [List.findIdx?_eq_none_iff]
      intro x hx
      obtain ⟨j, hj, rfl⟩ := List.getElem_of_mem hx
      simp [hno j (by omega) hj]
    rw [this]
end Go.RV
