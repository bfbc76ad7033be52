/- Contracts of functions of chapter 6: the document's Check, Next, Drop, Write. Conditions: none. -/
import Derived.Test.YtjgdcifkaopnpaaDoorH7
set_option maxRecDepth 20000
set_option linter.unusedVariables false
set_option linter.unusedSimpArgs false
namespace Go.RV
open Go Go.Proofs

theorem vecF_len (f : Nat → Int) : (vecF f).length = 8 := rfl
theorem vgetR {f : Nat → Int} {vs : List Value} {i o : Nat} (h : i < 8) (ho : o = i) : (vecF f ++ vs)[o]? = some (.int .u32 (f i)) := by
  rw [List.getElem?_append_left (by rw [vecF_len]; omega)]
  exact vget h ho
section
variable {P : Program} {M : List Nat} {w0 w : World} {F L : LM}
/-- a number of a register's context, where the register's block lies -/
theorem ldr_f {b off : Nat} {f : Nat → Int} {vs : List Value} {e : TypeId} {fz : Nat × Nat} {i : Nat} {K : Value → Prop} (hS : Sf M w0 w F L) (k : Nat) (hk : L[k]? = some (b, .cells (vecF f ++ vs).toArray e fz)) (hi : i < 8) (ho : off = i) (h : K (.int .u32 (f i))) : Ld w ⟨b, off, none⟩ K :=
  ld_f hS k hk (show (vecF f ++ vs).toArray.toList[off]? = some (.int .u32 (f i)) from vgetR hi ho) h
theorem str_f {b off : Nat} {f : Nat → Int} {vs : List Value} {e : TypeId} {i : Nat} {x : Int} {K : World → Prop} (hS : Sf M w0 w F L) (k : Nat) (hk : L[k]? = some (b, .cells (vecF f ++ vs).toArray e (0, 0))) (hi : i < 8) (ho : off = i)
    (h : setLK L k (b, .cells (vecF (upd f i x) ++ vs).toArray e (0, 0)) fun L' => ∀ w', Sf M w0 w' F L' → K w') : StN P w ⟨b, off, none⟩ [.int .u32 x] K := by
  subst ho
  refine stN_f hS k hk (lo := 0) (hi := 0) (by simp [vecF]; omega) (by simp) rfl (setK_i ?_)
  have e1 : (vecF f ++ vs).toArray.toList.set off (Value.int .u32 x) = vecF (upd f off x) ++ vs := by
    show (vecF f ++ vs).set off _ = _
    rw [List.set_append_left _ _ (by rw [vecF_len]; exact hi), vset hi]
  rw [e1]
  exact h
end
theorem mayVB_iff (f : Nat → Int) : mayVB f = true ↔ ∀ j, j < 8 → f j ≤ 65535 := by
  unfold mayVB
  rw [Bool.not_eq_true', anyJ_false]
  constructor
  · intro h j hj; have := of_decide_eq_false (h j hj); omega
  · intro h j hj; exact decide_eq_false (by have := h j hj; omega)
theorem nextE_ok {f : Nat → Int} {r : Int} (h : nextE f r = 0) : ¬ 8 ≤ r ∧ ¬ 65535 ≤ mostN f 8 := by
  unfold nextE at h
  split at h
  · cases h
  · split at h
    · cases h
    · exact ⟨by assumption, by assumption⟩
end Go.RV
