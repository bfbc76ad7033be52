/- The laws of chapter 7, walked: ValueTells. Conditions: none. -/
import Derived.Test.YtnhlpmnehdackaaGreatD7
import Derived.Test.YtnhlpmnehdackaaGreatRvU
set_option maxRecDepth 20000
set_option linter.unusedVariables false
set_option linter.unusedSimpArgs false
namespace Go.RV
open Go Go.Proofs

def val2V (d1 : Bool) (n1 : Int) (A1 : Option Addr) (l1 c1 : Nat) (d2 : Bool) (n2 : Int) (A2 : Option Addr) (l2 c2 : Nat) : Value := .agg #[.bool d1, .int .i64 n1, .slice A1 l1 c1, .bool d2, .int .i64 n2, .slice A2 l2 c2]
theorem neSame (a : ByteArray) : (!streq a a) = false := by unfold streq; simp
theorem flatU (ys : List Int) : flat encU ys = ys.map (Value.int .u32) := by
  induction ys with
  | nil => rfl
  | cons y ys ih => simp [flat, encU] at *; exact ih
theorem stU_f {M : List Nat} {w0 w : World} {F L : LM} {b off : Nat} {ys : List Int} {e : TypeId} {i : Nat} {x : Int} {K : World → Prop} (hS : Sf M w0 w F L) (k : Nat) (hk : L[k]? = some (b, .cells (flat encU ys).toArray e (0, 0))) (hi : i < ys.length) (ho : off = i)
    (h : setLK L k (b, .cells (flat encU (ys.set i x)).toArray e (0, 0)) fun L' => ∀ w', Sf M w0 w' F L' → K w') : StN Tryz.prog w ⟨b, off, none⟩ [.int .u32 x] K := by
  subst ho
  refine stN_f hS k hk (lo := 0) (hi := 0) (by simpa [flatU] using hi) (by simp) rfl (setK_i ?_)
  rw [show (flat encU ys).toArray.toList.set off (Value.int .u32 x) = flat encU (ys.set off x) from by rw [flatU, flatU, List.map_set]]
  exact h
theorem sameB_self (d : Bool) (n : Int) (xs : List Int) : sameB d n xs d n xs = true := by unfold sameB; cases d <;> simp

end Go.RV
