/- The laws of chapter 5, walked: VectorTexts. Conditions: none. -/
import Derived.Test.YtnhlpmnehdackaaGreatA8
set_option maxRecDepth 20000
set_option linter.unusedVariables false
set_option linter.unusedSimpArgs false
namespace Go.RV
open Go Go.Proofs

theorem neVecF {f g : Nat → Int} (h : veq f g = true) {ox oy : Operand} {w : World} {K : Value → World → Prop} (k : K (.bool false) w) :
    SemN Tryz.prog (do eqGuard .neq 24 ox oy (vecV f) (vecV g); binOp .neq 24 (vecV f) (vecV g)) w K :=
  neVec f g (by rw [h]; exact k)
theorem neSame (a : ByteArray) : (!streq a a) = false := by unfold streq; simp
def putS (f : Nat → Int) : ByteArray := if mayVB f then strY (yI (bitsN f 8) :: numsN f 8) else ⟨#[]⟩
def putE (f : Nat → Int) : Int := if mayVB f then 0 else 4
def pdS (r n : Int) : ByteArray := if mayDotB r n then strY (dotT r n) else ⟨#[]⟩
def pdE (r n : Int) : Int := if mayDotB r n then 0 else 4
theorem put_d (f : Nat → Int) (hf : ∀ j, j < 8 → 0 ≤ f j ∧ f j ≤ 4294967295) (w : World) : Fc Tryz.prog 64 [vecV f] w fun v w' => v = .tuple #[.string (putS f), .int .i64 (putE f)] ∧ St [] w w' [] := put_c f hf w
end Go.RV
