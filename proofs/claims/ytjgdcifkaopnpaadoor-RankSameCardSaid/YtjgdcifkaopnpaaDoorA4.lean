/- Contracts of functions of chapter 5: awake; VectorJoins walked. Conditions: none. -/
import Derived.Test.YtjgdcifkaopnpaaDoorA3
set_option maxRecDepth 20000
set_option linter.unusedVariables false
set_option linter.unusedSimpArgs false
namespace Go.RV
open Go Go.Proofs

theorem eqDotF (r n r2 n2 : Int) (w : World) : (Op.eqFields 9999 #[.int .u8 r, .int .u32 n] #[.int .u8 r2, .int .u32 n2] (Tryd.prog.fieldsOf 42).toList).run Tryd.prog w = .ok ((r == r2) && ((n == n2) && true)) w := by
  simp only [Program.fieldsOf, Tryd.underlying42]
  exact eqF_cons (d := 9998) rfl rfl rfl (.int Tryd.underlying5) (eqF_cons rfl rfl rfl (.int Tryd.underlying22) eqF_nil)
theorem fieldsDot : Tryd.prog.underlying 42 = some (.struct (Tryd.prog.fieldsOf 42)) := by
  unfold Program.fieldsOf
  rw [Tryd.underlying42]
theorem eqDot (r n r2 n2 : Int) {ox oy : Operand} {w : World} {K : Value → World → Prop} (k : K (.bool ((r == r2) && ((n == n2) && true))) w) :
    SemN Tryd.prog (do eqGuard .eql 42 ox oy (dotV r n) (dotV r2 n2); binOp .eql 42 (dotV r n) (dotV r2 n2)) w K :=
  eqS_i (by kernel_rfl) fieldsDot (by kernel_rfl) (eqDotF r n r2 n2 w) k
theorem neDot (r n r2 n2 : Int) {ox oy : Operand} {w : World} {K : Value → World → Prop} (k : K (.bool (!((r == r2) && ((n == n2) && true)))) w) :
    SemN Tryd.prog (do eqGuard .neq 42 ox oy (dotV r n) (dotV r2 n2); binOp .neq 42 (dotV r n) (dotV r2 n2)) w K :=
  neS_i (by kernel_rfl) fieldsDot (by kernel_rfl) (eqDotF r n r2 n2 w) k

def nextV (f : Nat → Int) (r : Int) : Nat → Int := if 8 ≤ r ∨ 65535 ≤ mostN f 8 then zeroF else upd f r.toNat (mostN f 8 + 1)
def nextR (f : Nat → Int) (r : Int) : Int := if 8 ≤ r ∨ 65535 ≤ mostN f 8 then 0 else r
def nextN (f : Nat → Int) (r : Int) : Int := if 8 ≤ r ∨ 65535 ≤ mostN f 8 then 0 else mostN f 8 + 1
def nextE (f : Nat → Int) (r : Int) : Int := if 8 ≤ r then 2 else if 65535 ≤ mostN f 8 then 12 else 0
def ofF (a b : Int) : Nat → Int
  | 0 => a
  | 1 => b
  | _ => 0
theorem ofF_ok (a b : Int) (ha : 0 ≤ a ∧ a ≤ 4294967295) (hb : 0 ≤ b ∧ b ≤ 4294967295) : ∀ j, j < 8 → 0 ≤ ofF a b j ∧ ofF a b j ≤ 4294967295 := by
  intro j hj
  match j with
  | 0 => exact ha
  | 1 => exact hb
  | j+2 => exact ⟨Int.le_refl _, by show (0 : Int) ≤ _; decide⟩
end Go.RV
