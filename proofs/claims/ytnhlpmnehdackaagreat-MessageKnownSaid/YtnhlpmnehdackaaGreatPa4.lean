/- Contracts of functions of chapter 4: numbers as digits. Conditions: none. -/
import Derived.Test.YtnhlpmnehdackaaGreatPa3
import Derived.Test.YtnhlpmnehdackaaGreatPa2
import Derived.Test.YtnhlpmnehdackaaGreatRvT
set_option maxRecDepth 20000
set_option linter.unusedVariables false
set_option linter.unusedSimpArgs false
namespace Go.RV.C04
open Go Go.Proofs Go.RowKit

def Tab10 (w : World) : Prop := Lib.TabIs Tryz.prog w "internal/strconv.uint64pow10" .u64 Lib.pow10Tab
theorem Tab10.below {w w' : World} {L : LM} (h : Tab10 w) (hS : St [] w w' L) : Tab10 w' := Lib.tabBelow_of_tabIs h w' hS.below
/-- the beginning of an array, as a slice -/
theorem slArr_i {P : Program} {o : Oper} {ρ : Operand → Value} {t e : TypeId} {x hi : Operand} {b off : Nat} {n m : Nat} {w : World} {K : Value → World → Prop} {sz : Nat} (ho : o.op = .slice t x none (some hi) none) (hx : ρ x = .pointer (some ⟨b, off, none⟩)) (hh : ρ hi = .int .i64 (n : Int)) (hu : P.underlying t = some (.array m e)) (hsz : (sizeOf e).run P w = .ok sz w) (hn : n ≤ m) (hpos : 0 < m)
    (k : K (.slice (some ⟨b, off, none⟩) n m) w) : SemN P (execOp ρ o) w (NextW P K) := by
  have hal : P.arrayLen t = m := by simp [Program.arrayLen, hu]
  have hel : P.elem t = e := by simp [Program.elem, hu]
  refine ⟨SemW.of_run (a := .value (.slice (some ⟨b, off, none⟩) n m)) (w' := w) ?_ k⟩
  have hrun := run_sliceAt_array_h (P := P) w t ⟨b, off, none⟩ (by simp [Program.arrayLen, Program.elem, hu]) .i64 (n : Int) (by omega) (by rw [hal]; omega)
  rw [hel, hsz, hal] at hrun
  unfold execOp
  simp only [ho, hx, hh, Option.map_none, Option.map_some, Sem.run_bind, hrun, Result.andThen_ok]
  simp only [slicedAt]
  rw [if_neg (by omega), add_none]
  simp
theorem cutP_len (c : UInt8) : ∀ l : List UInt8, (cutP c l).1.length ≤ l.length ∧ (cutP c l).2.1.length ≤ l.length
  | [] => ⟨Nat.le_refl _, Nat.le_refl _⟩
  | b :: r => by
    unfold cutP
    have := cutP_len c r
    split
    · simp
    · simp; omega
end Go.RV.C04
