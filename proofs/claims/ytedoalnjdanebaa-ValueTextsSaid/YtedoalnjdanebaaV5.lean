/- Contracts of functions of chapter 1: texts that are written; items. Conditions: none. -/
import Derived.Test.YtedoalnjdanebaaV4
set_option maxRecDepth 20000
set_option linter.unusedVariables false
set_option linter.unusedSimpArgs false
namespace Go.RV
open Go Go.Proofs

/-- an item -/
structure Itm where
  kind : Int
  n : Int
  s : List UInt8
def itmV (x : Itm) : Value := .agg #[.int .u8 x.kind, .int .u32 x.n, .string (strY x.s)]
def encI (x : Itm) : List Value := [.int .u8 x.kind, .int .u32 x.n, .string (strY x.s)]
theorem encI_len (x : Itm) : (encI x).length = 3 := rfl
def itmOk (x : Itm) : Prop := 0 ≤ x.kind ∧ 0 ≤ x.n ∧ x.n ≤ 4294967295
def itmD (x : Itm) : List UInt8 :=
  if x.kind % 6 = 0 then be x.n 1 else if x.kind % 6 = 1 then be x.n 2 else if x.kind % 6 = 2 then be x.n 4 else if x.kind % 6 = 3 then varD x.n else if x.kind % 6 = 4 then x.s else textD x.s

theorem yI_congr {a b : Int} (h : a % 256 = b % 256) : yI a = yI b := by unfold yI; rw [h]
theorem be1w (n : Int) (h : 0 ≤ n) : be (IntKind.u8.wrap n) 1 = be n 1 := by
  rw [wrap_u8_mod]
  simp only [be, List.cons.injEq, and_true]
  exact yI_congr (by simp)
theorem be2w (n : Int) (h : 0 ≤ n) : be (IntKind.u16.wrap n) 2 = be n 2 := by
  rw [wrap_u16_mod]
  simp only [be, List.cons.injEq, and_true]
  refine ⟨yI_congr ?_, yI_congr ?_⟩
  · show n % 65536 / 256 % 256 = n / 256 % 256
    omega
  · simp

end Go.RV
