/- The library's contracts (171, w17), laid at this program's functions and types. Conditions: none. -/
import Derived.Test.YtnhlpmnehdackaaRvT
import Derived.Shelf.Strconv.Itoa3
import Derived.Shelf.Strings.FuncGrows
set_option maxRecDepth 100000
set_option linter.unusedVariables false
namespace Go.RV.C04
open Go Go.Proofs Go.Shelf
def renw17 : Ren := ⟨fun x => match x with | 17 => 77 | 15 => 84 | 20 => 86 | n => n, fun x => match x with | 9 => 9 | 23 => 131 | 4 => 4 | 3 => 3 | 0 => 0 | 21 => 21 | n => n, fun x => x⟩
theorem laysw17 : LaysGw.n17 Try.prog renw17 where
  mixed := by kernel_rfl
  f15 := Try.func84.trans (congrArg some (by kernel_rfl))
  f17 := Try.func77.trans (congrArg some (by kernel_rfl))
  f20 := Try.func86.trans (congrArg some (by kernel_rfl))
  t0 := Try.underlying0
  a0 := Try.isAgg0
  z0 := Try.sizeOf0
  v0 := Try.zeroValue0
  i0 := by kernel_rfl
  t3 := Try.underlying3
  a3 := Try.isAgg3
  z3 := Try.sizeOf3
  v3 := Try.zeroValue3
  i3 := by kernel_rfl
  t4 := Try.underlying4
  a4 := Try.isAgg4
  z4 := Try.sizeOf4
  v4 := Try.zeroValue4
  i4 := by kernel_rfl
  t9 := Try.underlying9
  a9 := Try.isAgg9
  z9 := Try.sizeOf9
  v9 := Try.zeroValue9
  i9 := by kernel_rfl
  t21 := Try.underlying21
  a21 := Try.isAgg21
  z21 := Try.sizeOf21
  v21 := Try.zeroValue21
  i21 := by kernel_rfl
  t23 := Try.underlying131
  a23 := Try.isAgg131
  z23 := Try.sizeOf131
  v23 := Try.zeroValue131
  i23 := by kernel_rfl
end Go.RV.C04
