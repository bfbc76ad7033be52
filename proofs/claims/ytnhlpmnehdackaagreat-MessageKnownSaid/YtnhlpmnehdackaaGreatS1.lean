/- The library's contracts (171, w17), laid at this program's functions and types. Conditions: none. -/
import Derived.Test.YtnhlpmnehdackaaGreatRvT
import Derived.Shelf.Strconv.Itoa3
import Derived.Shelf.Strings.FuncGrows
set_option maxRecDepth 100000
set_option linter.unusedVariables false
namespace Go.RV.C04
open Go Go.Proofs Go.Shelf
def renw17 : Ren := ⟨fun x => match x with | 17 => 118 | 15 => 125 | 20 => 127 | n => n, fun x => match x with | 9 => 9 | 23 => 185 | 4 => 4 | 3 => 3 | 0 => 0 | 21 => 21 | n => n, fun x => x⟩
theorem laysw17 : LaysGw.n17 Tryz.prog renw17 where
  mixed := by kernel_rfl
  f15 := Tryz.func125.trans (congrArg some (by kernel_rfl))
  f17 := Tryz.func118.trans (congrArg some (by kernel_rfl))
  f20 := Tryz.func127.trans (congrArg some (by kernel_rfl))
  t0 := Tryz.underlying0
  a0 := Tryz.isAgg0
  z0 := Tryz.sizeOf0
  v0 := Tryz.zeroValue0
  i0 := by kernel_rfl
  t3 := Tryz.underlying3
  a3 := Tryz.isAgg3
  z3 := Tryz.sizeOf3
  v3 := Tryz.zeroValue3
  i3 := by kernel_rfl
  t4 := Tryz.underlying4
  a4 := Tryz.isAgg4
  z4 := Tryz.sizeOf4
  v4 := Tryz.zeroValue4
  i4 := by kernel_rfl
  t9 := Tryz.underlying9
  a9 := Tryz.isAgg9
  z9 := Tryz.sizeOf9
  v9 := Tryz.zeroValue9
  i9 := by kernel_rfl
  t21 := Tryz.underlying21
  a21 := Tryz.isAgg21
  z21 := Tryz.sizeOf21
  v21 := Tryz.zeroValue21
  i21 := by kernel_rfl
  t23 := Tryz.underlying185
  a23 := Tryz.isAgg185
  z23 := Tryz.sizeOf185
  v23 := Tryz.zeroValue185
  i23 := by kernel_rfl
end Go.RV.C04
