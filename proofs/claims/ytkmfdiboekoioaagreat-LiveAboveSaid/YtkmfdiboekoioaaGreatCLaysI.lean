/- The laying of slices.Insert in this program, plainly: its body and types are the known ones. No condition. -/
import Derived.Shelf.Spec.SlicesInsertGrow
import Derived.Ground.Names2Prog
import Derived.Test.YtkmfdiboekoioaaGreatProg
set_option linter.unusedSimpArgs false
set_option linter.unusedVariables false
namespace Go.Proofs
open Go.Shelf
def Tryz.insertA_ren : Go.Shelf.Ren := ⟨fun | 21 => 132 | 27 => 160 | 28 => 161 | 35 => 176 | 39 => 192 | n => n, fun | 22 => 34 | 3 => 3 | 4 => 4 | 0 => 0 | n => n, fun | n => n⟩
theorem Tryz.insertA : Go.Proofs.Lays2.n21 Tryz.prog Tryz.insertA_ren := {
  mixed := by kernel_rfl
  f21 := Tryz.func132.trans (congrArg some (by kernel_rfl))
  f27 := Tryz.func160.trans (congrArg some (by kernel_rfl))
  f28 := Tryz.func161.trans (congrArg some (by kernel_rfl))
  f35 := Tryz.func176.trans (congrArg some (by kernel_rfl))
  f39 := Tryz.func192.trans (congrArg some (by kernel_rfl))
  t0 := Tryz.underlying0
  a0 := Tryz.isAgg0
  z0 := Tryz.sizeOf0
  v0 := Tryz.zeroValue0
  t3 := Tryz.underlying3
  a3 := Tryz.isAgg3
  z3 := Tryz.sizeOf3
  v3 := Tryz.zeroValue3
  t4 := Tryz.underlying4
  a4 := Tryz.isAgg4
  z4 := Tryz.sizeOf4
  v4 := Tryz.zeroValue4
  t22 := Tryz.underlying34
  a22 := Tryz.isAgg34
  z22 := Tryz.sizeOf34
  v22 := Tryz.zeroValue34
  i3 := by kernel_rfl }
end Go.Proofs
