/- The shelf's laying of strings.Builder.String, in plain words. -/
import Derived.Shelf.Strings.Builder1
import Derived.Test.YtlpokomfljmogaaGreatProg
namespace Go.Proofs.YtlpokomfljmogaaGreat
open Go.Shelf
def Tryz.bString_ren : Go.Shelf.Ren := ⟨fun | 169 => 168 | n => n, fun | 70 => 214 | 9 => 9 | 0 => 0 | 72 => 217 | 37 => 215 | 127 => 255 | 3 => 3 | 5 => 5 | n => n, fun | n => n⟩
theorem Tryz.bString : Go.Proofs.Lays.n169 Tryz.prog Tryz.bString_ren := {
  mixed := by kernel_rfl
  f169 := Tryz.func168.trans (congrArg some (by kernel_rfl))
  t0 := Tryz.underlying0
  a0 := Tryz.isAgg0
  z0 := Tryz.sizeOf0
  v0 := Tryz.zeroValue0
  t3 := Tryz.underlying3
  a3 := Tryz.isAgg3
  z3 := Tryz.sizeOf3
  v3 := Tryz.zeroValue3
  t9 := Tryz.underlying9
  a9 := Tryz.isAgg9
  z9 := Tryz.sizeOf9
  v9 := Tryz.zeroValue9
  t37 := Tryz.underlying215
  a37 := Tryz.isAgg215
  z37 := Tryz.sizeOf215
  v37 := Tryz.zeroValue215
  t70 := Tryz.underlying214
  a70 := Tryz.isAgg214
  z70 := Tryz.sizeOf214
  v70 := Tryz.zeroValue214
  t72 := Tryz.underlying217
  a72 := Tryz.isAgg217
  z72 := Tryz.sizeOf217
  v72 := Tryz.zeroValue217
  t127 := Tryz.underlying255
  a127 := Tryz.isAgg255
  z127 := Tryz.sizeOf255
  v127 := Tryz.zeroValue255 }
end Go.Proofs.YtlpokomfljmogaaGreat

