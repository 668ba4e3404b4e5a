/-
  Contracts of the library at this dump, laid in plain words.
-/
import Derived.Shelf.SlMaps.Clone
import Derived.Ground.SlmcProg
import Derived.Test.YthebdlkmoailaaaGreatDoorProg
set_option linter.unusedVariables false
set_option linter.unusedSimpArgs false
namespace Go.Proofs
open Go.Shelf
def Tryz.mcloneF_ren : Go.Shelf.Ren := ⟨fun | 5 => 65 | 7 => 85 | n => n, fun | 23 => 83 | 25 => 9 | 3 => 40 | 4 => 4 | 20 => 20 | n => n, fun | n => n⟩
theorem Tryz.mcloneF : Go.Proofs.SlLaysW.n5 Tryz.prog Tryz.mcloneF_ren := {
  mixed := by kernel_rfl
  f5 := ⟨Tryz.f65.name, by decide, Tryz.func65.trans (congrArg some (by kernel_rfl))⟩
  f7 := Tryz.func85.trans (congrArg some (by kernel_rfl))
  t4 := Tryz.underlying4
  a4 := Tryz.isAgg4
  z4 := Tryz.sizeOf4
  v4 := Tryz.zeroValue4
  t20 := Tryz.underlying20
  a20 := Tryz.isAgg20
  z20 := Tryz.sizeOf20
  v20 := Tryz.zeroValue20
  t23 := Tryz.underlying83
  a23 := Tryz.isAgg83
  z23 := Tryz.sizeOf83
  v23 := Tryz.zeroValue83 }
end Go.Proofs
