/-
  Contracts of the library at this dump, laid in plain words.
-/
import Derived.Shelf.SlSortCmp.NoneTotal
import Derived.Shelf.SlSortCmp.WholeK
import Derived.Ground.SlsfProg
import Derived.Test.YthflkfgiclcdiaaProg
set_option linter.unusedVariables false
set_option linter.unusedSimpArgs false
namespace Go.Proofs
open Go.Shelf
def Try.sortF_ren : Go.Shelf.Ren := ⟨fun | 6 => 95 | 15 => 117 | 14 => 120 | 28 => 140 | 29 => 141 | 20 => 145 | 21 => 146 | 22 => 147 | 23 => 148 | 24 => 149 | 25 => 150 | 26 => 151 | 27 => 152 | 46 => 161 | 47 => 154 | 48 => 155 | 49 => 162 | 50 => 163 | 57 => 174 | n => n, fun | 22 => 39 | 24 => 74 | 25 => 164 | 3 => 3 | 39 => 186 | 0 => 0 | 53 => 218 | 55 => 29 | 4 => 4 | 46 => 210 | 45 => 209 | 50 => 215 | 5 => 5 | 9 => 9 | 66 => 227 | 70 => 230 | 76 => 236 | 77 => 237 | n => n, fun | n => n⟩
theorem Try.sortF : Go.Proofs.SlLaysF0.n6 Try.prog Try.sortF_ren := {
  mixed := by kernel_rfl
  f6 := ⟨Try.f95.name, by decide, Try.func95.trans (congrArg some (by kernel_rfl))⟩
  f14 := ⟨Try.f120.name, by decide, Try.func120.trans (congrArg some (by kernel_rfl))⟩
  f15 := Try.func117.trans (congrArg some (by kernel_rfl))
  f20 := ⟨Try.f145.name, by decide, Try.func145.trans (congrArg some (by kernel_rfl))⟩
  f21 := ⟨Try.f146.name, by decide, Try.func146.trans (congrArg some (by kernel_rfl))⟩
  f22 := ⟨Try.f147.name, by decide, Try.func147.trans (congrArg some (by kernel_rfl))⟩
  f23 := ⟨Try.f148.name, by decide, Try.func148.trans (congrArg some (by kernel_rfl))⟩
  f24 := ⟨Try.f149.name, by decide, Try.func149.trans (congrArg some (by kernel_rfl))⟩
  f25 := ⟨Try.f150.name, by decide, Try.func150.trans (congrArg some (by kernel_rfl))⟩
  f26 := ⟨Try.f151.name, by decide, Try.func151.trans (congrArg some (by kernel_rfl))⟩
  f27 := ⟨Try.f152.name, by decide, Try.func152.trans (congrArg some (by kernel_rfl))⟩
  f28 := Try.func140.trans (congrArg some (by kernel_rfl))
  f29 := Try.func141.trans (congrArg some (by kernel_rfl))
  f46 := ⟨Try.f161.name, by decide, Try.func161.trans (congrArg some (by kernel_rfl))⟩
  f47 := Try.func154.trans (congrArg some (by kernel_rfl))
  f48 := Try.func155.trans (congrArg some (by kernel_rfl))
  f49 := ⟨Try.f162.name, by decide, Try.func162.trans (congrArg some (by kernel_rfl))⟩
  f50 := ⟨Try.f163.name, by decide, Try.func163.trans (congrArg some (by kernel_rfl))⟩
  f57 := ⟨Try.f174.name, by decide, Try.func174.trans (congrArg some (by kernel_rfl))⟩
  t0 := Try.underlying0
  a0 := Try.isAgg0
  z0 := Try.sizeOf0
  v0 := Try.zeroValue0
  t3 := Try.underlying3
  a3 := Try.isAgg3
  z3 := Try.sizeOf3
  v3 := Try.zeroValue3
  t4 := Try.underlying4
  a4 := Try.isAgg4
  z4 := Try.sizeOf4
  v4 := Try.zeroValue4
  t5 := Try.underlying5
  a5 := Try.isAgg5
  z5 := Try.sizeOf5
  v5 := Try.zeroValue5
  t9 := Try.underlying9
  a9 := Try.isAgg9
  z9 := Try.sizeOf9
  v9 := Try.zeroValue9
  t22 := Try.underlying39
  a22 := Try.isAgg39
  z22 := Try.sizeOf39
  v22 := Try.zeroValue39
  t25 := Try.underlying164
  a25 := Try.isAgg164
  z25 := Try.sizeOf164
  v25 := Try.zeroValue164
  t39 := Try.underlying186
  a39 := Try.isAgg186
  z39 := Try.sizeOf186
  v39 := Try.zeroValue186
  t45 := Try.underlying209
  a45 := Try.isAgg209
  z45 := Try.sizeOf209
  v45 := Try.zeroValue209
  t46 := Try.underlying210
  a46 := Try.isAgg210
  z46 := Try.sizeOf210
  v46 := Try.zeroValue210
  t50 := Try.underlying215
  a50 := Try.isAgg215
  z50 := Try.sizeOf215
  v50 := Try.zeroValue215
  t53 := Try.underlying218
  a53 := Try.isAgg218
  z53 := Try.sizeOf218
  v53 := Try.zeroValue218
  t55 := Try.underlying29
  a55 := Try.isAgg29
  z55 := Try.sizeOf29
  v55 := Try.zeroValue29
  t66 := Try.underlying227
  a66 := Try.isAgg227
  z66 := Try.sizeOf227
  v66 := Try.zeroValue227
  t70 := Try.underlying230
  a70 := Try.isAgg230
  z70 := Try.sizeOf230
  v70 := Try.zeroValue230
  t76 := Try.underlying236
  a76 := Try.isAgg236
  z76 := Try.sizeOf236
  v76 := Try.zeroValue236
  t77 := Try.underlying237
  a77 := Try.isAgg237
  z77 := Try.sizeOf237
  v77 := Try.zeroValue237 }
end Go.Proofs
