/-
  Contracts of the library at this dump, laid in plain words.
-/
import Derived.Shelf.SlIter.Nil
import Derived.Shelf.SortM.Plain
import Derived.Shelf.SortM.SortNone
import Derived.Ground.GgzProg
import Derived.Ground.SlgmProg
import Derived.Test.YthflkfgiclcdiaaProg
set_option linter.unusedVariables false
set_option linter.unusedSimpArgs false
namespace Go.Proofs
open Go.Shelf
def Try.keysS_ren : Go.Shelf.Ren := ⟨fun | 7 => 119 | 10 => 144 | n => n, fun | 23 => 195 | 26 => 9 | 3 => 42 | 28 => 199 | 0 => 0 | 27 => 198 | 33 => 221 | 4 => 4 | n => n, fun | n => n⟩
theorem Try.keysS : Go.Proofs.SlLaysZ.n7 Try.prog Try.keysS_ren := {
  mixed := by kernel_rfl
  f7 := ⟨Try.f119.name, by decide, Try.func119.trans (congrArg some (by kernel_rfl))⟩
  f10 := ⟨Try.f144.name, by decide, Try.func144.trans (congrArg some (by kernel_rfl))⟩
  t0 := Try.underlying0
  a0 := Try.isAgg0
  z0 := Try.sizeOf0
  v0 := Try.zeroValue0
  t4 := Try.underlying4
  a4 := Try.isAgg4
  z4 := Try.sizeOf4
  v4 := Try.zeroValue4
  t23 := Try.underlying195
  a23 := Try.isAgg195
  z23 := Try.sizeOf195
  v23 := Try.zeroValue195
  t26 := Try.underlying9
  a26 := Try.isAgg9
  z26 := Try.sizeOf9
  v26 := Try.zeroValue9
  t27 := Try.underlying198
  a27 := Try.isAgg198
  z27 := Try.sizeOf198
  v27 := Try.zeroValue198
  t28 := Try.underlying199
  a28 := Try.isAgg199
  z28 := Try.sizeOf199
  v28 := Try.zeroValue199
  t33 := Try.underlying221
  a33 := Try.isAgg221
  z33 := Try.sizeOf221
  v33 := Try.zeroValue221 }
def Try.sortedS_ren : Go.Shelf.Ren := ⟨fun | 6 => 118 | 8 => 142 | 9 => 143 | 11 => 159 | 13 => 117 | 12 => 160 | 23 => 140 | 24 => 141 | 14 => 165 | 15 => 166 | 16 => 167 | 17 => 168 | 18 => 169 | 19 => 170 | 20 => 171 | 21 => 172 | 22 => 173 | 25 => 175 | 26 => 154 | 27 => 155 | 28 => 176 | 29 => 177 | 30 => 178 | 31 => 179 | n => n, fun | 26 => 9 | 28 => 199 | 24 => 196 | 0 => 0 | 3 => 3 | 37 => 186 | 48 => 218 | 50 => 29 | 4 => 4 | 40 => 210 | 39 => 209 | 45 => 215 | 5 => 5 | 9 => 9 | 51 => 227 | 55 => 230 | 57 => 236 | 58 => 237 | 33 => 221 | n => n, fun | n => n⟩
theorem Try.sortedS : Go.Proofs.SlLaysZ.n6 Try.prog Try.sortedS_ren := {
  mixed := by kernel_rfl
  f6 := ⟨Try.f118.name, by decide, Try.func118.trans (congrArg some (by kernel_rfl))⟩
  f8 := ⟨Try.f142.name, by decide, Try.func142.trans (congrArg some (by kernel_rfl))⟩
  f11 := ⟨Try.f159.name, by decide, Try.func159.trans (congrArg some (by kernel_rfl))⟩
  t0 := Try.underlying0
  a0 := Try.isAgg0
  z0 := Try.sizeOf0
  v0 := Try.zeroValue0
  t24 := Try.underlying196
  a24 := Try.isAgg196
  z24 := Try.sizeOf196
  v24 := Try.zeroValue196
  t26 := Try.underlying9
  a26 := Try.isAgg9
  z26 := Try.sizeOf9
  v26 := Try.zeroValue9
  t28 := Try.underlying199
  a28 := Try.isAgg199
  z28 := Try.sizeOf199
  v28 := Try.zeroValue199
  i26 := by kernel_rfl }
def Try.sortS_ren : Go.Shelf.Ren := ⟨fun | 6 => 143 | 8 => 117 | 9 => 160 | 19 => 140 | 20 => 141 | 21 => 165 | 22 => 166 | 23 => 167 | 24 => 168 | 25 => 169 | 26 => 170 | 27 => 171 | 28 => 172 | 29 => 173 | 36 => 175 | 31 => 154 | 32 => 155 | 37 => 176 | 38 => 177 | 39 => 178 | 41 => 179 | n => n, fun | 27 => 196 | 29 => 9 | 3 => 3 | 32 => 186 | 26 => 196 | 0 => 0 | 44 => 218 | 46 => 29 | 4 => 4 | 36 => 210 | 35 => 209 | 41 => 215 | 5 => 5 | 9 => 9 | 53 => 227 | 57 => 230 | 63 => 236 | 64 => 237 | n => n, fun | n => n⟩
theorem Try.sortS : Go.Proofs.SlLaysM.n6 Try.prog Try.sortS_ren := {
  mixed := by kernel_rfl
  f6 := ⟨Try.f143.name, by decide, Try.func143.trans (congrArg some (by kernel_rfl))⟩
  f8 := Try.func117.trans (congrArg some (by kernel_rfl))
  f9 := ⟨Try.f160.name, by decide, Try.func160.trans (congrArg some (by kernel_rfl))⟩
  f19 := Try.func140.trans (congrArg some (by kernel_rfl))
  f20 := Try.func141.trans (congrArg some (by kernel_rfl))
  f21 := ⟨Try.f165.name, by decide, Try.func165.trans (congrArg some (by kernel_rfl))⟩
  f22 := ⟨Try.f166.name, by decide, Try.func166.trans (congrArg some (by kernel_rfl))⟩
  f23 := ⟨Try.f167.name, by decide, Try.func167.trans (congrArg some (by kernel_rfl))⟩
  f24 := ⟨Try.f168.name, by decide, Try.func168.trans (congrArg some (by kernel_rfl))⟩
  f25 := ⟨Try.f169.name, by decide, Try.func169.trans (congrArg some (by kernel_rfl))⟩
  f26 := ⟨Try.f170.name, by decide, Try.func170.trans (congrArg some (by kernel_rfl))⟩
  f27 := ⟨Try.f171.name, by decide, Try.func171.trans (congrArg some (by kernel_rfl))⟩
  f28 := ⟨Try.f172.name, by decide, Try.func172.trans (congrArg some (by kernel_rfl))⟩
  f29 := ⟨Try.f173.name, by decide, Try.func173.trans (congrArg some (by kernel_rfl))⟩
  f31 := Try.func154.trans (congrArg some (by kernel_rfl))
  f32 := Try.func155.trans (congrArg some (by kernel_rfl))
  f36 := ⟨Try.f175.name, by decide, Try.func175.trans (congrArg some (by kernel_rfl))⟩
  f37 := ⟨Try.f176.name, by decide, Try.func176.trans (congrArg some (by kernel_rfl))⟩
  f38 := ⟨Try.f177.name, by decide, Try.func177.trans (congrArg some (by kernel_rfl))⟩
  f39 := ⟨Try.f178.name, by decide, Try.func178.trans (congrArg some (by kernel_rfl))⟩
  f41 := ⟨Try.f179.name, by decide, Try.func179.trans (congrArg some (by kernel_rfl))⟩
  t0 := Try.underlying0
  a0 := Try.isAgg0
  z0 := Try.sizeOf0
  v0 := Try.zeroValue0
  t3 := Try.underlying3
  a3 := Try.isAgg3
  z3 := Try.sizeOf3
  v3 := Try.zeroValue3
  t4 := Try.underlying4
  a4 := Try.isAgg4
  z4 := Try.sizeOf4
  v4 := Try.zeroValue4
  t5 := Try.underlying5
  a5 := Try.isAgg5
  z5 := Try.sizeOf5
  v5 := Try.zeroValue5
  t9 := Try.underlying9
  a9 := Try.isAgg9
  z9 := Try.sizeOf9
  v9 := Try.zeroValue9
  t26 := Try.underlying196
  a26 := Try.isAgg196
  z26 := Try.sizeOf196
  v26 := Try.zeroValue196
  t27 := Try.underlying196
  a27 := Try.isAgg196
  z27 := Try.sizeOf196
  v27 := Try.zeroValue196
  t29 := Try.underlying9
  a29 := Try.isAgg9
  z29 := Try.sizeOf9
  v29 := Try.zeroValue9
  t32 := Try.underlying186
  a32 := Try.isAgg186
  z32 := Try.sizeOf186
  v32 := Try.zeroValue186
  t35 := Try.underlying209
  a35 := Try.isAgg209
  z35 := Try.sizeOf209
  v35 := Try.zeroValue209
  t36 := Try.underlying210
  a36 := Try.isAgg210
  z36 := Try.sizeOf210
  v36 := Try.zeroValue210
  t41 := Try.underlying215
  a41 := Try.isAgg215
  z41 := Try.sizeOf215
  v41 := Try.zeroValue215
  t44 := Try.underlying218
  a44 := Try.isAgg218
  z44 := Try.sizeOf218
  v44 := Try.zeroValue218
  t46 := Try.underlying29
  a46 := Try.isAgg29
  z46 := Try.sizeOf29
  v46 := Try.zeroValue29
  t53 := Try.underlying227
  a53 := Try.isAgg227
  z53 := Try.sizeOf227
  v53 := Try.zeroValue227
  t57 := Try.underlying230
  a57 := Try.isAgg230
  z57 := Try.sizeOf230
  v57 := Try.zeroValue230
  t63 := Try.underlying236
  a63 := Try.isAgg236
  z63 := Try.sizeOf236
  v63 := Try.zeroValue236
  t64 := Try.underlying237
  a64 := Try.isAgg237
  z64 := Try.sizeOf237
  v64 := Try.zeroValue237 }
end Go.Proofs
