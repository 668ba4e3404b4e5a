/-
  A range over a function whose rounds turn what lay ahead of the loop, and keep the loop's own two blocks; slices.Backward.
  Walks: slices.Backward; a journal removes files, the last one first.
  Walk: a journal loads its files, where one that has no head stands behind those that join on: it goes.
  Walk: a journal loads its files, where the last one's bytes end in a piece of a record: it is cut off.
  Walk: Open, whatever load comes to.
-/
import Derived.Test.YthebdlkmoailaaaGreatDoorZP11
import Derived.RangeFuncNested
import Derived.RangeFuncBound
import Derived.RangeFuncCalls
import Derived.RangeFuncLeaves
import Derived.Shelf.Abstract
import Derived.Shelf.RegionOpen
import Derived.OwnWalkIn
import Derived.TacticsInMore
import Derived.LoopNIn
import Derived.LoopIn
import Derived.Test.YthebdlkmoailaaaGreatDoorZP9
set_option linter.unusedVariables false
set_option linter.unusedSimpArgs false
namespace Go.Gr
open Go.RowKit
set_option linter.unusedVariables false
end Go.Gr

namespace Go.Proofs.YthebdlkmoailaaaGreatDoor
open Go.RowKit Go.Gr Go.Maps Go.Shelf
open Go.Proofs (encStr)
set_option linter.unusedSimpArgs false
set_option linter.unusedVariables false
attribute [local go_sem] Oper.semAt_some
end Go.Proofs.YthebdlkmoailaaaGreatDoor

namespace Go.Proofs.YthebdlkmoailaaaGreatDoor
open Go.RowKit Go.Gr Go.Maps
open Go.Proofs (encStr)
set_option linter.unusedSimpArgs false
set_option linter.unusedVariables false
end Go.Proofs.YthebdlkmoailaaaGreatDoor

namespace Go.Proofs.YthebdlkmoailaaaGreatDoor
open Go.RowKit Go.Gr Go.Maps
open Go.Proofs (encStr)
set_option linter.unusedSimpArgs false
set_option linter.unusedVariables false
/-- Files that join on to one another; the last one ends in a piece. -/
structure CutFs (pre : List UInt8) (seen : List DPair) (ns : List Nat) (fs : List DFile) : Prop where
  names : sortN ns = fs.map (·.serial)
  ok : ∀ k (hk : k < fs.length), fs[k].Ok ∧ fs[k].serial < 100 ∧ thereB seen (nameB pre fs[k].serial) = true ∧ (dataB seen (nameB pre fs[k].serial)).length ≤ 68719476736 ∧ fileJ fs[k].serial (dataB seen (nameB pre fs[k].serial)) = (fs[k], true, decide (k + 1 < fs.length))
  chain : ∀ i (hi : i + 1 < fs.length), fs[i + 1].serial = fs[i].serial + 1 ∧ fs[i + 1].from_ = fs[i].to_
  few : fs.length < 100000
  some : fs ≠ []
  cut : ∀ k (hk : k < fs.length), 0 ≤ fs[k].size ∧ fs[k].size.toNat ≤ (dataB seen (nameB pre fs[k].serial)).length
end Go.Proofs.YthebdlkmoailaaaGreatDoor

namespace Go.Proofs.YthebdlkmoailaaaGreatDoor
open Go.RowKit Go.Gr Go.Maps
open Go.Proofs (encStr)
set_option linter.unusedSimpArgs false
set_option linter.unusedVariables false
end Go.Proofs.YthebdlkmoailaaaGreatDoor
