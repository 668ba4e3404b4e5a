/-
  Walk: a drive's Crash.
-/
import Derived.Test.YthebdlkmoailaaaGreatDoorZP6
set_option linter.unusedVariables false
set_option linter.unusedSimpArgs false
namespace Go.Proofs.YthebdlkmoailaaaGreatDoor
open Go.RowKit Go.Gr Go.Maps
open Go.Proofs (encStr)
set_option linter.unusedSimpArgs false
set_option linter.unusedVariables false
end Go.Proofs.YthebdlkmoailaaaGreatDoor
