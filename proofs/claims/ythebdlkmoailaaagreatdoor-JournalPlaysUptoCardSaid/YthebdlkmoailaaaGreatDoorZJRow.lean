/-
  What the journal's rows share: readings of lists, the heap in which the listed variables are laid.
-/
import Derived.Test.YthebdlkmoailaaaGreatDoorZFrame
import Derived.Test.YthebdlkmoailaaaGreatDoorCards
import Derived.Test.YthebdlkmoailaaaGreatDoorTie
import Derived.Deep.DeepWitnessRowRef
import Derived.LaidMore
set_option linter.unusedVariables false
set_option linter.unusedSimpArgs false
namespace Go.Proofs.YthebdlkmoailaaaGreatDoor.Frame
open Go.ChangeShapes Go.WideShapes Go.ChangeAt Go.RowKit Go.Gr
set_option linter.unusedVariables false
theorem conv_bytes : Conv Tryz.prog Ty.bytes 40 := conv_slice Tryz.underlying40 (by kernel_rfl) (by decide) (conv_byte Tryz.underlying5)
theorem conv_list : Conv Tryz.prog (Ty.slice Ty.bytes) 30 := conv_slice Tryz.underlying30 (by kernel_rfl) (by decide) conv_bytes
theorem kids : Kids Tryz.prog (· < Tryz.prog.types.size) := kids_rows (by kernel_rfl) (by kernel_rfl)
theorem full : ∀ t e, t < Tryz.prog.types.size → Tryz.prog.underlying t = some (.slice e) → 0 < Tryz.prog.cellsOf e := slices_full_of Tryz.prog (by kernel_rfl)
theorem own : ownKnob Tryz.prog.godebug = none := by kernel_rfl
end Go.Proofs.YthebdlkmoailaaaGreatDoor.Frame
