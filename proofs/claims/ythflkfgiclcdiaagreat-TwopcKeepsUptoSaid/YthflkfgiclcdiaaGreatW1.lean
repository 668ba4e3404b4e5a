/-
  Walks: copies of bytes, of lists of bytes.
-/
import Derived.Test.YthflkfgiclcdiaaGreatProg
import Derived.Test.YthflkfgiclcdiaaGreatData
import Derived.WalkKit
import Derived.LoopTactic
import Derived.Deep.QuietTactic
import Derived.Deep.RegionHeld3
import Derived.BigQuiet
import Derived.Outline
namespace Go.Proofs.YthflkfgiclcdiaaGreat
open Go.RowKit Go.Gr
theorem stBytes : SliceTy Tryz.prog 22 5 Ty.byte.n := .mk' (z := .int .u8 0) (by_ := 1) Tryz.underlying22 (by kernel_rfl) rfl (by decide) (by omega)
theorem stList : SliceTy Tryz.prog 43 22 Ty.bytes.n := .mk' (z := .slice none 0 0) (by_ := 24) Tryz.underlying43 (by kernel_rfl) rfl (by decide) (by omega)

set_option maxHeartbeats 400000 in
theorem Copy_ (w : World) (M : Nat → Prop) (v : Value) (xs : List UInt8) (h : Ty.bytes.rep w M [v] xs) :
    Calls Tryz.prog 62 #[v] w fun e w' => ∃ v', e = .returned v' ∧ Own Ty.byte 5 w' (· < w.heap.size) w.heap.size v' xs ∧ Step w w' := by
  have H := Lib.hid h
  have hl := Ty.slice_le h
  clear h
  go_enter Tryz.func62, Tryz.ntmps62
  go_wp2_with (at_builtin; refine wpList_append_acc (xs := []) (ys := xs) rfl (.tmp 3) (.tmp 4) rfl stBytes ((Step.refl w).alloc _) (M := (· < w.heap.size)) (Own.lit rfl (by simp) (Nat.le_refl _) rfl (by simp)) (Src.flat Ty.flat_byte (Ty.kept _ H.out (Kept.alloc _ _))) (by simpa using hl) rfl rfl ?_; intro v' w' ha hb hg hp)
  go_ret
  exact ⟨v', rfl, by simpa using ha, hb⟩

end Go.Proofs.YthflkfgiclcdiaaGreat
