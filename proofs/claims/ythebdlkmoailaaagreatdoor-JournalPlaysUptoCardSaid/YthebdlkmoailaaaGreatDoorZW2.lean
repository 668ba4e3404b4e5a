/-
  Walks: clones.
-/
import Derived.Test.YthebdlkmoailaaaGreatDoorZW1
import Derived.WalkSpells
set_option linter.unusedVariables false
set_option linter.unusedSimpArgs false
namespace Go.Proofs.YthebdlkmoailaaaGreatDoor
open Go.RowKit Go.Gr





set_option maxHeartbeats 400000 in
theorem Clone_ (w : World) (M : Nat → Prop) (v : Value) (xs : List UInt8) (h : Ty.bytes.rep w M [v] xs) :
    Calls Tryz.prog 58 #[v] w fun e w' => ∃ v', e = .returned v' ∧ Own Ty.byte 5 w' (· < w.heap.size) w.heap.size v' xs ∧ Step w w' := by
  obtain ⟨a, c, rfl, hc, hm, hl⟩ := Ty.slice_val h
  have H := Lib.hid h
  have hnil := Lib.run_eql_slice_nil (P := Tryz.prog) w 40 5 a xs.length c 0 0 Tryz.underlying40
  rcases a with _ | a
  · have h0 : xs = [] := Ty.slice_none h
    subst h0
    simp only [List.length_nil] at hnil ⊢
    clear hc hl
    clear h
    go_enter Tryz.func58, Tryz.ntmps58
    go_wp2
    go_ret
    exact ⟨_, rfl, Own.nil, Step.refl _⟩
  · clear h
    go_enter Tryz.func58, Tryz.ntmps58
    go_wp2_with (at_builtin; refine wpList_append_acc (xs := []) (ys := xs) rfl (.tmp 5) (.tmp 6) rfl stBytes ((Step.refl w).alloc _) (M := (· < w.heap.size)) (Own.lit rfl (by simp) (Nat.le_refl _) rfl (by simp)) (Src.flat Ty.flat_byte (Ty.kept _ H.out (Kept.alloc _ _))) (by simpa using hl) rfl rfl ?_; intro v' w' ha hb hg hp)
    go_ret
    exact ⟨v', rfl, by simpa using ha, hb⟩
end Go.Proofs.YthebdlkmoailaaaGreatDoor
