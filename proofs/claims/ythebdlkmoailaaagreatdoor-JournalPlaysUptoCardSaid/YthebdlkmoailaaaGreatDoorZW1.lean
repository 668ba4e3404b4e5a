/-
  Walks: copies of bytes, of lists of bytes.
-/
import Derived.Test.YthebdlkmoailaaaGreatDoorProg
import Derived.Test.YthebdlkmoailaaaGreatDoorZP1
import Derived.WalkKit
import Derived.LoopTactic
import Derived.Deep.QuietTactic
import Derived.Deep.RegionHeld3
import Derived.BigQuiet
import Derived.Outline
set_option linter.unusedVariables false
set_option linter.unusedSimpArgs false
namespace Go.Proofs.YthebdlkmoailaaaGreatDoor
open Go.RowKit Go.Gr
theorem stBytes : SliceTy Tryz.prog 40 5 Ty.byte.n := .mk' (z := .int .u8 0) (by_ := 1) Tryz.underlying40 (by kernel_rfl) rfl (by decide) (by omega)
theorem stList : SliceTy Tryz.prog 30 40 Ty.bytes.n := .mk' (z := .slice none 0 0) (by_ := 24) Tryz.underlying30 (by kernel_rfl) rfl (by decide) (by omega)

set_option maxHeartbeats 400000 in
theorem Copy_ (w : World) (M : Nat → Prop) (v : Value) (xs : List UInt8) (h : Ty.bytes.rep w M [v] xs) :
    Calls Tryz.prog 52 #[v] w fun e w' => ∃ v', e = .returned v' ∧ Own Ty.byte 5 w' (· < w.heap.size) w.heap.size v' xs ∧ Step w w' := by
  have H := Lib.hid h
  have hl := Ty.slice_le h
  clear h
  go_enter Tryz.func52, Tryz.ntmps52
  go_wp2_with (at_builtin; refine wpList_append_acc (xs := []) (ys := xs) rfl (.tmp 3) (.tmp 4) rfl stBytes ((Step.refl w).alloc _) (M := (· < w.heap.size)) (Own.lit rfl (by simp) (Nat.le_refl _) rfl (by simp)) (Src.flat Ty.flat_byte (Ty.kept _ H.out (Kept.alloc _ _))) (by simpa using hl) rfl rfl ?_; intro v' w' ha hb hg hp)
  go_ret
  exact ⟨v', rfl, by simpa using ha, hb⟩

set_option maxHeartbeats 400000 in
theorem Copies_ (w : World) (M : Nat → Prop) (v : Value) (xs : List (List UInt8)) (h : (Ty.slice Ty.bytes).rep w M [v] xs) :
    Calls Tryz.prog 15 #[v] w fun e w' => ∃ v', e = .returned v' ∧ Own Ty.bytes 40 w' (· < w.heap.size) w.heap.size v' xs ∧ Step w w' := by
  obtain ⟨a, c, rfl, hc, hm, hl⟩ := Ty.slice_val h
  have H := Lib.hid h
  clear h
  have hl' := hl
  rw [lim_eq] at hl'
  go_enter Tryz.func15, Tryz.ntmps15
  go_wp2
  go_loopw [3, 4] (fun o i w' => ∃ k : Nat, i = .int .i64 k ∧ k ≤ xs.length ∧ Own Ty.bytes 40 w' (· < w.heap.size) w.heap.size o (xs.take k) ∧ Step w w') (fun _ i _ => xs.length - (intOf i).toNat)
  case atStart => exact ⟨0, rfl, by omega, Own.nil, Step.refl _⟩
  case round =>
    rename_i wr _
    obtain ⟨k, rfl, hk, hA, hB⟩ := hrel
    have HA := Lib.hid hA
    clear hA
    by_cases hlt : k < xs.length
    · obtain ⟨b, off, u, rfl, hbb, _, hu, hcu⟩ := Ty.slice_at1 rfl H.out hlt
      have HU := Lib.hid hu
      have hcell : wr.cell? ⟨b, off + k, none⟩ = some u := (hB.cell hbb _).trans hcu
      clear hu hcu
      go_wp2_with (first
        | (go_at_call 52; refine (Copy_ _ _ _ _ (by refine Ty.step _ (Hid.out (by assumption)) ?_; (repeat (first | exact Step.refl _ | refine Step.alloc ?_ _ | refine Step.drew ?_ | refine Step.drewN ?_ _ | refine Step.setCell ?_ (by first | exact Nat.le_refl _ | assumption | omega | (simp; done) | (simp; omega)) _ | assumption | refine Step.trans ?_ (by assumption : Step _ _))))).mono ?_; rintro e w1 ⟨v1, rfl, hA1, hB1⟩; obtain ⟨a1, c1, rfl⟩ := hA1.val; have HA1 := Lib.hid hA1; clear hA1)
        | (at_builtin; refine wpList_append_acc (ys := [xs[k]]) rfl (.tmp 11) (.tmp 17) rfl stList stp ((HA.out.step hB1).alloc _) (Src.one (HA1.out.fresh (HA.out.old hB))) (by rw [List.length_take, lim_eq]; simp; omega) rfl rfl ?_; intro v2 w2 hA2 hB2 _ _; have HA2 := Lib.hid hA2; clear hA2))
      go_roundw
      case rel => exact ⟨k + 1, by go_num, by omega, by rw [List.take_succ_eq_append_getElem hlt]; exact HA2.out, hB2⟩
      case measure => simp [intOf]; omega
    · go_wp2
      go_ret
      obtain rfl : k = xs.length := by omega
      exact ⟨_, rfl, by simpa using HA.out, hB⟩
end Go.Proofs.YthebdlkmoailaaaGreatDoor
