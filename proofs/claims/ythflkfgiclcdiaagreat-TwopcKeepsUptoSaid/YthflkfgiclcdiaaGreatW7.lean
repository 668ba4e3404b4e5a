/-
  Walks: a coordinator's small answers (Wants, Over, Doubt, Reply), plain asks.
-/
import Derived.Test.YthflkfgiclcdiaaGreatW3
import Derived.Test.YthflkfgiclcdiaaGreatW2
namespace Go.Proofs.YthflkfgiclcdiaaGreat
open Go.RowKit Go.Gr
set_option linter.unusedSimpArgs false

/-- A coordinator's cells. -/
def coordCells (x : DTxn) (ops parts outs : Value) (phase wants : Int) (out shards : Value) (commit : Bool) (reply : Value) (certain : Bool) (age patience : Int) : Array Value :=
  #[.int .u64 (x.boot : Int), .int .u64 (x.session : Int), .int .u64 (x.seq : Int), ops, parts, outs, .int .i64 phase, .int .i64 wants, out, shards, .bool commit, reply, .bool certain, .int .i64 age, .int .i64 patience]
/-- Block cb is such a coordinator. -/
def CoordAt (w : World) (cb : Nat) (cs : Array Value) : Prop := w.heap[cb]? = some (.cells cs 125 (0, 0))
theorem CoordAt.cell {w : World} {cb : Nat} {cs : Array Value} (h : CoordAt w cb cs) (i : Nat) : w.cell? ⟨cb, i, none⟩ = cs[i]? := cell_of_row w cb i cs _ (0, 0) h
theorem CoordAt.frozen {w : World} {cb : Nat} {cs : Array Value} (h : CoordAt w cb cs) (i : Nat) : w.frozen? ⟨cb, i, none⟩ = false := frozen_of_row w cb i cs _ h
theorem CoordAt.lt {w : World} {cb : Nat} {cs : Array Value} (h : CoordAt w cb cs) : cb < w.heap.size := (Array.getElem?_eq_some_iff.1 h).1

theorem cWants_ {w : World} {cb : Nat} {n : Int} (h : w.cell? ⟨cb, 7, none⟩ = some (.int .i64 n)) :
    Calls Tryz.prog 24 #[.pointer (some ⟨cb, 0, none⟩)] w fun e w' => e = .returned (.int .i64 n) ∧ w' = w := by
  go_enter Tryz.func24, Tryz.ntmps24
  go_wp2
  go_ret
  exact ⟨rfl, rfl⟩
theorem cOver_ {w : World} {cb : Nat} {n : Int} (h : w.cell? ⟨cb, 6, none⟩ = some (.int .i64 n)) :
    Calls Tryz.prog 28 #[.pointer (some ⟨cb, 0, none⟩)] w fun e w' => e = .returned (.bool (n == 5)) ∧ w' = w := by
  go_enter Tryz.func28, Tryz.ntmps28
  go_wp2
  go_ret
  exact ⟨rfl, rfl⟩
/-- Neither single nor inquiring: no doubt. -/
theorem cDoubt_no {w : World} {cb : Nat} {n : Int} (h : w.cell? ⟨cb, 6, none⟩ = some (.int .i64 n)) (h2 : n ≠ 2) (h4 : n ≠ 4) :
    Calls Tryz.prog 36 #[.pointer (some ⟨cb, 0, none⟩)] w fun e w' => e = .returned (.bool false) ∧ ∃ k, w' = w.drewN k := by
  have b2 : (n == 2) = false := beq_eq_false_iff_ne.2 h2
  have b4 : (n == 4) = false := beq_eq_false_iff_ne.2 h4
  go_enter Tryz.func36, Tryz.ntmps36
  go_wp2
  go_quiet (fail)
  go_wp2
  go_ret
  exact ⟨rfl, (by first | exact ⟨_, rfl⟩ | (simp only [World.drewN_drewN]; exact ⟨_, rfl⟩))⟩
theorem cReply_no {w : World} {cb : Nat} (h : w.cell? ⟨cb, 12, none⟩ = some (.bool false)) :
    Calls Tryz.prog 18 #[.pointer (some ⟨cb, 0, none⟩)] w fun e w' => e = .returned (.tuple #[.slice none 0 0, .bool false]) ∧ w' = w := by
  go_enter Tryz.func18, Tryz.ntmps18
  go_wp2
  go_ret2
  exact ⟨rfl, rfl⟩
theorem cReply_yes {w : World} {cb : Nat} {M : Nat → Prop} {v : Value} {xs : List UInt8} (h : w.cell? ⟨cb, 12, none⟩ = some (.bool true)) (hr : w.cell? ⟨cb, 11, none⟩ = some v) (hv : Ty.bytes.rep w M [v] xs) :
    Calls Tryz.prog 18 #[.pointer (some ⟨cb, 0, none⟩)] w fun e w' => ∃ v', e = .returned (.tuple #[v', .bool true]) ∧ Own Ty.byte 5 w' (· < w.heap.size) w.heap.size v' xs ∧ Step w w' := by
  have HV := Lib.hid hv
  clear hv
  go_enter Tryz.func18, Tryz.ntmps18
  go_wp2_with (go_at_call 54; refine (Clone_ _ _ _ _ (by refine Ty.step _ (Hid.out (by assumption)) ?_; (repeat (first | exact Step.refl _ | refine Step.alloc ?_ _ | refine Step.drew ?_ | refine Step.drewN ?_ _ | refine Step.setCell ?_ (by first | exact Nat.le_refl _ | assumption | omega | (simp; done) | (simp; omega)) _ | assumption | refine Step.trans ?_ (by assumption : Step _ _))))).mono ?_; rintro e w1 ⟨v1, rfl, hA1, hS1⟩; have HA1 := Lib.hid hA1; clear hA1)
  go_ret2
  exact ⟨_, rfl, HA1.out, hS1⟩
end Go.Proofs.YthflkfgiclcdiaaGreat
