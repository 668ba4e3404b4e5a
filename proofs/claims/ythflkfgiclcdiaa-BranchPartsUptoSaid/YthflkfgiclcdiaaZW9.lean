/-
  Walk: a request of one's own (OwnOps).
-/
import Derived.Test.YthflkfgiclcdiaaZP4
set_option linter.unusedVariables false
set_option linter.unusedSimpArgs false
namespace Go.Proofs.Ythflkfgiclcdiaa
open Go.RowKit Go.Gr

set_option maxHeartbeats 400000 in
set_option maxRecDepth 100000 in
theorem OwnOps_ (w : World) (M : Nat → Prop) (v : Value) (xs : List DOp) (h : (Ty.slice tOp).rep w M [v] xs) :
    Calls Try.prog 14 #[v] w fun e w' => ∃ v', e = .returned v' ∧ Own tOp 72 w' (· < w.heap.size) w.heap.size v' xs ∧ Step w w' := by
  obtain ⟨a, c, rfl, hc, hm, hl⟩ := Ty.slice_val h
  have H := Lib.hid h
  clear h
  have hl' := hl
  rw [lim_eq] at hl'
  go_enter Try.func14, Try.ntmps14
  go_wp2
  go_loopw [3, 5, 8] (fun o p i w' => ∃ k : Nat, i = .int .i64 k ∧ k ≤ xs.length ∧ Own tOp 72 w' (· < w.heap.size) w.heap.size o (xs.take k) ∧ Step w w') (fun _ _ i _ => xs.length - (intOf i).toNat)
  case atStart => exact ⟨0, rfl, by omega, Own.nil, Step.refl _⟩
  case round =>
    rename_i wr _
    obtain ⟨k, rfl, hk, hA, hB⟩ := hrel
    have HA := Lib.hid hA
    clear hA
    by_cases hlt : k < xs.length
    · obtain ⟨ob, oo, oes, rfl, ohb, _, ou, ocu⟩ := Ty.slice_at H.out hlt
      obtain ⟨oc1, oc2, rfl, oh0, oh1, oh2, oh3⟩ := ou
      have oq0 := (Step.cell (w' := wr) (by (repeat (first | exact Step.refl _ | refine Step.alloc ?_ _ | refine Step.drew ?_ | refine Step.drewN ?_ _ | refine Step.setCell ?_ (by first | exact Nat.le_refl _ | assumption | omega | (simp; done) | (simp; omega)) _ | assumption | refine Step.trans ?_ (by assumption : Step _ _)))) ohb _).trans (ocu 0 _ rfl)
      have oq1 := (Step.cell (w' := wr) (by (repeat (first | exact Step.refl _ | refine Step.alloc ?_ _ | refine Step.drew ?_ | refine Step.drewN ?_ _ | refine Step.setCell ?_ (by first | exact Nat.le_refl _ | assumption | omega | (simp; done) | (simp; omega)) _ | assumption | refine Step.trans ?_ (by assumption : Step _ _)))) ohb _).trans (ocu 1 _ rfl)
      have oq2 := (Step.cell (w' := wr) (by (repeat (first | exact Step.refl _ | refine Step.alloc ?_ _ | refine Step.drew ?_ | refine Step.drewN ?_ _ | refine Step.setCell ?_ (by first | exact Nat.le_refl _ | assumption | omega | (simp; done) | (simp; omega)) _ | assumption | refine Step.trans ?_ (by assumption : Step _ _)))) ohb _).trans (ocu 2 _ rfl)
      have oq3 := (Step.cell (w' := wr) (by (repeat (first | exact Step.refl _ | refine Step.alloc ?_ _ | refine Step.drew ?_ | refine Step.drewN ?_ _ | refine Step.setCell ?_ (by first | exact Nat.le_refl _ | assumption | omega | (simp; done) | (simp; omega)) _ | assumption | refine Step.trans ?_ (by assumption : Step _ _)))) ohb _).trans (ocu 3 _ rfl)
      simp only [show tOp.n = 4 from rfl, Nat.add_zero] at oq0 oq1 oq2 oq3
      obtain ⟨oa1, on1, rfl, _⟩ := Ty.slice_val oh1
      obtain ⟨oa2, on2, rfl, _⟩ := Ty.slice_val oh2
      have oH0 := Lib.hid oh0
      have oH1 := Lib.hid oh1
      have oH2 := Lib.hid oh2
      have oH3 := Lib.hid oh3
      clear ocu oh0 oh1 oh2 oh3
      go_wp2
      have hz := hB.size
      go_region_held3 (fun w' => w'.cell? ⟨wr.heap.size, 0, none⟩ = some (.int .i64 xs[k].kind) ∧ w'.cell? ⟨wr.heap.size, 1, none⟩ = some (.slice oa1 xs[k].key.length on1) ∧ w'.cell? ⟨wr.heap.size, 2, none⟩ = some (.slice oa2 xs[k].value.length on2) ∧ w'.cell? ⟨wr.heap.size, 3, none⟩ = some (.int .i64 xs[k].most)) (go_keep)
        (first
          | (go_at_call 44; refine (Copy_ _ _ _ _ (by refine Ty.step _ (Hid.out (by assumption)) ?_; (repeat (first | exact Step.refl _ | refine Step.alloc ?_ _ | refine Step.drew ?_ | refine Step.drewN ?_ _ | refine Step.setCell ?_ (by first | exact Nat.le_refl _ | assumption | omega | (simp; done) | (simp; omega)) _ | assumption | refine Step.trans ?_ (by assumption : Step _ _))))).mono ?_; rintro e1 w1 ⟨v1, rfl, hA1, hS1⟩; obtain ⟨b1, m1, rfl⟩ := hA1.val; have s1_0 : ∀ j, w1.cell? ⟨wr.heap.size, j, none⟩ = _ := fun j => hS1.cell (by first | assumption | omega | (simp; done) | (simp; omega)) j; have z1_0 : wr.heap.size < w1.heap.size := Nat.lt_of_lt_of_le (by first | assumption | omega | (simp; done) | (simp; omega)) hS1.size; have HA1 := Lib.hid hA1; clear hA1)
          | (refine step_append_acc (ys := [xs[k]]) rfl (.tmp 12) (.tmp 24) rfl stOps (by (repeat (first | exact Step.refl _ | refine Step.alloc ?_ _ | refine Step.drew ?_ | refine Step.drewN ?_ _ | refine Step.setCell ?_ (by first | exact Nat.le_refl _ | assumption | omega | (simp; done) | (simp; omega)) _ | assumption | refine Step.trans ?_ (by assumption : Step _ _)))) ((Own.step HA.out (by (repeat (first | exact Step.refl _ | refine Step.alloc ?_ _ | refine Step.drew ?_ | refine Step.drewN ?_ _ | refine Step.setCell ?_ (by first | exact Nat.le_refl _ | assumption | omega | (simp; done) | (simp; omega)) _ | assumption | refine Step.trans ?_ (by assumption : Step _ _))))).alloc _) (Src.one ⟨_, _, rfl, oH0.out, Own.fresh (by refine Own.step (Hid.out (by assumption)) ?_; (repeat (first | exact Step.refl _ | refine Step.alloc ?_ _ | refine Step.drew ?_ | refine Step.drewN ?_ _ | refine Step.setCell ?_ (by first | exact Nat.le_refl _ | assumption | omega | (simp; done) | (simp; omega)) _ | assumption | refine Step.trans ?_ (by assumption : Step _ _)))) (fun b hb => Nat.lt_trans (HA.out.old (by (repeat (first | exact Step.refl _ | refine Step.alloc ?_ _ | refine Step.drew ?_ | refine Step.drewN ?_ _ | refine Step.setCell ?_ (by first | exact Nat.le_refl _ | assumption | omega | (simp; done) | (simp; omega)) _ | assumption | refine Step.trans ?_ (by assumption : Step _ _)))) b hb) (by first | assumption | omega | (simp; done) | (simp; omega))), Own.fresh (by refine Own.step (Hid.out (by assumption)) ?_; (repeat (first | exact Step.refl _ | refine Step.alloc ?_ _ | refine Step.drew ?_ | refine Step.drewN ?_ _ | refine Step.setCell ?_ (by first | exact Nat.le_refl _ | assumption | omega | (simp; done) | (simp; omega)) _ | assumption | refine Step.trans ?_ (by assumption : Step _ _)))) (fun b hb => Nat.lt_trans (HA.out.old (by (repeat (first | exact Step.refl _ | refine Step.alloc ?_ _ | refine Step.drew ?_ | refine Step.drewN ?_ _ | refine Step.setCell ?_ (by first | exact Nat.le_refl _ | assumption | omega | (simp; done) | (simp; omega)) _ | assumption | refine Step.trans ?_ (by assumption : Step _ _)))) b hb) (by first | assumption | omega | (simp; done) | (simp; omega))), oH3.out⟩) (by rw [List.length_take, lim_eq]; simp; omega) rfl rfl ?_; intro v3 w3 hA3 hB3 hG3 _; have s3 : ∀ j, w3.cell? ⟨wr.heap.size, j, none⟩ = _ := fun j => World.cell?_of_block (a := ⟨_, j, _⟩) (hG3.block _ (by first | assumption | omega | (simp; done) | (simp; omega)) (fun e => absurd (HA.out.lt e.symm).2 (Nat.lt_irrefl _))); have HA3 := Lib.hid hA3; clear hA3))
      go_wp2
      go_roundw
      case rel => exact ⟨k + 1, by go_num, by omega, by rw [List.take_succ_eq_append_getElem hlt]; exact HA3.out, hB3⟩
      case measure => simp [intOf]; omega
    · go_wp2
      go_ret
      obtain rfl : k = xs.length := by omega
      exact ⟨_, rfl, by simpa using HA.out, hB⟩
end Go.Proofs.Ythflkfgiclcdiaa
