/-
  Walks: the errors of operations and requests (fault, Check).
-/
import Derived.Test.YthflkfgiclcdiaaW3
import Derived.Test.YthflkfgiclcdiaaW2
import Derived.BigGuardPart
namespace Go.Proofs.Ythflkfgiclcdiaa
open Go.RowKit Go.Gr
def faultB (o : DOp) : Int :=
  if 64 < o.key.length ∨ (o.kind = 4 ∧ 64 < o.value.length) ∨ ((o.kind = 2 ∨ o.kind = 5) ∧ 128 < o.value.length) then
    if o.kind = 4 ∧ (o.most < 1 ∨ 32 < o.most) then 1 else 2
  else if o.kind < 1 ∨ 6 < o.kind then 3
  else if o.kind = 4 ∧ (o.most < 1 ∨ 32 < o.most) then 1 else 0
set_option maxRecDepth 100000 in
set_option maxHeartbeats 4000000 in
theorem fault_ {w : World} {M : Nat → Prop} {cs : List Value} {o : DOp} (h : tOp.rep w M cs o) :
    Calls Try.prog 68 #[.agg cs.toArray] w fun e w' => e = .returned (.int .i64 (faultB o)) ∧ Step w w' := by
  obtain ⟨c1, c2, rfl, h0, h1, h2, h3⟩ := h
  obtain ⟨a1, n1, rfl, _, _, hl1⟩ := Ty.slice_val h1
  obtain ⟨a2, n2, rfl, _, _, hl2⟩ := Ty.slice_val h2
  obtain ⟨k, key, value, most⟩ := o
  clear h1 h2
  rcases (by omega : k = 2 ∨ k = 5 ∨ k = 4 ∨ (k ≠ 2 ∧ k ≠ 5 ∧ k ≠ 4)) with rfl | rfl | rfl | ⟨_, _, _⟩
  all_goals go_enter Try.func68, Try.ntmps68
  all_goals go_wp2
  all_goals go_ret
  all_goals refine ⟨congrArg (fun x => Ending.returned (.int .i64 x)) ?_, by (repeat (first | exact Step.refl _ | refine Step.alloc ?_ _ | refine Step.drew ?_ | refine Step.drewN ?_ _ | refine Step.setCell ?_ (by first | exact Nat.le_refl _ | assumption | omega | (simp; done) | (simp; omega)) _ | assumption | refine Step.trans ?_ (by assumption : Step _ _)))⟩
  all_goals (unfold faultB; dsimp only; (repeat' split) <;> first | rfl | (exfalso; omega))

theorem faultB_range (o : DOp) : 0 ≤ faultB o ∧ faultB o ≤ 3 := by
  unfold faultB
  (repeat' split) <;> omega
def checkStep (out : Int) (o : DOp) : Int := if faultB o ≠ 0 ∧ (out = 0 ∨ faultB o < out) then faultB o else out
def checkAll (ops : List DOp) : Int := ops.foldl checkStep 0
theorem checkAll_range (ops : List DOp) : 0 ≤ checkAll ops ∧ checkAll ops ≤ 3 := by
  have : ∀ (l : List DOp) (c : Int), 0 ≤ c ∧ c ≤ 3 → 0 ≤ l.foldl checkStep c ∧ l.foldl checkStep c ≤ 3 := by
    intro l
    induction l with
    | nil => intro c h; exact h
    | cons o l ih =>
      intro c h
      refine ih _ ?_
      unfold checkStep
      have := faultB_range o
      split <;> omega
  exact this ops 0 (by omega)
theorem checkAll_snoc (ops : List DOp) (o : DOp) : checkAll (ops ++ [o]) = checkStep (checkAll ops) o := by simp [checkAll]
def checkB (ops : List DOp) : Int := if 16 < ops.length ∧ (checkAll ops = 0 ∨ 2 < checkAll ops) then 2 else checkAll ops

theorem step_yes {c f : Int} {o : DOp} (hf : f = faultB o) (h1 : f ≠ 0) (h2 : c = 0 ∨ f < c) : checkStep c o = f := by subst hf; exact if_pos ⟨h1, h2⟩
theorem step_no {c f : Int} {o : DOp} (hf : f = faultB o) (h : f = 0 ∨ (c ≠ 0 ∧ c ≤ f)) : checkStep c o = c := by subst hf; exact if_neg (by omega)

set_option maxRecDepth 100000 in
set_option maxHeartbeats 2000000 in
theorem Check_ {w : World} {M : Nat → Prop} {v : Value} {xs : List DOp} (h : (Ty.slice tOp).rep w M [v] xs) :
    Calls Try.prog 27 #[v] w fun e w' => e = .returned (.int .i64 (checkB xs)) ∧ Step w w' := by
  obtain ⟨a, c, rfl, hc, hm, hl⟩ := Ty.slice_val h
  have H := Lib.hid h
  clear h
  have hl' := hl
  rw [lim_eq] at hl'
  go_enter Try.func27, Try.ntmps27
  go_wp2
  go_loopw [3, 5, 6, 9] (fun o _ _ i w' => ∃ k : Nat, i = .int .i64 k ∧ k ≤ xs.length ∧ o = .int .i64 (checkAll (xs.take k)) ∧ Step w w') (fun _ _ _ i _ => xs.length - (intOf i).toNat)
  case atStart => exact ⟨0, rfl, by omega, rfl, Step.refl _⟩
  case round =>
    rename_i wr _
    obtain ⟨k, rfl, hk, rfl, hB⟩ := hrel
    by_cases hlt : k < xs.length
    · obtain ⟨ob, oo, oes, rfl, ohb, _, ou, ocu⟩ := Ty.slice_at H.out hlt
      obtain ⟨oc1, oc2, rfl, oh0, oh1, oh2, oh3⟩ := ou
      have oq0 := (Step.cell (w' := wr) (by (repeat (first | exact Step.refl _ | refine Step.alloc ?_ _ | refine Step.drew ?_ | refine Step.drewN ?_ _ | refine Step.setCell ?_ (by first | exact Nat.le_refl _ | assumption | omega | (simp; done) | (simp; omega)) _ | assumption | refine Step.trans ?_ (by assumption : Step _ _)))) ohb _).trans (ocu 0 _ rfl)
      have oq1 := (Step.cell (w' := wr) (by (repeat (first | exact Step.refl _ | refine Step.alloc ?_ _ | refine Step.drew ?_ | refine Step.drewN ?_ _ | refine Step.setCell ?_ (by first | exact Nat.le_refl _ | assumption | omega | (simp; done) | (simp; omega)) _ | assumption | refine Step.trans ?_ (by assumption : Step _ _)))) ohb _).trans (ocu 1 _ rfl)
      have oq2 := (Step.cell (w' := wr) (by (repeat (first | exact Step.refl _ | refine Step.alloc ?_ _ | refine Step.drew ?_ | refine Step.drewN ?_ _ | refine Step.setCell ?_ (by first | exact Nat.le_refl _ | assumption | omega | (simp; done) | (simp; omega)) _ | assumption | refine Step.trans ?_ (by assumption : Step _ _)))) ohb _).trans (ocu 2 _ rfl)
      have oq3 := (Step.cell (w' := wr) (by (repeat (first | exact Step.refl _ | refine Step.alloc ?_ _ | refine Step.drew ?_ | refine Step.drewN ?_ _ | refine Step.setCell ?_ (by first | exact Nat.le_refl _ | assumption | omega | (simp; done) | (simp; omega)) _ | assumption | refine Step.trans ?_ (by assumption : Step _ _)))) ohb _).trans (ocu 3 _ rfl)
      simp only [show tOp.n = 4 from rfl, Nat.add_zero] at oq0 oq1 oq2 oq3
      obtain ⟨oa1, on1, rfl, _⟩ := Ty.slice_val oh1
      obtain ⟨oa2, on2, rfl, _⟩ := Ty.slice_val oh2
      have oH0 := Lib.hid oh0
      have oH1 := Lib.hid oh1
      have oH2 := Lib.hid oh2
      have oH3 := Lib.hid oh3
      clear ocu oh0 oh1 oh2 oh3
      have hR : Hid (tOp.rep wr M [.int .i64 xs[k].kind, .slice oa1 xs[k].key.length on1, .slice oa2 xs[k].value.length on2, .int .i64 xs[k].most] xs[k]) := Lib.hid ⟨_, _, rfl, oH0.out, Ty.step _ oH1.out hB, Ty.step _ oH2.out hB, oH3.out⟩
      have hsn : Hid (checkAll (xs.take (k + 1)) = checkStep (checkAll (xs.take k)) xs[k]) := Lib.hid (by rw [List.take_succ_eq_append_getElem hlt, checkAll_snoc])
      have hr1 := checkAll_range (xs.take k)
      have hr2 := faultB_range xs[k]
      generalize hf : faultB xs[k] = f at hr2
      generalize checkAll (xs.take k) = c at hr1 hsn ⊢
      have HF := Lib.hid hf
      clear hf
      go_wp2_with (go_at_call 68; refine (fault_ (Ty.step _ hR.out (by (repeat (first | exact Step.refl _ | refine Step.alloc ?_ _ | refine Step.drew ?_ | refine Step.drewN ?_ _ | refine Step.setCell ?_ (by first | exact Nat.le_refl _ | assumption | omega | (simp; done) | (simp; omega)) _ | assumption | refine Step.trans ?_ (by assumption : Step _ _)))))).mono ?_; rintro e w1 ⟨rfl, hS1⟩; rw [HF.out])
      all_goals refine ⟨⟨k + 1, by go_num, by omega, ?_, by (repeat (first | exact Step.refl _ | refine Step.alloc ?_ _ | refine Step.drew ?_ | refine Step.drewN ?_ _ | refine Step.setCell ?_ (by first | exact Nat.le_refl _ | assumption | omega | (simp; done) | (simp; omega)) _ | assumption | refine Step.trans ?_ (by assumption : Step _ _)))⟩, by simp [intOf]; omega⟩
      all_goals (rw [hsn.out]; first | rw [step_yes HF.out.symm (by omega) (by omega)] | rw [step_no HF.out.symm (by omega)])
    · obtain rfl : k = xs.length := by omega
      have hr1 := checkAll_range xs
      have hb : Hid (checkB xs = if 16 < xs.length ∧ (checkAll xs = 0 ∨ 2 < checkAll xs) then 2 else checkAll xs) := Lib.hid rfl
      rw [List.take_length]
      generalize checkAll xs = c at hr1 hb ⊢
      go_wp2
      all_goals go_ret
      all_goals refine ⟨congrArg (fun x => Ending.returned (.int .i64 x)) ?_, by (repeat (first | exact Step.refl _ | refine Step.alloc ?_ _ | refine Step.drew ?_ | refine Step.drewN ?_ _ | refine Step.setCell ?_ (by first | exact Nat.le_refl _ | assumption | omega | (simp; done) | (simp; omega)) _ | assumption | refine Step.trans ?_ (by assumption : Step _ _)))⟩
      all_goals (rw [hb.out]; first | rw [if_pos (by omega)] | rw [if_neg (by omega)])
end Go.Proofs.Ythflkfgiclcdiaa
