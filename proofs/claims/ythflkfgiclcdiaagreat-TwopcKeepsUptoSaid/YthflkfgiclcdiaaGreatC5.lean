/-
  Walks: what Begin's closure asks; Begin with parts.
-/
import Derived.Test.YthflkfgiclcdiaaGreatC4
import Derived.Test.YthflkfgiclcdiaaGreatW8
namespace Go.Proofs.YthflkfgiclcdiaaGreat
open Go.Gr Go.RowKit
set_option linter.unusedSimpArgs false
/-- What a shard is asked first. -/
def workAsk (parts : List DPart) (i : Nat) : DAsk := ⟨2, 0, 0, 0, ⟨0, 0, 0⟩, (parts[i]?.map (·.ops)).getD [], false, [], 0, []⟩
set_option maxRecDepth 100000 in
set_option maxHeartbeats 1000000 in
theorem Begin1_ {W : World} {B cb bx i : Nat} {c : DCoord} {vo vp mo mu vs vr : Value} (h : CoordIn W B cb c vo vp mo mu vs vr) (hb : W.cell? ⟨bx, 0, none⟩ = some (.pointer (some ⟨cb, 0, none⟩))) (hi : i < c.parts.length) :
    Calls Tryz.prog 51 #[.int .i64 (i : Int), .pointer (some ⟨bx, 0, none⟩)] W fun e w' => ∃ cs, e = .returned (.agg cs) ∧ tAsk.rep w' (coM B cb mo mu) cs.toList (workAsk c.parts i) ∧ Step W w' := by
  obtain ⟨a1, c1, rfl, _⟩ := Ty.slice_val h.parts
  have p4 : W.cell? ⟨cb, 4, none⟩ = some (.slice a1 c.parts.length c1) := h.cells.cell 4
  have hcb := h.lt
  have hbx := lt_of_cell hb
  have H := Lib.hid h.parts
  clear h
  obtain ⟨ob, oo, oes, rfl, ohb, _, ou, ocu⟩ := Ty.slice_at H.out hi
  obtain ⟨oc1, oc2, rfl, oh0, oh1, oh2⟩ := ou
  have oq0 := (Step.cell (w' := W) (by (repeat (first | exact Step.refl _ | refine Step.alloc ?_ _ | refine Step.drew ?_ | refine Step.drewN ?_ _ | refine Step.setCell ?_ (by first | exact Nat.le_refl _ | assumption | omega | (simp; done) | (simp; omega)) _ | assumption | refine Step.trans ?_ (by assumption : Step _ _)))) ohb _).trans (ocu 0 _ rfl)
  have oq1 := (Step.cell (w' := W) (by (repeat (first | exact Step.refl _ | refine Step.alloc ?_ _ | refine Step.drew ?_ | refine Step.drewN ?_ _ | refine Step.setCell ?_ (by first | exact Nat.le_refl _ | assumption | omega | (simp; done) | (simp; omega)) _ | assumption | refine Step.trans ?_ (by assumption : Step _ _)))) ohb _).trans (ocu 1 _ rfl)
  have oq2 := (Step.cell (w' := W) (by (repeat (first | exact Step.refl _ | refine Step.alloc ?_ _ | refine Step.drew ?_ | refine Step.drewN ?_ _ | refine Step.setCell ?_ (by first | exact Nat.le_refl _ | assumption | omega | (simp; done) | (simp; omega)) _ | assumption | refine Step.trans ?_ (by assumption : Step _ _)))) ohb _).trans (ocu 2 _ rfl)
  simp only [show tPart.n = 3 from rfl, Nat.add_zero] at oq0 oq1 oq2
  obtain ⟨oa1, on1, rfl, _⟩ := Ty.slice_val oh1
  obtain ⟨oa2, on2, rfl, _⟩ := Ty.slice_val oh2
  have oH0 := Lib.hid oh0
  have oH1 := Lib.hid oh1
  have oH2 := Lib.hid oh2
  clear ocu oh0 oh1 oh2
  go_enter Tryz.func51, Tryz.ntmps51
  go_wp2
  have hw : workAsk c.parts i = ⟨2, 0, 0, 0, ⟨0, 0, 0⟩, c.parts[i].ops, false, [], 0, []⟩ := by simp [workAsk, hi]
  refine bodyPost_ret (v := .agg #[.int .i64 2, .int .u64 0, .int .u64 0, .int .u64 0, .int .u64 0, .int .u64 0, .int .u64 0, .slice oa1 c.parts[i].ops.length on1, .bool false, .slice none 0 0, .int .u64 0, .string ⟨#[]⟩]) (by simp [results, Tryz.results51, go_sem]) rfl ⟨_, rfl, ?_, by (repeat (first | exact Step.refl _ | refine Step.alloc ?_ _ | refine Step.drew ?_ | refine Step.drewN ?_ _ | refine Step.setCell ?_ (by first | exact Nat.le_refl _ | assumption | omega | (simp; done) | (simp; omega)) _ | assumption | refine Step.trans ?_ (by assumption : Step _ _)))⟩
  rw [hw]
  exact ⟨_, _, rfl, by simp [I64], by simp, by simp, by simp, by simp, by simp, by simp, Ty.step _ oH1.out (by (repeat (first | exact Step.refl _ | refine Step.alloc ?_ _ | refine Step.drew ?_ | refine Step.drewN ?_ _ | refine Step.setCell ?_ (by first | exact Nat.le_refl _ | assumption | omega | (simp; done) | (simp; omega)) _ | assumption | refine Step.trans ?_ (by assumption : Step _ _)))), nil_rep, by simp, by simp⟩
set_option maxRecDepth 100000 in
set_option maxHeartbeats 4000000 in
theorem Begin_work {w : World} {B cb : Nat} {c : DCoord} {vo vp mo mu vs vr : Value} (h : CoordIn w B cb c vo vp mo mu vs vr) (hB : B ≤ w.heap.size) (hinc : c.shards.Pairwise (· < ·)) (hsh : c.shards.length = c.parts.length)
    (hph : c.phase = 0) (hck : checkB c.ops = 0) (hne : c.parts ≠ []) :
    Calls Tryz.prog 10 #[.pointer (some ⟨cb, 0, none⟩)] w fun e w' => ∃ v' mu', e = .returned v' ∧ Own tSend 41 w' (· < w.heap.size) w.heap.size v' (sendsOf (some (asksOf c.txn c.shards (workAsk c.parts)))) ∧
      CoordIn w' B cb { c with out := some (asksOf c.txn c.shards (workAsk c.parts)) } vo vp mo mu' vs vr ∧ Turn (· = cb) w w' := by
  have hcb := h.lt
  have p6 : w.cell? ⟨cb, 6, none⟩ = some (.int .i64 0) := by rw [← hph]; exact h.cells.cell 6
  have p3 : w.cell? ⟨cb, 3, none⟩ = some vo := h.cells.cell 3
  have p4 : w.cell? ⟨cb, 4, none⟩ = some vp := h.cells.cell 4
  obtain ⟨a1, c1, rfl, _⟩ := Ty.slice_val h.parts
  obtain ⟨a2, c2, rfl, _⟩ := Ty.slice_val h.ops
  have hlen : 0 < c.parts.length := List.length_pos_iff.2 hne
  have hz : ((c.parts.length : Int) == 0) = false := beq_eq_false_iff_ne.2 (by omega)
  have H := Lib.hid h
  have HI := Lib.hid hinc
  have HSH := Lib.hid hsh
  have HCK := Lib.hid hck
  clear h hinc hsh hck hph hne
  have hent := enters_of Tryz.func51 (by kernel_rfl) rfl
  go_enter Tryz.func10, Tryz.ntmps10
  go_wp2_with (go_at_call 48; refine (Check_ (Ty.step _ H.out.ops (by (repeat (first | exact Step.refl _ | refine Step.alloc ?_ _ | refine Step.drew ?_ | refine Step.drewN ?_ _ | refine Step.setCell ?_ (by first | exact Nat.le_refl _ | assumption | omega | (simp; done) | (simp; omega)) _ | assumption | refine Step.trans ?_ (by assumption : Step _ _)))))).mono ?_; rintro e w1 ⟨rfl, hS1⟩; rw [HCK.out]; have s1 : ∀ j, w1.cell? ⟨cb, j, none⟩ = _ := fun j => hS1.cell (by simp; omega) j; have s1' : ∀ j, w1.cell? ⟨w.heap.size, j, none⟩ = _ := fun j => hS1.cell (by simp) j)
  have hz1 := hS1.size
  simp only [World.size_alloc] at hz1
  have hS2 : Step w w1 := by (repeat (first | exact Step.refl _ | refine Step.alloc ?_ _ | refine Step.drew ?_ | refine Step.drewN ?_ _ | refine Step.setCell ?_ (by first | exact Nat.le_refl _ | assumption | omega | (simp; done) | (simp; omega)) _ | assumption | refine Step.trans ?_ (by assumption : Step _ _)))
  have hbx : w1.cell? ⟨w.heap.size, 0, none⟩ = some (.pointer (some ⟨cb, 0, none⟩)) := by rw [s1' 0]; simp
  have H1 := Lib.hid (H.out.keep (fun b h1 _ => hS2.heap h1))
  refine (send_ (f := workAsk c.parts) (caps := #[.pointer (some ⟨w.heap.size, 0, none⟩)]) H1.out (by omega) HI.out hent (fun i hi W nb l hCI hT => Begin1_ (c := { c with out := some l }) hCI ((hT.cell (by omega) (by omega) 0).trans hbx) (by rw [← HSH.out]; exact hi))).mono ?_
  rintro e w2 ⟨v2, rfl, hA2, hC2, hT2⟩
  have HA2 := Lib.hid hA2
  have HC2 := Lib.hid hC2
  clear hA2 hC2
  go_wp2
  go_ret
  exact ⟨_, _, rfl, (Own.base HA2.out (by omega)).less (fun b _ hb => by omega), HC2.out, (Turn.of hS2).trans hT2⟩
end Go.Proofs.YthflkfgiclcdiaaGreat
