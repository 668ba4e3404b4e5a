/-
  Walks: finish, Logged.
-/
import Derived.Test.YthflkfgiclcdiaaGreatC17
namespace Go.Proofs.YthflkfgiclcdiaaGreat
open Go.Gr Go.RowKit
set_option linter.unusedSimpArgs false
/-- What all shards are told in the end. -/
def finAsk (cm : Bool) (_ : Nat) : DAsk := ⟨5, 0, 0, 0, ⟨0, 0, 0⟩, [], cm, [], 0, []⟩
set_option maxRecDepth 100000 in
set_option maxHeartbeats 1000000 in
theorem finish1_ {W : World} {B cb bx i : Nat} {c : DCoord} {vo vp mo mu vs vr : Value} (h : CoordIn W B cb c vo vp mo mu vs vr) (hb : W.cell? ⟨bx, 0, none⟩ = some (.pointer (some ⟨cb, 0, none⟩))) :
    Calls Tryz.prog 90 #[.int .i64 (i : Int), .pointer (some ⟨bx, 0, none⟩)] W fun e w' => ∃ cs, e = .returned (.agg cs) ∧ tAsk.rep w' (coM B cb mo mu) cs.toList (finAsk c.commit i) ∧ Step W w' := by
  have p10 : W.cell? ⟨cb, 10, none⟩ = some (.bool c.commit) := h.cells.cell 10
  have hcb := h.lt
  have hbx := lt_of_cell hb
  clear h
  go_enter Tryz.func90, Tryz.ntmps90
  go_wp2
  refine bodyPost_ret (v := .agg #[.int .i64 5, .int .u64 0, .int .u64 0, .int .u64 0, .int .u64 0, .int .u64 0, .int .u64 0, .slice none 0 0, .bool c.commit, .slice none 0 0, .int .u64 0, .string ⟨#[]⟩]) (by simp [results, Tryz.results90, go_sem]) rfl ⟨_, rfl, ?_, by (repeat (first | exact Step.refl _ | refine Step.alloc ?_ _ | refine Step.drew ?_ | refine Step.drewN ?_ _ | refine Step.setCell ?_ (by first | exact Nat.le_refl _ | assumption | omega | (simp; done) | (simp; omega)) _ | assumption | refine Step.trans ?_ (by assumption : Step _ _)))⟩
  exact ⟨_, _, rfl, by simp [finAsk, I64], by simp [finAsk], by simp [finAsk], by simp [finAsk], by simp [finAsk], by simp [finAsk], by simp [finAsk], nil_of, nil_rep, by simp [finAsk], by simp [finAsk]⟩
set_option maxRecDepth 100000 in
set_option maxHeartbeats 4000000 in
theorem finish_ {w : World} {B cb : Nat} {c : DCoord} {vo vp mo mu vs vr : Value} (h : CoordIn w B cb c vo vp mo mu vs vr) (hB : B ≤ w.heap.size) (hinc : c.shards.Pairwise (· < ·)) (hne : c.shards ≠ []) :
    Calls Tryz.prog 44 #[.pointer (some ⟨cb, 0, none⟩)] w fun e w' => ∃ v', e = .returned v' ∧ Own tSend 41 w' (· < w.heap.size) w.heap.size v' (sendsOf (some (asksOf c.txn c.shards (finAsk c.commit)))) ∧
      (∃ nb, CoordIn w' B cb { c with phase := 3, wants := 0, out := some (asksOf c.txn c.shards (finAsk c.commit)) } vo vp mo (.map (some nb)) vs vr) ∧ Turn (· = cb) w w' := by
  have hcb := h.lt
  have p6 : w.cell? ⟨cb, 6, none⟩ = some (.int .i64 c.phase) := h.cells.cell 6
  have p7 : w.cell? ⟨cb, 7, none⟩ = some (.int .i64 c.wants) := h.cells.cell 7
  have f6 : w.frozen? ⟨cb, 6, none⟩ = false := h.cells.frozen 6
  have f7 : w.frozen? ⟨cb, 7, none⟩ = false := h.cells.frozen 7
  have H := Lib.hid h
  have HI := Lib.hid hinc
  have HNE := Lib.hid hne
  clear h hinc hne
  have hent := enters_of Tryz.func90 (by kernel_rfl) rfl
  go_enter Tryz.func44, Tryz.ntmps44
  go_upto_region 1 with fail
  refine wp_region_held_drew (S := (fun w' => w'.cell? ⟨w.heap.size, 0, none⟩ = some (.pointer (some ⟨cb, 0, none⟩)))) (by kernel_rfl) ?_ (fun hHeld => ?_)
  · (first | exact cell_of_row _ _ 0 _ _ (0, 0) (heap_alloc_at (by simp)) | go_keep)
  refine wpAnyH_take (i := 0) (v := ?_) rfl (by kernel_rfl) (by kernel_rfl) (by kernel_rfl) (fun _ _ _ h => h) (Or.inl ⟨by rfl, ?_⟩) (by assumption) ?_
  rotate_left 1
  · (intro w hSw; (try dsimp only at hSw); go_simp; (try with_reducible rfl))
  try simp only [Act.put, List.getElem_toArray, List.getElem_cons_succ, List.getElem_cons_zero, List.setIfInBounds_toArray, List.set_cons_zero, List.set_cons_succ]
  refine wpAnyH_take (i := 1) (v := ?_) rfl (by kernel_rfl) (by kernel_rfl) (by kernel_rfl) (fun _ _ _ h => h) (Or.inl ⟨by rfl, ?_⟩) (by assumption) ?_
  rotate_left 1
  · (intro w hSw; (try dsimp only at hSw); go_simp; (try with_reducible rfl))
  try simp only [Act.put, List.getElem_toArray, List.getElem_cons_succ, List.getElem_cons_zero, List.setIfInBounds_toArray, List.set_cons_zero, List.set_cons_succ]
  refine wpAnyH_take (i := 2) (v := ?_) rfl (by kernel_rfl) (by kernel_rfl) (by kernel_rfl) (fun _ _ _ h => h) (Or.inl ⟨by rfl, ?_⟩) (by assumption) ?_
  rotate_left 1
  · (intro w hSw; (try dsimp only at hSw); go_simp; (try with_reducible rfl))
  try simp only [Act.put, List.getElem_toArray, List.getElem_cons_succ, List.getElem_cons_zero, List.setIfInBounds_toArray, List.set_cons_zero, List.set_cons_succ]
  refine wpAnyH_take (i := 3) (v := ?_) rfl (by kernel_rfl) (by kernel_rfl) (by kernel_rfl) (fun _ _ _ h => h) (Or.inl ⟨by rfl, ?_⟩) (by assumption) ?_
  rotate_left 1
  · (intro w hSw; (try dsimp only at hSw); go_simp; (try with_reducible rfl))
  try simp only [Act.put, List.getElem_toArray, List.getElem_cons_succ, List.getElem_cons_zero, List.setIfInBounds_toArray, List.set_cons_zero, List.set_cons_succ]
  refine wpAnyH_ready (rs := [4]) (by kernel_rfl) (by simp) ?_
  refine AllReadyH.cons rfl (fun K hK => ?_) AllReadyH.nil
  try simp only [List.getElem_toArray, List.getElem_cons_succ, List.getElem_cons_zero]
  go_simp
  refine hK.out _ _ ?_ (fun hHeld => ?_)
  · (first | exact cell_of_row _ _ 0 _ _ (0, 0) (heap_alloc_at (by simp)) | go_keep)
  clear hK K
  try simp only [Act.put, List.getElem_toArray, List.getElem_cons_succ, List.getElem_cons_zero, List.setIfInBounds_toArray, List.set_cons_zero, List.set_cons_succ]
  refine wpAnyH_take (i := 5) (v := ?_) rfl (by kernel_rfl) (by kernel_rfl) (by kernel_rfl) (fun _ _ _ h => h) (Or.inl ⟨by rfl, ?_⟩) (by assumption) ?_
  rotate_left 1
  · (intro w hSw; (try dsimp only at hSw); go_simp; (try with_reducible rfl))
  try simp only [Act.put, List.getElem_toArray, List.getElem_cons_succ, List.getElem_cons_zero, List.setIfInBounds_toArray, List.set_cons_zero, List.set_cons_succ]
  refine wpAnyH_take (i := 6) (v := ?_) rfl (by kernel_rfl) (by kernel_rfl) (by kernel_rfl) (fun _ _ _ h => h) (Or.inl ⟨by rfl, ?_⟩) (by assumption) ?_
  rotate_left 1
  · (intro w hSw; (try dsimp only at hSw); go_simp; (try with_reducible rfl))
  try simp only [Act.put, List.getElem_toArray, List.getElem_cons_succ, List.getElem_cons_zero, List.setIfInBounds_toArray, List.set_cons_zero, List.set_cons_succ]
  refine wpAnyH_ready (rs := [7]) (by kernel_rfl) (by simp) ?_
  refine AllReadyH.cons rfl (fun K hK => ?_) AllReadyH.nil
  try simp only [List.getElem_toArray, List.getElem_cons_succ, List.getElem_cons_zero]
  go_simp
  refine hK.out _ _ ?_ (fun hHeld => ?_)
  · (first | exact cell_of_row _ _ 0 _ _ (0, 0) (heap_alloc_at (by simp)) | go_keep)
  clear hK K
  try simp only [Act.put, List.getElem_toArray, List.getElem_cons_succ, List.getElem_cons_zero, List.setIfInBounds_toArray, List.set_cons_zero, List.set_cons_succ]
  refine wpAnyH_done (by kernel_rfl) ?_ _
  refine wp_at (fun W => CoordIn W B cb { c with phase := 3, wants := 0 } vo vp mo mu vs vr ∧ W.cell? ⟨w.heap.size, 0, none⟩ = some (.pointer (some ⟨cb, 0, none⟩)) ∧ Turn (· = cb) w W) ?_ ?_
  · have h1 := (H.out.plain (c' := { c with phase := 3 }) 6 (.int .i64 3) rfl rfl rfl rfl rfl rfl rfl rfl rfl).plain (c' := { c with phase := 3, wants := 0 }) 7 (.int .i64 0) rfl rfl rfl rfl rfl rfl rfl rfl rfl
    exact ⟨h1.keep (fun b h1 _ => Step.heap (((Step.refl _).alloc _).drew) h1), cell_of_row _ _ 0 _ _ (0, 0) (heap_alloc_at (by simp)), ((((Turn.refl (· = cb) w).setCell (p := ⟨cb, 6, none⟩) (fun _ => rfl) _).setCell (p := ⟨cb, 7, none⟩) (fun _ => rfl) _).alloc _).drew⟩
  clear p6 p7 f6 f7 hHeld
  rintro wl ⟨hC, hbx, hT⟩
  obtain ⟨sa, sc, rfl, _⟩ := Ty.slice_val hC.shards
  have p9 : wl.cell? ⟨cb, 9, none⟩ = some (.slice sa c.shards.length sc) := hC.cells.cell 9
  have hbl := lt_of_cell hbx
  have hz : ((c.shards.length : Int) == 0) = false := beq_eq_false_iff_ne.2 (by have := List.length_pos_iff.2 HNE.out; omega)
  have hsz := hT.size
  have HC := Lib.hid hC
  have HT := Lib.hid hT
  clear hC hT
  go_wp2_with (go_at_call 46; refine (send_ (c := { c with phase := 3, wants := 0 }) (f := finAsk c.commit) (caps := #[.pointer (some ⟨w.heap.size, 0, none⟩)]) HC.out (by omega) HI.out hent (fun i hi W nb l hCI hT => finish1_ (c := { c with phase := 3, wants := 0, out := some l }) hCI ((hT.cell (by omega) (by omega) 0).trans hbx))).mono ?_; rintro e w2 ⟨v2, rfl, hA2, hC2, hT2⟩; have HA2 := Lib.hid hA2; have HC2 := Lib.hid hC2; clear hA2 hC2)
  go_ret
  exact ⟨_, rfl, (Own.base HA2.out (by omega)).less (fun b _ hb => by omega), ⟨_, HC2.out⟩, HT.out.trans hT2⟩
set_option maxRecDepth 100000 in
set_option maxHeartbeats 4000000 in
theorem cLogged_decide {w : World} {B cb : Nat} {c : DCoord} {vo vp mo mu vs vr : Value} (h : CoordIn w B cb c vo vp mo mu vs vr) (hB : B ≤ w.heap.size) (hw : c.wants = 1) (hinc : c.shards.Pairwise (· < ·)) (hne : c.shards ≠ []) :
    Calls Tryz.prog 27 #[.pointer (some ⟨cb, 0, none⟩)] w fun e w' => ∃ v', e = .returned v' ∧ Own tSend 41 w' (· < w.heap.size) w.heap.size v' (sendsOf (some (asksOf c.txn c.shards (finAsk c.commit)))) ∧
      (∃ nb, CoordIn w' B cb { c with certain := true, phase := 3, wants := 0, out := some (asksOf c.txn c.shards (finAsk c.commit)) } vo vp mo (.map (some nb)) vs vr) ∧ Turn (· = cb) w w' := by
  have hcb := h.lt
  have p7 : w.cell? ⟨cb, 7, none⟩ = some (.int .i64 1) := by rw [← hw]; exact h.cells.cell 7
  have p12 : w.cell? ⟨cb, 12, none⟩ = some (.bool c.certain) := h.cells.cell 12
  have f12 : w.frozen? ⟨cb, 12, none⟩ = false := h.cells.frozen 12
  have H := Lib.hid h
  have HI := Lib.hid hinc
  have HNE := Lib.hid hne
  clear h hinc hne
  go_enter Tryz.func27, Tryz.ntmps27
  go_upto_region 4 with fail
  refine wp_code (fun W => CoordIn W B cb { c with certain := true } vo vp mo mu vs vr ∧ Turn (· = cb) w W) ?_ ?_
  · exact ⟨H.out.plain (c' := { c with certain := true }) 12 _ rfl rfl rfl rfl rfl rfl rfl rfl rfl, (Turn.refl (· = cb) w).setCell (p := ⟨cb, 12, none⟩) (fun _ => rfl) _⟩
  clear p7 p12 f12
  rintro wl ⟨hC, hT⟩
  have hsz := hT.size
  have HC := Lib.hid hC
  have HT := Lib.hid hT
  clear hC hT
  go_wp2_with (go_at_call 44; refine (finish_ HC.out (by omega) HI.out HNE.out).mono ?_; rintro e w2 ⟨v2, rfl, hA2, hC2, hT2⟩; have HA2 := Lib.hid hA2; have HC2 := Lib.hid hC2; clear hA2 hC2)
  go_ret
  exact ⟨_, rfl, (Own.base HA2.out (by omega)).less (fun b _ hb => by omega), HC2.out, HT.out.trans hT2⟩
set_option maxRecDepth 100000 in
set_option maxHeartbeats 4000000 in
theorem cLogged_end {w : World} {B cb : Nat} {c : DCoord} {vo vp mo mu vs vr : Value} (h : CoordIn w B cb c vo vp mo mu vs vr) (hw : c.wants = 3) :
    Calls Tryz.prog 27 #[.pointer (some ⟨cb, 0, none⟩)] w fun e w' => e = .returned (.slice none 0 0) ∧ CoordIn w' B cb { c with phase := 5, wants := 0 } vo vp mo mu vs vr ∧ Turn (· = cb) w w' := by
  have hcb := h.lt
  have p6 : w.cell? ⟨cb, 6, none⟩ = some (.int .i64 c.phase) := h.cells.cell 6
  have p7 : w.cell? ⟨cb, 7, none⟩ = some (.int .i64 3) := by rw [← hw]; exact h.cells.cell 7
  have f6 : w.frozen? ⟨cb, 6, none⟩ = false := h.cells.frozen 6
  have f7 : w.frozen? ⟨cb, 7, none⟩ = false := h.cells.frozen 7
  have H := Lib.hid h
  clear h
  go_enter Tryz.func27, Tryz.ntmps27
  go_wp2
  go_ret
  exact ⟨rfl, (H.out.plain (c' := { c with phase := 5 }) 6 (.int .i64 5) rfl rfl rfl rfl rfl rfl rfl rfl rfl).plain (c' := { c with phase := 5, wants := 0 }) 7 (.int .i64 0) rfl rfl rfl rfl rfl rfl rfl rfl rfl, ((Turn.refl (· = cb) w).setCell (p := ⟨cb, 6, none⟩) (fun _ => rfl) _).setCell (p := ⟨cb, 7, none⟩) (fun _ => rfl) _⟩
end Go.Proofs.YthflkfgiclcdiaaGreat
