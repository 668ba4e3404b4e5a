/-
  Walk: a drive's Twin.
-/
import Derived.Test.YthebdlkmoailaaaGreatDoorZP6
import Derived.WalkSpells
set_option linter.unusedVariables false
set_option linter.unusedSimpArgs false
namespace Go.Proofs.YthebdlkmoailaaaGreatDoor
open Go.RowKit Go.Gr Go.Maps
open Go.Proofs (encStr)
set_option linter.unusedSimpArgs false
set_option linter.unusedVariables false
set_option maxHeartbeats 400000 in
theorem CloneDeeds_ (w : World) (M M' : Nat → Prop) (v : Value) (xs : List DDeed) (h : (Ty.slice tDeed).rep w M [v] xs) (hM : ∀ b, b < w.heap.size → M' b → M b) :
    Calls Tryz.prog 95 #[v] w fun e w' => ∃ v', e = .returned v' ∧ Own tDeed 122 w' M' w.heap.size v' xs ∧ Step w w' := by
  obtain ⟨a, c, rfl, hc, hm, hl⟩ := Ty.slice_val h
  have H := Lib.hid h
  have HM := Lib.hid hM
  clear hM
  have hnil := Lib.run_eql_slice_nil (P := Tryz.prog) w 84 122 a xs.length c 0 0 Tryz.underlying84
  rcases a with _ | a
  · have h0 : xs = [] := Ty.slice_none h
    subst h0
    simp only [List.length_nil] at hnil ⊢
    clear hc hl
    clear h
    go_enter Tryz.func95, Tryz.ntmps95
    go_wp2
    go_ret
    exact ⟨_, rfl, Own.nil, Step.refl _⟩
  · clear h
    go_enter Tryz.func95, Tryz.ntmps95
    go_wp2_with (at_builtin; refine wpList_append_acc (xs := []) (ys := xs) rfl (.tmp 5) (.tmp 6) rfl stDeeds ((Step.refl w).alloc _) (M := M') (Own.lit rfl (by simp) (Nat.le_refl _) rfl (by simp)) (Src.later H.out stp (fun b hb h => HM.out b hb (h.resolve_right (old_ne hb)))) (by simpa using hl) rfl rfl ?_; intro v' w' ha hb hg hp)
    go_ret
    exact ⟨v', rfl, by simpa using ha, hb⟩
set_option maxRecDepth 100000 in
set_option maxHeartbeats 4000000 in
theorem dTwin_ {w : World} {M : Nat → Prop} {b : Nat} {sf sn : Option Nat} {D : DDr} (h : DriveAt w M b sf sn D) :
    Calls Tryz.prog 75 #[.pointer (some ⟨b, 0, none⟩)] w fun e w' => ∃ t M' sf' sn', e = .returned (.pointer (some ⟨t, 0, none⟩)) ∧ DriveAt w' M' t sf' sn' D ∧ Step w w' ∧ ∀ c, M' c → w.heap.size ≤ c := by
  obtain ⟨⟨queue, hr, hqu⟩, hs, hsn, hne, ho, hold, hwf⟩ := h
  obtain ⟨qa, qc, rfl, _, _, _⟩ := Ty.slice_val hqu
  have hblt := hr.lt
  have HSF : Hid (FilesAt w (fun c => M c ∨ w.heap.size ≤ c) (.map sf) D.safe) := Lib.hid (hs.keep2 (fun m hm => ⟨rfl, .inl (ho m (.inr (.inl hm)))⟩) (fun c hc hm => ⟨rfl, fun hx => hx.elim hm (fun hx => by omega)⟩))
  have HSN : Hid (FilesAt w (fun c => M c ∨ w.heap.size ≤ c) (.map sn) D.seen) := Lib.hid (hsn.keep2 (fun m hm => ⟨rfl, .inl (ho m (.inr (.inr hm)))⟩) (fun c hc hm => ⟨rfl, fun hx => hx.elim hm (fun hx => by omega)⟩))
  have HQU : Hid ((Ty.slice tDeed).rep w (fun c => M c ∨ w.heap.size ≤ c) [.slice qa D.queue.length qc] D.queue) := Lib.hid (Ty.keep _ hqu (fun c hc hm => ⟨rfl, fun hx => hx.elim hm (fun hx => by omega)⟩))
  have p0 : w.cell? ⟨b, 0, none⟩ = some (.map sf) := hr.cell 0
  have p1 : w.cell? ⟨b, 1, none⟩ = some (.map sn) := hr.cell 1
  have p2 : w.cell? ⟨b, 2, none⟩ = some (.slice qa D.queue.length qc) := hr.cell 2
  have p3 : w.cell? ⟨b, 3, none⟩ = some (.int .i64 D.room) := hr.cell 3
  have p4 : w.cell? ⟨b, 4, none⟩ = some (.bool D.armed) := hr.cell 4
  have p5 : w.cell? ⟨b, 5, none⟩ = some (.int .i64 D.left) := hr.cell 5
  have p6 : w.cell? ⟨b, 6, none⟩ = some (.bool D.dead) := hr.cell 6
  have HWF := Lib.hid hwf
  generalize hqn : D.queue.length = qn at *
  clear hqn hs hsn hqu ho hold hne hr hwf
  go_enter Tryz.func75, Tryz.ntmps75
  go_upto_region 2 with fail
  obtain ⟨t, ht⟩ : ∃ t, t = w.heap.size := ⟨_, rfl⟩
  rw [← ht]
  refine wp_code (fun wx => CellsAt wx t (drC (.map sf) (.map sn) (.slice qa qn qc) D.room D.armed D.left D.dead) 86 ∧ Step w wx) ⟨CellsAt.new ht, by (repeat (first | exact Step.refl _ | refine Step.alloc ?_ _ | refine Step.drew ?_ | refine Step.drewN ?_ _ | refine Step.setCell ?_ (by first | exact Nat.le_refl _ | assumption | omega | (simp; done) | (simp; omega)) _ | assumption | refine Step.trans ?_ (by assumption : Step _ _)))⟩ ?_
  rintro w1 ⟨hC1, hS1⟩
  have hwt : w.heap.size ≤ t := by omega
  have htw : t < w1.heap.size := hC1.lt
  have hbt : b ≠ t := by omega
  have hbl1 : b < w1.heap.size := by omega
  have q0 : w1.cell? ⟨b, 0, none⟩ = some (.map sf) := (hS1.cell hblt 0).trans p0
  have q1 : w1.cell? ⟨b, 1, none⟩ = some (.map sn) := (hS1.cell hblt 1).trans p1
  have q2 : w1.cell? ⟨b, 2, none⟩ = some (.slice qa qn qc) := (hS1.cell hblt 2).trans p2
  have HC1 := Lib.hid hC1
  have HS1 := Lib.hid hS1
  clear p0 p1 p2 p3 p4 p5 p6 hC1 hS1 ht hblt
  refine wp_region_cut (S := (fun w' => w'.cell? ⟨b, 0, none⟩ = some (.map sf) ∧ w'.cell? ⟨b, 1, none⟩ = some (.map sn) ∧ w'.cell? ⟨b, 2, none⟩ = some (.slice qa qn qc))) 16 (by kernel_rfl) ?_ (fun hHeld => ?_)
  · (go_keep)
  refine tkC 0 [1, 2, 3, 4, 9, 14, 15, 16, 17, 18, 19, 20] ?_
  try simp only [Act.put, gtA, gtB, gtC, gtD, gtE, gtF]
  refine tkC 1 [2, 3, 4, 9, 14, 15, 16, 17, 18, 19, 20] ?_
  try simp only [Act.put, gtA, gtB, gtC, gtD, gtE, gtF]
  refine tkC 2 [3, 4, 9, 14, 15, 16, 17, 18, 19, 20] ?_
  try simp only [Act.put, gtA, gtB, gtC, gtD, gtE, gtF]
  refine tkC 3 [4, 9, 14, 15, 16, 17, 18, 19, 20] ?_
  try simp only [Act.put, gtA, gtB, gtC, gtD, gtE, gtF]
  refine tkC 5 [6, 7, 8, 9, 14, 15, 16, 17, 18, 19, 20] ?_
  try simp only [Act.put, gtA, gtB, gtC, gtD, gtE, gtF]
  refine tkC 6 [7, 8, 9, 14, 15, 16, 17, 18, 19, 20] ?_
  try simp only [Act.put, gtA, gtB, gtC, gtD, gtE, gtF]
  refine tkC 7 [8, 9, 14, 15, 16, 17, 18, 19, 20] ?_
  try simp only [Act.put, gtA, gtB, gtC, gtD, gtE, gtF]
  refine tkC 8 [9, 14, 15, 16, 17, 18, 19, 20] ?_
  try simp only [Act.put, gtA, gtB, gtC, gtD, gtE, gtF]
  refine tkC 10 [11, 12, 13, 14, 15, 16, 17, 18, 19, 20] ?_
  try simp only [Act.put, gtA, gtB, gtC, gtD, gtE, gtF]
  refine tkC 11 [12, 13, 14, 15, 16, 17, 18, 19, 20] ?_
  try simp only [Act.put, gtA, gtB, gtC, gtD, gtE, gtF]
  refine tkC 12 [13, 14, 15, 16, 17, 18, 19, 20] ?_
  try simp only [Act.put, gtA, gtB, gtC, gtD, gtE, gtF]
  refine tkC 13 [14, 15, 16, 17, 18, 19, 20] ?_
  try simp only [Act.put, gtA, gtB, gtC, gtD, gtE, gtF]
  refine rdC (rs := [4]) (.cons rfl (by decide) (fun K hK => ?_) .nil)
  try simp only [gtA, gtB, gtC]
  go_simp
  (go_at_call 65; refine (mClone_ (FilesAt.step HSF.out (HS1.out.trans stp))).mono ?_; rintro e w2 ⟨v2, rfl, hF2, hS2, hv2, hw2, _⟩; have s2 : ∀ j, w2.cell? ⟨b, j, none⟩ = _ := fun j => hS2.cell (by first | assumption | omega | (simp; done) | (simp; omega)) j; have HF2 := Lib.hid hF2; have HS2 : Hid (Step w1 w2) := Lib.hid (Step.trans stp hS2); have HV2 : Hid (∀ m, v2 = some m → w1.heap.size ≤ m ∧ m < w2.heap.size) := Lib.hid (fun m hm => ⟨by have := hv2 m hm; (try simp at this); omega, hw2 m hm⟩); have hz2 := HS2.out.size; clear hF2 hS2 hv2 hw2)
  refine hK.out _ _ ?_ (fun hHeld => ?_)
  · (go_keep)
  clear hK K
  try simp only [Act.put, gtA, gtB, gtC, gtD, gtE, gtF]
  refine rdC (rs := [9]) (.cons rfl (by decide) (fun K hK => ?_) .nil)
  try simp only [gtA, gtB, gtC]
  go_simp
  (go_at_call 65; refine (mClone_ (FilesAt.step HSN.out (HS1.out.trans (HS2.out.trans stp)))).mono ?_; rintro e w3 ⟨v3, rfl, hF3, hS3, hv3, hw3, _⟩; have s3 : ∀ j, w3.cell? ⟨b, j, none⟩ = _ := fun j => hS3.cell (by first | assumption | omega | (simp; done) | (simp; omega)) j; have HF3 := Lib.hid hF3; have HS3 : Hid (Step w2 w3) := Lib.hid (Step.trans stp hS3); have HV3 : Hid (∀ m, v3 = some m → w2.heap.size ≤ m ∧ m < w3.heap.size) := Lib.hid (fun m hm => ⟨by have := hv3 m hm; (try simp at this); omega, hw3 m hm⟩); have hz3 := HS3.out.size; clear hF3 hS3 hv3 hw3)
  refine hK.out _ _ ?_ (fun hHeld => ?_)
  · (go_keep)
  clear hK K
  try simp only [Act.put, gtA, gtB, gtC, gtD, gtE, gtF]
  refine rdC (rs := [14]) (.cons rfl (by decide) (fun K hK => ?_) .nil)
  try simp only [gtA, gtB, gtC]
  go_simp
  (go_at_call 95; refine (CloneDeeds_ _ _ (fun c => w.heap.size ≤ c) _ _ (Ty.step _ HQU.out (HS1.out.trans (HS2.out.trans (HS3.out.trans stp)))) (fun c _ hc => .inr hc)).mono ?_; rintro e w4 ⟨v4, rfl, hA4, hS4⟩; obtain ⟨a4, n4, c4, rfl, HN4⟩ := hA4.valN; have s4 : ∀ j, w4.cell? ⟨b, j, none⟩ = _ := fun j => hS4.cell (by first | assumption | omega | (simp; done) | (simp; omega)) j; have HA4 := Lib.hid hA4; have HS4 : Hid (Step w3 w4) := Lib.hid (Step.trans stp hS4); have t4 : ∀ j, w4.cell? ⟨t, j, none⟩ = _ := fun j => CellsAt.cell (HC1.out.step (HS2.out.trans (HS3.out.trans HS4.out))) j; have f4 : ∀ j, w4.frozen? ⟨t, j, none⟩ = false := fun j => CellsAt.frozen (HC1.out.step (HS2.out.trans (HS3.out.trans HS4.out))) j; clear hA4 hS4)
  refine hK.out _ _ ?_ (fun hHeld => ?_)
  · (go_keep)
  clear hK K
  try simp only [Act.put, gtA, gtB, gtC, gtD, gtE, gtF]
  refine tkC 15 [16, 17, 18, 19, 20] ?_
  try simp only [Act.put, gtA, gtB, gtC, gtD, gtE, gtF]
  refine rdC (rs := [16]) (.cut rfl (fun K hK => ?_))
  try simp only [gtA, gtB, gtC]
  go_simp
  refine hK.out _ _ trivial (fun hHeld => ?_)
  clear hK K
  try simp only [Act.put, gtA, gtB, gtC, gtD, gtE, gtF]
  have hTrue : True := trivial
  refine tkH 17 ?_
  try simp only [Act.put, gtA, gtB, gtC, gtD, gtE, gtF]
  refine rdH (rs := [18]) (.cons rfl (fun K hK => ?_) .nil)
  try simp only [gtA, gtB, gtC]
  go_simp
  refine hK.out _ _ trivial (fun hHeld => ?_)
  clear hK K
  try simp only [Act.put, gtA, gtB, gtC, gtD, gtE, gtF]
  refine tkH 19 ?_
  try simp only [Act.put, gtA, gtB, gtC, gtD, gtE, gtF]
  refine rdH (rs := [20]) (.cons rfl (fun K hK => ?_) .nil)
  try simp only [gtA, gtB, gtC]
  go_simp
  refine hK.out _ _ trivial (fun hHeld => ?_)
  clear hK K
  try simp only [Act.put, gtA, gtB, gtC, gtD, gtE, gtF]
  refine wpAnyH_done (by kernel_rfl) ?_ _
  go_wp2
  go_ret
  have hz4 := HS4.out.size
  have hz1 : w.heap.size ≤ w1.heap.size := HS1.out.size
  have HS14 : Step w1 w4 := HS2.out.trans (HS3.out.trans HS4.out)
  have hM : ∀ c, DM t v2 v3 c → w.heap.size ≤ c ∧ c < w3.heap.size := fun c hc => by
    rcases hc with rfl | hc | hc
    · omega
    · have := HV2.out c hc; omega
    · have := HV3.out c hc; omega
  have hw : ∀ c, c ≠ t → (((w4.setCell ⟨t, 0, none⟩ (.map v2)).setCell ⟨t, 1, none⟩ (.map v3)).setCell ⟨t, 2, none⟩ (.slice a4 n4 c4)).heap[c]? = w4.heap[c]? := fun c hc => by
    rw [heap_setCell_other _ _ _ _ (by simpa using hc), heap_setCell_other _ _ _ _ (by simpa using hc), heap_setCell_other _ _ _ _ (by simpa using hc)]
  have hsz : (((w4.setCell ⟨t, 0, none⟩ (.map v2)).setCell ⟨t, 1, none⟩ (.map v3)).setCell ⟨t, 2, none⟩ (.slice a4 n4 c4)).heap.size = w4.heap.size := by simp
  refine ⟨t, fun c => DM t v2 v3 c, v2, v3, rfl, ⟨⟨.slice a4 n4 c4, ?_, ?_⟩, ?_, ?_, fun m h1 h2 => ?_, fun c hc => hc, fun c hc => ?_, HWF.out⟩, ?_, fun c hc => (hM c hc).1⟩
  · exact CellsAt.set (CellsAt.set (CellsAt.set (HC1.out.step HS14) 0 _) 1 _) 2 _
  · refine Ty.keep _ (Own.rep' (Own.less HA4.out (M' := fun c => DM t v2 v3 c) (fun c _ hc => (hM c hc).1)) (fun c hc hm => ?_)) (fun c hc hm => ⟨hw c (fun e => hm (.inl e)), hm⟩)
    have h1 := (HA4.out.lt hc).1
    have h2 := (hM c hm).2
    omega
  · refine (FilesAt.step HF2.out (HS3.out.trans HS4.out)).keep2 (fun m hm => ⟨hw m ?_, .inr (.inl hm)⟩) (fun c hc hm => ⟨hw c (fun e => hm (.inl (.inr (by omega)))), fun hx => hm (.inl (.inr (hM c hx).1))⟩)
    have := HV2.out m hm
    omega
  · refine (FilesAt.step HF3.out HS4.out).keep2 (fun m hm => ⟨hw m ?_, .inr (.inr hm)⟩) (fun c hc hm => ⟨hw c (fun e => hm (.inl (.inr (by omega)))), fun hx => hm (.inl (.inr (hM c hx).1))⟩)
    have := HV3.out m hm
    omega
  · have h3 := HV2.out m h1
    have h4 := HV3.out m h2
    omega
  · have := (hM c hc).2
    omega
  · exact Step.setCell (Step.setCell (Step.setCell (HS1.out.trans HS14) hwt _) hwt _) hwt _
end Go.Proofs.YthebdlkmoailaaaGreatDoor
