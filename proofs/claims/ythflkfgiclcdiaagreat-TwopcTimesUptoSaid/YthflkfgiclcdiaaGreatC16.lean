/-
  Walks: Tick.
-/
import Derived.Test.YthflkfgiclcdiaaGreatC15
namespace Go.Proofs.YthflkfgiclcdiaaGreat
open Go.Gr Go.RowKit
set_option linter.unusedSimpArgs false
set_option maxRecDepth 100000 in
set_option maxHeartbeats 4000000 in
theorem cTick_quiet {w : World} {B cb nb : Nat} {c : DCoord} {l : List (Int × DAsk)} {vo vp mo vs vr : Value} (h : CoordIn w B cb { c with out := some l } vo vp mo (.map (some nb)) vs vr)
    (hph : c.phase = 0) (hw : c.wants = 0) (hl : 0 < l.length) (ha : 0 ≤ c.age ∧ c.age ≤ 1000) (hp : c.age + 1 < c.patience) :
    Calls Tryz.prog 25 #[.pointer (some ⟨cb, 0, none⟩)] w fun e w' => e = .returned (.tuple #[]) ∧ CoordIn w' B cb { c with out := some l, age := c.age + 1 } vo vp mo (.map (some nb)) vs vr ∧ Turn (fun b => b = cb) w w' := by
  have hcb := h.lt
  have p13 : w.cell? ⟨cb, 13, none⟩ = some (.int .i64 c.age) := h.cells.cell 13
  have f13 : w.frozen? ⟨cb, 13, none⟩ = false := h.cells.frozen 13
  have H := Lib.hid h
  clear h
  go_enter Tryz.func25, Tryz.ntmps25
  go_upto_region 1 with fail
  refine wp_code (fun W => CoordIn W B cb { c with out := some l, age := c.age + 1 } vo vp mo (.map (some nb)) vs vr ∧ Turn (fun b => b = cb) w W) ?_ ?_
  · exact ⟨H.out.plain 13 _ rfl rfl rfl rfl rfl rfl rfl rfl rfl, (Turn.refl (· = cb) w).setCell (p := ⟨cb, 13, none⟩) (fun _ => rfl) _⟩
  clear p13 f13
  rintro wl ⟨hC, hT⟩
  have p13 : wl.cell? ⟨cb, 13, none⟩ = some (.int .i64 (c.age + 1)) := hC.cells.cell 13
  have p14 : wl.cell? ⟨cb, 14, none⟩ = some (.int .i64 c.patience) := hC.cells.cell 14
  have p6 : wl.cell? ⟨cb, 6, none⟩ = some (.int .i64 0) := by rw [← hph]; exact hC.cells.cell 6
  have p7 : wl.cell? ⟨cb, 7, none⟩ = some (.int .i64 0) := by rw [← hw]; exact hC.cells.cell 7
  have p8 : wl.cell? ⟨cb, 8, none⟩ = some (.map (some nb)) := hC.cells.cell 8
  obtain ⟨b', hb', hm, _⟩ := hC.out
  obtain rfl : nb = b' := by simpa using hb'
  have hln : ∀ ty n, (Builtin.len_ #[123] ty #[.map (some nb)]).run Tryz.prog (wl.drewN n) = .ok (.int .i64 (l.length : Int)) (wl.drewN n) := fun ty n => (hm.step ((Step.refl wl).drewN n)).len Tryz.underlying123 ty
  have hge : ¬ (c.age + 1 ≥ c.patience) := by omega
  have HC := Lib.hid hC
  have HT := Lib.hid hT
  clear hC hT hm hb'
  go_wp2
  go_quiet (fail)
  go_wp2
  refine bodyPost_end (results_none rfl _ _ _) rfl ?_
  exact ⟨rfl, HC.out.keep (fun b h1 _ => rfl), HT.out.then ((Step.refl _).drewN _)⟩
set_option maxRecDepth 100000 in
set_option maxHeartbeats 4000000 in
theorem cTick_fail {w : World} {B cb nb : Nat} {c : DCoord} {l : List (Int × DAsk)} {vo vp mo vs vr : Value} (h : CoordIn w B cb { c with out := some l } vo vp mo (.map (some nb)) vs vr)
    (hph : c.phase = 0) (hw : c.wants = 0) (hl : 0 < l.length) (ha : 0 ≤ c.age ∧ c.age ≤ 1000) (hp : c.patience ≤ c.age + 1) (hB : B ≤ w.heap.size) :
    Calls Tryz.prog 25 #[.pointer (some ⟨cb, 0, none⟩)] w fun e w' => e = .returned (.tuple #[]) ∧ ∃ vr', CoordIn w' B cb { c with age := c.age + 1, commit := false, reply := replyB 15 0 [], wants := 1, out := none } vo vp mo (.map none) vs vr' ∧ Turn (fun b => b = cb) w w' := by
  have hcb := h.lt
  have p13 : w.cell? ⟨cb, 13, none⟩ = some (.int .i64 c.age) := h.cells.cell 13
  have f13 : w.frozen? ⟨cb, 13, none⟩ = false := h.cells.frozen 13
  have H := Lib.hid h
  clear h
  go_enter Tryz.func25, Tryz.ntmps25
  go_upto_region 1 with fail
  refine wp_code (fun W => CoordIn W B cb { c with out := some l, age := c.age + 1 } vo vp mo (.map (some nb)) vs vr ∧ Turn (fun b => b = cb) w W) ?_ ?_
  · exact ⟨H.out.plain 13 _ rfl rfl rfl rfl rfl rfl rfl rfl rfl, (Turn.refl (· = cb) w).setCell (p := ⟨cb, 13, none⟩) (fun _ => rfl) _⟩
  clear p13 f13
  rintro wl ⟨hC, hT⟩
  have p13 : wl.cell? ⟨cb, 13, none⟩ = some (.int .i64 (c.age + 1)) := hC.cells.cell 13
  have p14 : wl.cell? ⟨cb, 14, none⟩ = some (.int .i64 c.patience) := hC.cells.cell 14
  have p6 : wl.cell? ⟨cb, 6, none⟩ = some (.int .i64 0) := by rw [← hph]; exact hC.cells.cell 6
  have p7 : wl.cell? ⟨cb, 7, none⟩ = some (.int .i64 0) := by rw [← hw]; exact hC.cells.cell 7
  have p8 : wl.cell? ⟨cb, 8, none⟩ = some (.map (some nb)) := hC.cells.cell 8
  obtain ⟨b', hb', hm, _⟩ := hC.out
  obtain rfl : nb = b' := by simpa using hb'
  have hln : ∀ ty n, (Builtin.len_ #[123] ty #[.map (some nb)]).run Tryz.prog (wl.drewN n) = .ok (.int .i64 (l.length : Int)) (wl.drewN n) := fun ty n => (hm.step ((Step.refl wl).drewN n)).len Tryz.underlying123 ty
  have hge : c.age + 1 ≥ c.patience := by omega
  have HRL := Lib.hid (replyB_nils (err := 15) (at_ := 0) (n := 0) (by omega))
  have hzl := hT.size
  have HC := Lib.hid hC
  have HT := Lib.hid hT
  clear hC hT hm hb'
  go_wp2
  go_quiet (fail)
  go_wp2_with (go_at_call 45; refine (fail_ (HC.out.keep (fun b h1 _ => Step.heap ((Step.refl wl).drewN nq) h1)) (Nat.le_trans hB hzl) HRL.out).mono ?_; rintro e w1 ⟨rfl, vr1, hC1, hT1⟩; have HC1 := Lib.hid hC1; clear hC1)
  refine bodyPost_end (results_none rfl _ _ _) rfl ?_
  exact ⟨rfl, _, HC1.out, (HT.out.then ((Step.refl _).drewN _)).trans hT1⟩
end Go.Proofs.YthflkfgiclcdiaaGreat
