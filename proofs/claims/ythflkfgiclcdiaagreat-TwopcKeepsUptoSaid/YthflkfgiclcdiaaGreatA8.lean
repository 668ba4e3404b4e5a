/-
  Walks: Coord.Open where one shard is asked to do it alone; end; singled; Answer at Single.
-/
import Derived.Test.YthflkfgiclcdiaaGreatA6
import Derived.Test.YthflkfgiclcdiaaGreatC15
namespace Go.Proofs.YthflkfgiclcdiaaGreat
open Go.Gr Go.RowKit
set_option linter.unusedSimpArgs false
/-- What one shard alone is asked. -/
def singleAsk (r : List UInt8) : DAsk := ⟨4, 0, 0, 0, ⟨0, 0, 0⟩, [], false, r, 0, []⟩
set_option maxRecDepth 100000 in
set_option maxHeartbeats 1000000 in
theorem cOpen1_ {W : World} {B cb bx : Nat} {i : Int} {c : DCoord} {vo vp mo mu vs vr : Value} (h : CoordIn W B cb c vo vp mo mu vs vr) (hb : W.cell? ⟨bx, 0, none⟩ = some (.pointer (some ⟨cb, 0, none⟩))) :
    Calls Tryz.prog 61 #[.int .i64 i, .pointer (some ⟨bx, 0, none⟩)] W fun e w' => ∃ cs, e = .returned (.agg cs) ∧ tAsk.rep w' (coM B cb mo mu) cs.toList (singleAsk c.reply) ∧ Step W w' := by
  obtain ⟨a1, c1, rfl, _⟩ := Ty.slice_val h.reply
  have p11 : W.cell? ⟨cb, 11, none⟩ = some (.slice a1 c.reply.length c1) := h.cells.cell 11
  have hcb := h.lt
  have hbx := lt_of_cell hb
  have H := Lib.hid h.reply
  clear h
  go_enter Tryz.func61, Tryz.ntmps61
  go_wp2
  refine bodyPost_ret (v := .agg #[.int .i64 4, .int .u64 0, .int .u64 0, .int .u64 0, .int .u64 0, .int .u64 0, .int .u64 0, .slice none 0 0, .bool false, .slice a1 c.reply.length c1, .int .u64 0, .string ⟨#[]⟩]) (by simp [results, Tryz.results61, go_sem]) rfl ⟨_, rfl, ?_, by (repeat (first | exact Step.refl _ | refine Step.alloc ?_ _ | refine Step.drew ?_ | refine Step.drewN ?_ _ | refine Step.setCell ?_ (by first | exact Nat.le_refl _ | assumption | omega | (simp; done) | (simp; omega)) _ | assumption | refine Step.trans ?_ (by assumption : Step _ _)))⟩
  exact ⟨_, _, rfl, by simp [singleAsk, I64], by simp [singleAsk], by simp [singleAsk], by simp [singleAsk], by simp [singleAsk], by simp [singleAsk], by simp [singleAsk], nil_of, Ty.step _ H.out (by (repeat (first | exact Step.refl _ | refine Step.alloc ?_ _ | refine Step.drew ?_ | refine Step.drewN ?_ _ | refine Step.setCell ?_ (by first | exact Nat.le_refl _ | assumption | omega | (simp; done) | (simp; omega)) _ | assumption | refine Step.trans ?_ (by assumption : Step _ _)))), by simp [singleAsk], by simp [singleAsk]⟩
set_option maxRecDepth 100000 in
set_option maxHeartbeats 4000000 in
theorem cOpen_ {w : World} {B cb : Nat} {c : DCoord} {vo vp mo mu vs vr : Value} (h : CoordIn w B cb c vo vp mo mu vs vr) (hB : B ≤ w.heap.size) (hinc : c.shards.Pairwise (· < ·)) (hw : c.wants = 2) (hph : c.phase = 2) :
    Calls Tryz.prog 17 #[.pointer (some ⟨cb, 0, none⟩)] w fun e w' => ∃ v' mu', e = .returned v' ∧
      CoordIn w' B cb { c with wants := 0, age := 0, out := some (asksOf c.txn c.shards (fun _ => singleAsk c.reply)) } vo vp mo mu' vs vr ∧ Turn (· = cb) w w' := by
  have hcb := h.lt
  have p6 : w.cell? ⟨cb, 6, none⟩ = some (.int .i64 2) := by rw [← hph]; exact h.cells.cell 6
  have p7 : w.cell? ⟨cb, 7, none⟩ = some (.int .i64 2) := by rw [← hw]; exact h.cells.cell 7
  have p13 : w.cell? ⟨cb, 13, none⟩ = some (.int .i64 c.age) := h.cells.cell 13
  have f7 : w.frozen? ⟨cb, 7, none⟩ = false := h.cells.frozen _
  have f13 : w.frozen? ⟨cb, 13, none⟩ = false := h.cells.frozen _
  have H := Lib.hid h
  have HI := Lib.hid hinc
  clear h hinc hw hph
  have hent := enters_of Tryz.func61 (by kernel_rfl) rfl
  go_enter Tryz.func17, Tryz.ntmps17
  go_upto_region 4 with fail
  refine wp_region_held_drew (S := (fun w' => w'.cell? ⟨w.heap.size, 0, none⟩ = some (.pointer (some ⟨cb, 0, none⟩)))) (by kernel_rfl) ?_ (fun hHeld => ?_)
  · (first | exact cell_of_row _ _ 0 _ _ (0, 0) (heap_alloc_at (by simp)) | go_keep)
  refine wpAnyH_take (i := 0) (v := ?_) rfl (by kernel_rfl) (by kernel_rfl) (by kernel_rfl) (fun _ _ _ h => h) (Or.inl ⟨by rfl, ?_⟩) (by assumption) ?_
  rotate_left 1
  · (intro w hSw; (try dsimp only at hSw); go_simp; (try with_reducible rfl))
  try simp only [Act.put, List.getElem_toArray, List.getElem_cons_succ, List.getElem_cons_zero, List.setIfInBounds_toArray, List.set_cons_zero, List.set_cons_succ]
  refine wpAnyH_take (i := 1) (v := ?_) rfl (by kernel_rfl) (by kernel_rfl) (by kernel_rfl) (fun _ _ _ h => h) (Or.inl ⟨by rfl, ?_⟩) (by assumption) ?_
  rotate_left 1
  · (intro w hSw; (try dsimp only at hSw); go_simp; (try with_reducible rfl))
  try simp only [Act.put, List.getElem_toArray, List.getElem_cons_succ, List.getElem_cons_zero, List.setIfInBounds_toArray, List.set_cons_zero, List.set_cons_succ]
  refine wpAnyH_take (i := 2) (v := ?_) rfl (by kernel_rfl) (by kernel_rfl) (by kernel_rfl) (fun _ _ _ h => h) (Or.inl ⟨by rfl, ?_⟩) (by assumption) ?_
  rotate_left 1
  · (intro w hSw; (try dsimp only at hSw); go_simp; (try with_reducible rfl))
  try simp only [Act.put, List.getElem_toArray, List.getElem_cons_succ, List.getElem_cons_zero, List.setIfInBounds_toArray, List.set_cons_zero, List.set_cons_succ]
  refine wpAnyH_take (i := 3) (v := ?_) rfl (by kernel_rfl) (by kernel_rfl) (by kernel_rfl) (fun _ _ _ h => h) (Or.inl ⟨by rfl, ?_⟩) (by assumption) ?_
  rotate_left 1
  · (intro w hSw; (try dsimp only at hSw); go_simp; (try with_reducible rfl))
  try simp only [Act.put, List.getElem_toArray, List.getElem_cons_succ, List.getElem_cons_zero, List.setIfInBounds_toArray, List.set_cons_zero, List.set_cons_succ]
  refine wpAnyH_ready (rs := [4]) (by kernel_rfl) (by simp) ?_
  refine AllReadyH.cons rfl (fun K hK => ?_) AllReadyH.nil
  try simp only [List.getElem_toArray, List.getElem_cons_succ, List.getElem_cons_zero]
  go_simp
  refine hK.out _ _ ?_ (fun hHeld => ?_)
  · (first | exact cell_of_row _ _ 0 _ _ (0, 0) (heap_alloc_at (by simp)) | go_keep)
  clear hK K
  try simp only [Act.put, List.getElem_toArray, List.getElem_cons_succ, List.getElem_cons_zero, List.setIfInBounds_toArray, List.set_cons_zero, List.set_cons_succ]
  refine wpAnyH_take (i := 5) (v := ?_) rfl (by kernel_rfl) (by kernel_rfl) (by kernel_rfl) (fun _ _ _ h => h) (Or.inl ⟨by rfl, ?_⟩) (by assumption) ?_
  rotate_left 1
  · (intro w hSw; (try dsimp only at hSw); go_simp; (try with_reducible rfl))
  try simp only [Act.put, List.getElem_toArray, List.getElem_cons_succ, List.getElem_cons_zero, List.setIfInBounds_toArray, List.set_cons_zero, List.set_cons_succ]
  refine wpAnyH_take (i := 6) (v := ?_) rfl (by kernel_rfl) (by kernel_rfl) (by kernel_rfl) (fun _ _ _ h => h) (Or.inl ⟨by rfl, ?_⟩) (by assumption) ?_
  rotate_left 1
  · (intro w hSw; (try dsimp only at hSw); go_simp; (try with_reducible rfl))
  try simp only [Act.put, List.getElem_toArray, List.getElem_cons_succ, List.getElem_cons_zero, List.setIfInBounds_toArray, List.set_cons_zero, List.set_cons_succ]
  refine wpAnyH_ready (rs := [7]) (by kernel_rfl) (by simp) ?_
  refine AllReadyH.cons rfl (fun K hK => ?_) AllReadyH.nil
  try simp only [List.getElem_toArray, List.getElem_cons_succ, List.getElem_cons_zero]
  go_simp
  refine hK.out _ _ ?_ (fun hHeld => ?_)
  · (first | exact cell_of_row _ _ 0 _ _ (0, 0) (heap_alloc_at (by simp)) | go_keep)
  clear hK K
  try simp only [Act.put, List.getElem_toArray, List.getElem_cons_succ, List.getElem_cons_zero, List.setIfInBounds_toArray, List.set_cons_zero, List.set_cons_succ]
  refine wpAnyH_done (by kernel_rfl) ?_ _
  refine wp_at (fun W => CoordIn W B cb { c with wants := 0, age := 0 } vo vp mo mu vs vr ∧ Turn (· = cb) w W ∧ W.cell? ⟨w.heap.size, 0, none⟩ = some (.pointer (some ⟨cb, 0, none⟩)) ∧ w.heap.size < W.heap.size) ?_ ?_
  · have h1 := H.out.plain (c' := { c with wants := 0 }) 7 (.int .i64 0) rfl rfl rfl rfl rfl rfl rfl rfl rfl
    have h2 := h1.plain (c' := { c with wants := 0, age := 0 }) 13 (.int .i64 0) rfl rfl rfl rfl rfl rfl rfl rfl rfl
    refine ⟨h2.keep fun b h3 _ => Step.heap (by (repeat (first | exact Step.refl _ | refine Step.alloc ?_ _ | refine Step.drew ?_ | refine Step.drewN ?_ _ | refine Step.setCell ?_ (by first | exact Nat.le_refl _ | assumption | omega | (simp; done) | (simp; omega)) _ | assumption | refine Step.trans ?_ (by assumption : Step _ _)))) h3, ((((Turn.refl (· = cb) w).setCell (p := ⟨cb, 7, none⟩) (fun _ => rfl) _).setCell (p := ⟨cb, 13, none⟩) (fun _ => rfl) _).alloc _).drew, cell_of_row _ _ 0 _ _ (0, 0) (heap_alloc_at (by simp)), by simp⟩
  rintro W ⟨hC, hT, hb, hW⟩
  have HC := Lib.hid hC
  have HT := Lib.hid hT
  clear hC hT p6 p7 p13 f7 f13
  go_wp2_with (go_at_call 46; refine (send_ (c := { c with wants := 0, age := 0 }) (f := fun _ => singleAsk c.reply) (caps := #[.pointer (some ⟨w.heap.size, 0, none⟩)]) HC.out (by omega) HI.out hent (fun i hi W2 nb l hCI hT2 => cOpen1_ (c := { c with wants := 0, age := 0, out := some l }) hCI ((hT2.cell hW (by omega) 0).trans hb))).mono ?_; rintro e w2 ⟨v2, rfl, _, hC2, hT2⟩; have HC2 := Lib.hid hC2; clear hC2)
  go_ret
  exact ⟨_, _, rfl, HC2.out, HT.out.trans hT2⟩
/-- It is over, with a reply. -/
theorem CoordIn.ended {w : World} {B cb : Nat} {c : DCoord} {vo vp mo mu vs vr vr' : Value} {r : List UInt8} (h : CoordIn w B cb c vo vp mo mu vs vr) (hr : Ty.bytes.rep w (coM B cb mo (.map none)) [vr'] r) :
    CoordIn (((((w.setCell ⟨cb, 11, none⟩ vr').setCell ⟨cb, 12, none⟩ (.bool true)).setCell ⟨cb, 6, none⟩ (.int .i64 5)).setCell ⟨cb, 7, none⟩ (.int .i64 0)).setCell ⟨cb, 8, none⟩ (.map none)) B cb { c with reply := r, certain := true, phase := 5, wants := 0, out := none } vo vp mo (.map none) vs vr' := by
  have hH : ∀ {b}, b ≠ cb → (((((w.setCell ⟨cb, 11, none⟩ vr').setCell ⟨cb, 12, none⟩ (.bool true)).setCell ⟨cb, 6, none⟩ (.int .i64 5)).setCell ⟨cb, 7, none⟩ (.int .i64 0)).setCell ⟨cb, 8, none⟩ (.map none)).heap[b]? = w.heap[b]? := fun hb => by
    rw [heap_setCell_other _ _ _ _ hb, heap_setCell_other _ _ _ _ hb, heap_setCell_other _ _ _ _ hb, heap_setCell_other _ _ _ _ hb, heap_setCell_other _ _ _ _ hb]
  have hM : ∀ b, ¬ coM B cb mo mu b → ¬ coM B cb mo (.map none) b := fun b h1 h2 => h1 (by
    rcases h2 with h2 | h2 | h2 | h2
    · exact .inl h2
    · exact .inr (.inl h2)
    · exact .inr (.inr (.inl h2))
    · simp [mapBlock] at h2)
  have key : ∀ b, b < w.heap.size → ¬ coM B cb mo mu b → (((((w.setCell ⟨cb, 11, none⟩ vr').setCell ⟨cb, 12, none⟩ (.bool true)).setCell ⟨cb, 6, none⟩ (.int .i64 5)).setCell ⟨cb, 7, none⟩ (.int .i64 0)).setCell ⟨cb, 8, none⟩ (.map none)).heap[b]? = w.heap[b]? ∧ ¬ coM B cb mo (.map none) b := fun b _ h2 => ⟨hH fun e => h2 (.inr (.inl e)), hM b h2⟩
  refine ⟨((((h.cells.set 11 _).set 12 _).set 6 _).set 7 _).set 8 _, h.base, h.txn, Ty.keep _ h.ops key, Ty.keep _ h.parts key, Ty.keep _ h.shards key, Ty.keep _ hr (fun b _ h2 => ⟨hH fun e => h2 (.inr (.inl e)), h2⟩), ?_, rfl, h.omo, ?_, ?_, h.few, h.patience⟩
  · exact h.outs.keep (fun b hb => ⟨hH (h.mo_ne hb), .inr (.inr (.inl hb))⟩) key
  · intro b hb
    simp [mapBlock] at hb
  · intro b _ hb
    simp [mapBlock] at hb
set_option maxRecDepth 100000 in
set_option maxHeartbeats 2000000 in
theorem cEnd_ {w : World} {M : Nat → Prop} {B cb : Nat} {c : DCoord} {vo vp mo mu vs vr v : Value} {r : List UInt8} (h : CoordIn w B cb c vo vp mo mu vs vr) (hB : B ≤ w.heap.size) (hr : Ty.bytes.rep w M [v] r) :
    Calls Tryz.prog 98 #[.pointer (some ⟨cb, 0, none⟩), v] w fun e w' => e = .returned (.tuple #[]) ∧
      (∃ vr', CoordIn w' B cb { c with reply := r, certain := true, phase := 5, wants := 0, out := none } vo vp mo (.map none) vs vr' ∧ BR 5 w' vr' r ∧ ∀ g, vr'.ownBlock = some g → w.heap.size ≤ g) ∧ Turn (· = cb) w w' := by
  have hcb := h.lt
  have p6 : w.cell? ⟨cb, 6, none⟩ = some (.int .i64 c.phase) := h.cells.cell 6
  have p7 : w.cell? ⟨cb, 7, none⟩ = some (.int .i64 c.wants) := h.cells.cell 7
  have p8 : w.cell? ⟨cb, 8, none⟩ = some mu := h.cells.cell 8
  have p11 : w.cell? ⟨cb, 11, none⟩ = some vr := h.cells.cell 11
  have p12 : w.cell? ⟨cb, 12, none⟩ = some (.bool c.certain) := h.cells.cell 12
  have f : ∀ j, w.frozen? ⟨cb, j, none⟩ = false := fun j => h.cells.frozen j
  obtain ⟨a, n, rfl, _⟩ := Ty.slice_val hr
  have H := Lib.hid h
  have HR := Lib.hid hr
  clear h hr
  go_enter Tryz.func98, Tryz.ntmps98
  go_wp2_with (go_at_call 54; refine (Clone_ _ _ _ _ (by refine Ty.step _ (Hid.out (by assumption)) ?_; (repeat (first | exact Step.refl _ | refine Step.alloc ?_ _ | refine Step.drew ?_ | refine Step.drewN ?_ _ | refine Step.setCell ?_ (by first | exact Nat.le_refl _ | assumption | omega | (simp; done) | (simp; omega)) _ | assumption | refine Step.trans ?_ (by assumption : Step _ _))))).mono ?_; rintro e w1 ⟨v1, rfl, hA1, hS1⟩; obtain ⟨b1, m1, rfl⟩ := hA1.val; have hS1' : Step w w1 := (by (repeat (first | exact Step.refl _ | refine Step.alloc ?_ _ | refine Step.drew ?_ | refine Step.drewN ?_ _ | refine Step.setCell ?_ (by first | exact Nat.le_refl _ | assumption | omega | (simp; done) | (simp; omega)) _ | assumption | refine Step.trans ?_ (by assumption : Step _ _)))); have s1 : ∀ j, w1.cell? ⟨cb, j, none⟩ = w.cell? ⟨cb, j, none⟩ := fun j => hS1'.cell hcb j; have f1 : ∀ j, w1.frozen? ⟨cb, j, none⟩ = w.frozen? ⟨cb, j, none⟩ := fun j => hS1'.frozen hcb j; have HA1 := Lib.hid hA1; clear hA1)
  refine bodyPost_end (results_none rfl _ _ _) rfl ?_
  have hlt := fun g hg => (HA1.out.lt (g := g) hg).1
  (try simp only [World.size_alloc] at hlt)
  refine ⟨rfl, ⟨_, (H.out.keep (fun b h1 _ => hS1'.heap h1)).ended (Own.rep' (Own.flat Ty.flat_byte HA1.out) (fun b hb hM => ?_)), (BR.of HA1.out).kept (fun g hg => ?_), fun g hg => ?_⟩, ?_⟩
  · have h1 := hlt b hb
    rcases hM with hM | hM | hM | hM
    · omega
    · omega
    · have := H.out.outs.lt hM
      omega
    · simp [mapBlock] at hM
  · have h1 : g ≠ cb := fun e => by have := hlt g hg; omega
    rw [heap_setCell_other _ _ _ _ h1, heap_setCell_other _ _ _ _ h1, heap_setCell_other _ _ _ _ h1, heap_setCell_other _ _ _ _ h1, heap_setCell_other _ _ _ _ h1]
  · exact hlt g hg
  · exact (((((Turn.of hS1' (M := (· = cb))).setCell (fun _ => rfl) _).setCell (fun _ => rfl) _).setCell (fun _ => rfl) _).setCell (fun _ => rfl) _).setCell (fun _ => rfl) _
set_option maxRecDepth 100000 in
set_option maxHeartbeats 2000000 in
theorem singled_ {w : World} {M : Nat → Prop} {B cb : Nat} {c : DCoord} {vo vp mo mu vs vr : Value} {x : DAnswer} {r : List UInt8} {b3 : Option Addr} {n3 k3 : Nat} (h : CoordIn w B cb c vo vp mo mu vs vr) (hB : B ≤ w.heap.size) (hx : x.err = 0) (hr : Ty.bytes.rep w M [.slice b3 n3 k3] r) :
    Calls Tryz.prog 59 #[.pointer (some ⟨cb, 0, none⟩), .agg (ansCells x 0 0 (.slice none 0 0) (.slice none 0 0) (.slice b3 n3 k3))] w fun e w' => e = .returned (.slice none 0 0) ∧
      (∃ vr', CoordIn w' B cb { c with reply := r, certain := true, phase := 5, wants := 0, out := none } vo vp mo (.map none) vs vr' ∧ BR 5 w' vr' r ∧ ∀ g, vr'.ownBlock = some g → w.heap.size ≤ g) ∧ Turn (· = cb) w w' := by
  have hcb := h.lt
  have H := Lib.hid h
  have HR := Lib.hid hr
  clear h hr
  unfold ansCells
  rw [hx]
  go_enter Tryz.func59, Tryz.ntmps59
  go_wp2_with (go_at_call 98; refine (cEnd_ (c := c) (H.out.keep (fun b h1 _ => Step.heap (by (repeat (first | exact Step.refl _ | refine Step.alloc ?_ _ | refine Step.drew ?_ | refine Step.drewN ?_ _ | refine Step.setCell ?_ (by first | exact Nat.le_refl _ | assumption | omega | (simp; done) | (simp; omega)) _ | assumption | refine Step.trans ?_ (by assumption : Step _ _))) : Step w _) h1)) (Nat.le_trans hB (Step.size (by (repeat (first | exact Step.refl _ | refine Step.alloc ?_ _ | refine Step.drew ?_ | refine Step.drewN ?_ _ | refine Step.setCell ?_ (by first | exact Nat.le_refl _ | assumption | omega | (simp; done) | (simp; omega)) _ | assumption | refine Step.trans ?_ (by assumption : Step _ _))) : Step w _))) (by refine Ty.step _ (Hid.out (by assumption)) ?_; (repeat (first | exact Step.refl _ | refine Step.alloc ?_ _ | refine Step.drew ?_ | refine Step.drewN ?_ _ | refine Step.setCell ?_ (by first | exact Nat.le_refl _ | assumption | omega | (simp; done) | (simp; omega)) _ | assumption | refine Step.trans ?_ (by assumption : Step _ _))))).mono ?_; rintro e w1 ⟨rfl, hC1, hT1⟩; have HC1 := Lib.hid hC1; clear hC1)
  go_ret
  obtain ⟨vr1, e1, e2, e3⟩ := HC1.out
  have hst := Step.size (by (repeat (first | exact Step.refl _ | refine Step.alloc ?_ _ | refine Step.drew ?_ | refine Step.drewN ?_ _ | refine Step.setCell ?_ (by first | exact Nat.le_refl _ | assumption | omega | (simp; done) | (simp; omega)) _ | assumption | refine Step.trans ?_ (by assumption : Step _ _))) : Step w _)
  exact ⟨rfl, ⟨vr1, e1, e2, fun g hg => Nat.le_trans (Nat.le_trans (Nat.le_refl _) (by first | exact hst | (simp; done) | (simp; omega) | omega)) (e3 g hg)⟩, (Turn.of (by (repeat (first | exact Step.refl _ | refine Step.alloc ?_ _ | refine Step.drew ?_ | refine Step.drewN ?_ _ | refine Step.setCell ?_ (by first | exact Nat.le_refl _ | assumption | omega | (simp; done) | (simp; omega)) _ | assumption | refine Step.trans ?_ (by assumption : Step _ _))))).trans hT1⟩
set_option maxRecDepth 100000 in
set_option maxHeartbeats 4000000 in
theorem cAnswer_single {w : World} {M : Nat → Prop} {B cb nb : Nat} {c : DCoord} {l : List (Int × DAsk)} {vo vp mo vs vr : Value} {at_ : Int} {x : DAnswer} {r : List UInt8} {b3 : Option Addr} {n3 k3 : Nat} (h : CoordIn w B cb { c with out := some l } vo vp mo (.map (some nb)) vs vr) (hB : B ≤ w.heap.size) (hat : I64 at_)
    (hk : ∀ p ∈ l, p.2.kind = 4) (hin : ∃ p ∈ l, p.1 = at_) (hx : x.err = 0) (hxk : x.kind = 4) (hxt : x.txn = c.txn) (hr : Ty.bytes.rep w M [.slice b3 n3 k3] r) :
    Calls Tryz.prog 16 #[.pointer (some ⟨cb, 0, none⟩), .int .i64 at_, .agg (ansCells x 0 0 (.slice none 0 0) (.slice none 0 0) (.slice b3 n3 k3))] w fun e w' => e = .returned (.slice none 0 0) ∧
      (∃ vr', CoordIn w' B cb { c with reply := r, certain := true, phase := 5, wants := 0, out := none } vo vp mo (.map none) vs vr' ∧ BR 5 w' vr' r ∧ ∀ g, vr'.ownBlock = some g → w.heap.size ≤ g) ∧ Turn (· = cb) w w' := by
  obtain ⟨kind, inc, boot, txn, id, err, out, commit, reply, at2⟩ := x
  simp only at hx hxk hxt
  subst hx hxk hxt
  have hcb := h.lt
  have p8 : w.cell? ⟨cb, 8, none⟩ = some (.map (some nb)) := h.cells.cell 8
  have p0 : w.cell? ⟨cb, 0, none⟩ = some (.int .u64 (c.txn.boot : Int)) := h.cells.cell 0
  have p1 : w.cell? ⟨cb, 1, none⟩ = some (.int .u64 (c.txn.session : Int)) := h.cells.cell 1
  have p2 : w.cell? ⟨cb, 2, none⟩ = some (.int .u64 (c.txn.seq : Int)) := h.cells.cell 2
  have hO := h.out
  obtain ⟨b, hb, hm, _⟩ := hO
  obtain rfl : nb = b := by simpa using hb
  have HM := Lib.hid hm
  have H := Lib.hid h
  have HK := Lib.hid hk
  have HIN := Lib.hid hin
  have HR := Lib.hid hr
  clear h hm hk hin hb hr
  have hlk := (HM.out.step ((Step.refl w).alloc (.cells (ansCells ⟨4, inc, boot, c.txn, id, 0, out, commit, reply, at2⟩ 0 0 (.slice none 0 0) (.slice none 0 0) (.slice b3 n3 k3)) 51))).look (t := 123) Tryz.underlying3 Tryz.underlying123 (Tryz.zeroValue39 _) hat true
  rcases hlk with ⟨hn, _⟩ | ⟨z, ⟨L⟩, hz, hrep, hr⟩
  · obtain ⟨p, hp, hpe⟩ := HIN.out
    exact absurd hpe (hn p hp)
  obtain ⟨ac7, ac9, hcs, ah⟩ := hrep
  simp only at hcs
  subst hcs
  obtain ⟨aa7, an7, rfl, _⟩ := Ty.slice_val ah.2.2.2.2.2.2.2.1
  obtain ⟨aa9, an9, rfl, _⟩ := Ty.slice_val ah.2.2.2.2.2.2.2.2.1
  have hkz : z.kind = 4 := HK.out _ hz
  rw [hkz] at hr
  clear ah hz
  have hz0 := Step.refl w
  unfold ansCells at hr ⊢
  simp only at hr ⊢
  go_enter Tryz.func16, Tryz.ntmps16
  go_wp2
  go_quiet (fail)
  go_wp2_with (go_at_call 59; refine (singled_ (c := { c with out := some l }) (x := ⟨4, inc, boot, c.txn, id, 0, out, commit, reply, at2⟩) (H.out.keep (fun b h1 _ => Step.heap (by (repeat (first | exact Step.refl _ | refine Step.alloc ?_ _ | refine Step.drew ?_ | refine Step.drewN ?_ _ | refine Step.setCell ?_ (by first | exact Nat.le_refl _ | assumption | omega | (simp; done) | (simp; omega)) _ | assumption | refine Step.trans ?_ (by assumption : Step _ _))) : Step w _) h1)) (Nat.le_trans hB (Step.size (by (repeat (first | exact Step.refl _ | refine Step.alloc ?_ _ | refine Step.drew ?_ | refine Step.drewN ?_ _ | refine Step.setCell ?_ (by first | exact Nat.le_refl _ | assumption | omega | (simp; done) | (simp; omega)) _ | assumption | refine Step.trans ?_ (by assumption : Step _ _))) : Step w _))) rfl (Ty.step _ HR.out (by (repeat (first | exact Step.refl _ | refine Step.alloc ?_ _ | refine Step.drew ?_ | refine Step.drewN ?_ _ | refine Step.setCell ?_ (by first | exact Nat.le_refl _ | assumption | omega | (simp; done) | (simp; omega)) _ | assumption | refine Step.trans ?_ (by assumption : Step _ _)))))).mono ?_; rintro e w1 ⟨rfl, hC1, hT1⟩; have HC1 := Lib.hid hC1; clear hC1)
  go_ret
  obtain ⟨vr1, e1, e2, e3⟩ := HC1.out
  have hst := Step.size (by (repeat (first | exact Step.refl _ | refine Step.alloc ?_ _ | refine Step.drew ?_ | refine Step.drewN ?_ _ | refine Step.setCell ?_ (by first | exact Nat.le_refl _ | assumption | omega | (simp; done) | (simp; omega)) _ | assumption | refine Step.trans ?_ (by assumption : Step _ _))) : Step w _)
  exact ⟨rfl, ⟨vr1, e1, e2, fun g hg => Nat.le_trans (Nat.le_trans (Nat.le_refl _) (by first | exact hst | (simp; done) | (simp; omega) | omega)) (e3 g hg)⟩, (Turn.of (by (repeat (first | exact Step.refl _ | refine Step.alloc ?_ _ | refine Step.drew ?_ | refine Step.drewN ?_ _ | refine Step.setCell ?_ (by first | exact Nat.le_refl _ | assumption | omega | (simp; done) | (simp; omega)) _ | assumption | refine Step.trans ?_ (by assumption : Step _ _))))).trans hT1⟩
end Go.Proofs.YthflkfgiclcdiaaGreat
