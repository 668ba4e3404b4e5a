/-
  Walks: Record.
-/
import Derived.Test.YthflkfgiclcdiaaGreatC16
namespace Go.Proofs.YthflkfgiclcdiaaGreat
open Go.Gr Go.RowKit
set_option linter.unusedSimpArgs false
/-- A record's cells, of those kinds that a coordinator writes. -/
def recCells (kind : Int) (x : DTxn) (commit : Bool) (vs vr : Value) : Array Value :=
  #[.int .i64 kind, .int .u64 (x.boot : Int), .int .u64 (x.session : Int), .int .u64 (x.seq : Int), .slice none 0 0, .slice none 0 0, .bool commit, vs, vr, .int .u64 0, .string ⟨#[]⟩]
theorem recCells_one {k : Int} {x : DTxn} {cm : Bool} {b1 b2 : Option Addr} {n1 n2 k1 k2 : Nat} : (recCells k x cm (.slice b1 n1 k1) (.slice b2 n2 k2)).all (·.oneCell') = true := by
  simp [recCells, Value.oneCell']
set_option maxRecDepth 100000 in
set_option maxHeartbeats 4000000 in
theorem cRecord_decide {w : World} {B cb : Nat} {c : DCoord} {vo vp mo mu vs vr : Value} (h : CoordIn w B cb c vo vp mo mu vs vr) (hw : c.wants = 1) :
    Calls Tryz.prog 23 #[.pointer (some ⟨cb, 0, none⟩)] w fun e w' => ∃ b5 m5 b6 m6, e = .returned (.agg (recCells 6 c.txn c.commit (.slice b5 c.shards.length m5) (.slice b6 c.reply.length m6))) ∧
      Ty.bytes.rep w' (fun _ => False) [.slice b6 c.reply.length m6] c.reply ∧ Step w w' := by
  have hcb := h.lt
  obtain ⟨a9, n9, rfl, _⟩ := Ty.slice_val h.shards
  obtain ⟨a11, n11, rfl, _⟩ := Ty.slice_val h.reply
  have p0 : w.cell? ⟨cb, 0, none⟩ = some (.int .u64 (c.txn.boot : Int)) := h.cells.cell 0
  have p1 : w.cell? ⟨cb, 1, none⟩ = some (.int .u64 (c.txn.session : Int)) := h.cells.cell 1
  have p2 : w.cell? ⟨cb, 2, none⟩ = some (.int .u64 (c.txn.seq : Int)) := h.cells.cell 2
  have p7 : w.cell? ⟨cb, 7, none⟩ = some (.int .i64 1) := by rw [← hw]; exact h.cells.cell 7
  have p9 : w.cell? ⟨cb, 9, none⟩ = some (.slice a9 c.shards.length n9) := h.cells.cell 9
  have p10 : w.cell? ⟨cb, 10, none⟩ = some (.bool c.commit) := h.cells.cell 10
  have p11 : w.cell? ⟨cb, 11, none⟩ = some (.slice a11 c.reply.length n11) := h.cells.cell 11
  have HSH := Lib.hid h.shards
  have HRP := Lib.hid h.reply
  have H := Lib.hid h
  clear h
  go_enter Tryz.func23, Tryz.ntmps23
  go_upto_region 3 with fail
  refine wp_region_cut (S := (fun w' => w'.cell? ⟨cb, 0, none⟩ = some (.int .u64 (c.txn.boot : Int)) ∧ w'.cell? ⟨cb, 1, none⟩ = some (.int .u64 (c.txn.session : Int)) ∧ w'.cell? ⟨cb, 2, none⟩ = some (.int .u64 (c.txn.seq : Int)) ∧ w'.cell? ⟨cb, 9, none⟩ = some (.slice a9 c.shards.length n9) ∧ w'.cell? ⟨cb, 10, none⟩ = some (.bool c.commit) ∧ w'.cell? ⟨cb, 11, none⟩ = some (.slice a11 c.reply.length n11))) 19 (by kernel_rfl) ?_ (fun hHeld => ?_)
  · (go_keep)
  refine wpAnyC_take (i := 0) (v := ?_) rfl (by kernel_rfl) (by kernel_rfl) (by kernel_rfl) (by decide) [1, 2, 3, 18, 19] (by kernel_rfl) (fun _ _ _ h => h) (Or.inl ⟨by rfl, ?_⟩) (by assumption) ?_
  rotate_left 1
  · (intro w hSw; (try dsimp only at hSw); go_simp; (try with_reducible rfl))
  try simp only [Act.put, List.getElem_toArray, List.getElem_cons_succ, List.getElem_cons_zero, List.setIfInBounds_toArray, List.set_cons_zero, List.set_cons_succ]
  refine wpAnyC_take (i := 1) (v := ?_) rfl (by kernel_rfl) (by kernel_rfl) (by kernel_rfl) (by decide) [2, 3, 18, 19] (by kernel_rfl) (fun _ _ _ h => h) (Or.inl ⟨by rfl, ?_⟩) (by assumption) ?_
  rotate_left 1
  · (intro w hSw; (try dsimp only at hSw); go_simp; (try with_reducible rfl))
  try simp only [Act.put, List.getElem_toArray, List.getElem_cons_succ, List.getElem_cons_zero, List.setIfInBounds_toArray, List.set_cons_zero, List.set_cons_succ]
  refine wpAnyC_take (i := 2) (v := ?_) rfl (by kernel_rfl) (by kernel_rfl) (by kernel_rfl) (by decide) [3, 18, 19] (by kernel_rfl) (fun _ _ _ h => h) (Or.inl ⟨by rfl, ?_⟩) (by assumption) ?_
  rotate_left 1
  · (intro w hSw; (try dsimp only at hSw); go_simp; (try with_reducible rfl))
  try simp only [Act.put, List.getElem_toArray, List.getElem_cons_succ, List.getElem_cons_zero, List.setIfInBounds_toArray, List.set_cons_zero, List.set_cons_succ]
  refine wpAnyC_take (i := 3) (v := ?_) rfl (by kernel_rfl) (by kernel_rfl) (by kernel_rfl) (by decide) [18, 19] (by kernel_rfl) (fun _ _ _ h => h) (Or.inl ⟨by rfl, ?_⟩) (by assumption) ?_
  rotate_left 1
  · (intro w hSw; (try dsimp only at hSw); go_simp; (try with_reducible rfl))
  try simp only [Act.put, List.getElem_toArray, List.getElem_cons_succ, List.getElem_cons_zero, List.setIfInBounds_toArray, List.set_cons_zero, List.set_cons_succ]
  refine wpAnyC_take (i := 4) (v := ?_) rfl (by kernel_rfl) (by kernel_rfl) (by kernel_rfl) (by decide) [5, 6, 7, 18, 19] (by kernel_rfl) (fun _ _ _ h => h) (Or.inl ⟨by rfl, ?_⟩) (by assumption) ?_
  rotate_left 1
  · (intro w hSw; (try dsimp only at hSw); go_simp; (try with_reducible rfl))
  try simp only [Act.put, List.getElem_toArray, List.getElem_cons_succ, List.getElem_cons_zero, List.setIfInBounds_toArray, List.set_cons_zero, List.set_cons_succ]
  refine wpAnyC_take (i := 5) (v := ?_) rfl (by kernel_rfl) (by kernel_rfl) (by kernel_rfl) (by decide) [6, 7, 18, 19] (by kernel_rfl) (fun _ _ _ h => h) (Or.inl ⟨by rfl, ?_⟩) (by assumption) ?_
  rotate_left 1
  · (intro w hSw; (try dsimp only at hSw); go_simp; (try with_reducible rfl))
  try simp only [Act.put, List.getElem_toArray, List.getElem_cons_succ, List.getElem_cons_zero, List.setIfInBounds_toArray, List.set_cons_zero, List.set_cons_succ]
  refine wpAnyC_take (i := 6) (v := ?_) rfl (by kernel_rfl) (by kernel_rfl) (by kernel_rfl) (by decide) [7, 18, 19] (by kernel_rfl) (fun _ _ _ h => h) (Or.inl ⟨by rfl, ?_⟩) (by assumption) ?_
  rotate_left 1
  · (intro w hSw; (try dsimp only at hSw); go_simp; (try with_reducible rfl))
  try simp only [Act.put, List.getElem_toArray, List.getElem_cons_succ, List.getElem_cons_zero, List.setIfInBounds_toArray, List.set_cons_zero, List.set_cons_succ]
  refine wpAnyC_take (i := 7) (v := ?_) rfl (by kernel_rfl) (by kernel_rfl) (by kernel_rfl) (by decide) [18, 19] (by kernel_rfl) (fun _ _ _ h => h) (Or.inl ⟨by rfl, ?_⟩) (by assumption) ?_
  rotate_left 1
  · (intro w hSw; (try dsimp only at hSw); go_simp; (try with_reducible rfl))
  try simp only [Act.put, List.getElem_toArray, List.getElem_cons_succ, List.getElem_cons_zero, List.setIfInBounds_toArray, List.set_cons_zero, List.set_cons_succ]
  refine wpAnyC_take (i := 8) (v := ?_) rfl (by kernel_rfl) (by kernel_rfl) (by kernel_rfl) (by decide) [9, 10, 11, 12, 17, 18, 19] (by kernel_rfl) (fun _ _ _ h => h) (Or.inl ⟨by rfl, ?_⟩) (by assumption) ?_
  rotate_left 1
  · (intro w hSw; (try dsimp only at hSw); go_simp; (try with_reducible rfl))
  try simp only [Act.put, List.getElem_toArray, List.getElem_cons_succ, List.getElem_cons_zero, List.setIfInBounds_toArray, List.set_cons_zero, List.set_cons_succ]
  refine wpAnyC_take (i := 9) (v := ?_) rfl (by kernel_rfl) (by kernel_rfl) (by kernel_rfl) (by decide) [10, 11, 12, 17, 18, 19] (by kernel_rfl) (fun _ _ _ h => h) (Or.inl ⟨by rfl, ?_⟩) (by assumption) ?_
  rotate_left 1
  · (intro w hSw; (try dsimp only at hSw); go_simp; (try with_reducible rfl))
  try simp only [Act.put, List.getElem_toArray, List.getElem_cons_succ, List.getElem_cons_zero, List.setIfInBounds_toArray, List.set_cons_zero, List.set_cons_succ]
  refine wpAnyC_take (i := 10) (v := ?_) rfl (by kernel_rfl) (by kernel_rfl) (by kernel_rfl) (by decide) [11, 12, 17, 18, 19] (by kernel_rfl) (fun _ _ _ h => h) (Or.inl ⟨by rfl, ?_⟩) (by assumption) ?_
  rotate_left 1
  · (intro w hSw; (try dsimp only at hSw); go_simp; (try with_reducible rfl))
  try simp only [Act.put, List.getElem_toArray, List.getElem_cons_succ, List.getElem_cons_zero, List.setIfInBounds_toArray, List.set_cons_zero, List.set_cons_succ]
  refine wpAnyC_take (i := 11) (v := ?_) rfl (by kernel_rfl) (by kernel_rfl) (by kernel_rfl) (by decide) [12, 17, 18, 19] (by kernel_rfl) (fun _ _ _ h => h) (Or.inl ⟨by rfl, ?_⟩) (by assumption) ?_
  rotate_left 1
  · (intro w hSw; (try dsimp only at hSw); go_simp; (try with_reducible rfl))
  try simp only [Act.put, List.getElem_toArray, List.getElem_cons_succ, List.getElem_cons_zero, List.setIfInBounds_toArray, List.set_cons_zero, List.set_cons_succ]
  refine wpAnyC_take (i := 13) (v := ?_) rfl (by kernel_rfl) (by kernel_rfl) (by kernel_rfl) (by decide) [14, 15, 16, 17, 18, 19] (by kernel_rfl) (fun _ _ _ h => h) (Or.inl ⟨by rfl, ?_⟩) (by assumption) ?_
  rotate_left 1
  · (intro w hSw; (try dsimp only at hSw); go_simp; (try with_reducible rfl))
  try simp only [Act.put, List.getElem_toArray, List.getElem_cons_succ, List.getElem_cons_zero, List.setIfInBounds_toArray, List.set_cons_zero, List.set_cons_succ]
  refine wpAnyC_take (i := 14) (v := ?_) rfl (by kernel_rfl) (by kernel_rfl) (by kernel_rfl) (by decide) [15, 16, 17, 18, 19] (by kernel_rfl) (fun _ _ _ h => h) (Or.inl ⟨by rfl, ?_⟩) (by assumption) ?_
  rotate_left 1
  · (intro w hSw; (try dsimp only at hSw); go_simp; (try with_reducible rfl))
  try simp only [Act.put, List.getElem_toArray, List.getElem_cons_succ, List.getElem_cons_zero, List.setIfInBounds_toArray, List.set_cons_zero, List.set_cons_succ]
  refine wpAnyC_take (i := 15) (v := ?_) rfl (by kernel_rfl) (by kernel_rfl) (by kernel_rfl) (by decide) [16, 17, 18, 19] (by kernel_rfl) (fun _ _ _ h => h) (Or.inl ⟨by rfl, ?_⟩) (by assumption) ?_
  rotate_left 1
  · (intro w hSw; (try dsimp only at hSw); go_simp; (try with_reducible rfl))
  try simp only [Act.put, List.getElem_toArray, List.getElem_cons_succ, List.getElem_cons_zero, List.setIfInBounds_toArray, List.set_cons_zero, List.set_cons_succ]
  refine wpAnyC_take (i := 16) (v := ?_) rfl (by kernel_rfl) (by kernel_rfl) (by kernel_rfl) (by decide) [17, 18, 19] (by kernel_rfl) (fun _ _ _ h => h) (Or.inl ⟨by rfl, ?_⟩) (by assumption) ?_
  rotate_left 1
  · (intro w hSw; (try dsimp only at hSw); go_simp; (try with_reducible rfl))
  try simp only [Act.put, List.getElem_toArray, List.getElem_cons_succ, List.getElem_cons_zero, List.setIfInBounds_toArray, List.set_cons_zero, List.set_cons_succ]
  refine wpAnyC_ready (rs := [12]) (by kernel_rfl) (by simp) ?_
  refine AllReadyC.cons rfl (by decide) (fun K hK => ?_) AllReadyC.nil
  try simp only [List.getElem_toArray, List.getElem_cons_succ, List.getElem_cons_zero]
  go_simp
  (go_at_call 63; refine (CloneInts_ _ _ (fun _ => False) _ _ (by refine Ty.step _ (Hid.out (by assumption)) ?_; (repeat (first | exact Step.refl _ | refine Step.alloc ?_ _ | refine Step.drew ?_ | refine Step.drewN ?_ _ | refine Step.setCell ?_ (by first | exact Nat.le_refl _ | assumption | omega | (simp; done) | (simp; omega)) _ | assumption | refine Step.trans ?_ (by assumption : Step _ _)))) (fun _ _ h => h.elim)).mono ?_; rintro e5 w5 ⟨v5, rfl, hA5, hS5⟩; obtain ⟨b5, m5, rfl⟩ := hA5.val; have s5_0 : ∀ j, w5.cell? ⟨cb, j, none⟩ = _ := fun j => hS5.cell (by first | assumption | omega | (simp; done) | (simp; omega)) j; have z5_0 : cb < w5.heap.size := Nat.lt_of_lt_of_le (by first | assumption | omega | (simp; done) | (simp; omega)) hS5.size; have HA5 := Lib.hid hA5; clear hA5)
  refine hK.out _ _ ?_ (fun hHeld => ?_)
  · (go_keep)
  clear hK K
  try simp only [Act.put, List.getElem_toArray, List.getElem_cons_succ, List.getElem_cons_zero, List.setIfInBounds_toArray, List.set_cons_zero, List.set_cons_succ]
  refine wpAnyC_ready (rs := [17]) (by kernel_rfl) (by simp) ?_
  refine AllReadyC.cons rfl (by decide) (fun K hK => ?_) AllReadyC.nil
  try simp only [List.getElem_toArray, List.getElem_cons_succ, List.getElem_cons_zero]
  go_simp
  (go_at_call 54; refine (Clone_ _ _ _ _ (by refine Ty.step _ (Hid.out (by assumption)) ?_; (repeat (first | exact Step.refl _ | refine Step.alloc ?_ _ | refine Step.drew ?_ | refine Step.drewN ?_ _ | refine Step.setCell ?_ (by first | exact Nat.le_refl _ | assumption | omega | (simp; done) | (simp; omega)) _ | assumption | refine Step.trans ?_ (by assumption : Step _ _))))).mono ?_; rintro e6 w6 ⟨v6, rfl, hA6, hS6⟩; obtain ⟨b6, m6, rfl⟩ := hA6.val; have s6_0 : ∀ j, w6.cell? ⟨cb, j, none⟩ = _ := fun j => hS6.cell (by first | assumption | omega | (simp; done) | (simp; omega)) j; have z6_0 : cb < w6.heap.size := Nat.lt_of_lt_of_le (by first | assumption | omega | (simp; done) | (simp; omega)) hS6.size; have HA6 := Lib.hid hA6; clear hA6)
  refine hK.out _ _ ?_ (fun hHeld => ?_)
  · (go_keep)
  clear hK K
  try simp only [Act.put, List.getElem_toArray, List.getElem_cons_succ, List.getElem_cons_zero, List.setIfInBounds_toArray, List.set_cons_zero, List.set_cons_succ]
  refine wpAnyC_take (i := 18) (v := ?_) rfl (by kernel_rfl) (by kernel_rfl) (by kernel_rfl) (by decide) [19] (by kernel_rfl) (fun _ _ _ h => h) (Or.inl ⟨by rfl, ?_⟩) (by assumption) ?_
  rotate_left 1
  · (intro w hSw; (try dsimp only at hSw); go_simp; (try with_reducible rfl))
  try simp only [Act.put, List.getElem_toArray, List.getElem_cons_succ, List.getElem_cons_zero, List.setIfInBounds_toArray, List.set_cons_zero, List.set_cons_succ]
  refine wpAnyC_ready (rs := [19]) (by kernel_rfl) (by simp) ?_
  refine AllReadyC.cut rfl (fun K hK => ?_)
  try simp only [List.getElem_toArray, List.getElem_cons_succ, List.getElem_cons_zero]
  refine ite_then rfl ?_; refine wp_store_gen (F := fun W' kk => CellsAt W' kk (recCells 6 c.txn c.commit (.slice b5 c.shards.length m5) (.slice b6 c.reply.length m6)) 63 ∧ Ty.bytes.rep W' (fun _ => False) [.slice b6 c.reply.length m6] c.reply ∧ Step w W') 63 (.tmp 2) (.tmp 27) rfl _ (recCells 6 c.txn c.commit (.slice b5 c.shards.length m5) (.slice b6 c.reply.length m6)) rfl rfl 63 (recCells 0 ⟨0, 0, 0⟩ false (.slice none 0 0) (.slice none 0 0)) ?_ (by kernel_rfl) rfl recCells_one ?_ ?_; exact (CellsAt.new (w := w) rfl).step (by (repeat (first | exact Step.refl _ | refine Step.alloc ?_ _ | refine Step.drew ?_ | refine Step.drewN ?_ _ | refine Step.setCell ?_ (by first | exact Nat.le_refl _ | assumption | omega | (simp; done) | (simp; omega)) _ | assumption | refine Step.trans ?_ (by assumption : Step _ _)))); exact ⟨CellsAt.row ((CellsAt.new (w := w) rfl).step (by (repeat (first | exact Step.refl _ | refine Step.alloc ?_ _ | refine Step.drew ?_ | refine Step.drewN ?_ _ | refine Step.setCell ?_ (by first | exact Nat.le_refl _ | assumption | omega | (simp; done) | (simp; omega)) _ | assumption | refine Step.trans ?_ (by assumption : Step _ _))))) _, Ty.less _ (Ty.kept (M := (· = w.heap.size)) _ (Own.rep' (Own.flat (E := Ty.byte) Ty.flat_byte HA6.out) (fun b hb he => absurd (HA6.out.lt hb).1 (by (have zz := hS5.size; simp at zz ⊢; omega)))) (fun b _ hb => setRow_other _ _ _ _ hb)) (fun _ _ h => h.elim), Step.setRow (by (repeat (first | exact Step.refl _ | refine Step.alloc ?_ _ | refine Step.drew ?_ | refine Step.drewN ?_ _ | refine Step.setCell ?_ (by first | exact Nat.le_refl _ | assumption | omega | (simp; done) | (simp; omega)) _ | assumption | refine Step.trans ?_ (by assumption : Step _ _)))) (by first | assumption | omega | (simp; done) | (simp; omega)) _⟩; intro w7 h7; obtain ⟨h71, h72, h73⟩ := h7; have HC7 := Lib.hid h71; have HR7 := Lib.hid h72; have HS7 := Lib.hid h73; clear h71 h72 h73
  refine hK.out _ _ trivial (fun hHeld => ?_)
  clear hK K
  try simp only [Act.put, List.getElem_toArray, List.getElem_cons_succ, List.getElem_cons_zero, List.setIfInBounds_toArray, List.set_cons_zero, List.set_cons_succ]
  have hTrue : True := trivial
  refine wpAnyH_done (by kernel_rfl) ?_ _
  go_wp2
  refine bodyPost_ret (v := .agg (recCells 6 c.txn c.commit (.slice b5 c.shards.length m5) (.slice b6 c.reply.length m6))) (results_cell_row rfl _ _ _ _ _ (0, 0) _ rfl HC7.out Tryz.underlying63 rfl (by kernel_rfl)) rfl ?_
  exact ⟨_, _, _, _, rfl, HR7.out, HS7.out⟩
set_option maxRecDepth 100000 in
set_option maxHeartbeats 4000000 in
theorem cRecord_end {w : World} {B cb : Nat} {c : DCoord} {vo vp mo mu vs vr : Value} (h : CoordIn w B cb c vo vp mo mu vs vr) (hw : c.wants = 3) :
    Calls Tryz.prog 23 #[.pointer (some ⟨cb, 0, none⟩)] w fun e w' => e = .returned (.agg (recCells 9 c.txn false (.slice none 0 0) (.slice none 0 0))) ∧ Step w w' := by
  have hcb := h.lt
  have p0 : w.cell? ⟨cb, 0, none⟩ = some (.int .u64 (c.txn.boot : Int)) := h.cells.cell 0
  have p1 : w.cell? ⟨cb, 1, none⟩ = some (.int .u64 (c.txn.session : Int)) := h.cells.cell 1
  have p2 : w.cell? ⟨cb, 2, none⟩ = some (.int .u64 (c.txn.seq : Int)) := h.cells.cell 2
  have p7 : w.cell? ⟨cb, 7, none⟩ = some (.int .i64 3) := by rw [← hw]; exact h.cells.cell 7
  clear h
  go_enter Tryz.func23, Tryz.ntmps23
  go_wp2_with (refine wpList_store_row rfl 63 (.tmp 2) (.tmp 34) rfl w.heap.size (recCells 9 c.txn false (.slice none 0 0) (.slice none 0 0)) rfl rfl 63 (recCells 0 ⟨0, 0, 0⟩ false (.slice none 0 0) (.slice none 0 0)) (CellsAt.new rfl) (by kernel_rfl) rfl recCells_one ?_)
  refine bodyPost_ret (v := .agg (recCells 9 c.txn false (.slice none 0 0) (.slice none 0 0))) (results_cell_row rfl _ _ _ _ _ (0, 0) _ rfl (CellsAt.row (CellsAt.new rfl) _) Tryz.underlying63 rfl (by kernel_rfl)) rfl ?_
  exact ⟨rfl, Step.setRow (by (repeat (first | exact Step.refl _ | refine Step.alloc ?_ _ | refine Step.drew ?_ | refine Step.drewN ?_ _ | refine Step.setCell ?_ (by first | exact Nat.le_refl _ | assumption | omega | (simp; done) | (simp; omega)) _ | assumption | refine Step.trans ?_ (by assumption : Step _ _)))) (Nat.le_refl _) _⟩
end Go.Proofs.YthflkfgiclcdiaaGreat
