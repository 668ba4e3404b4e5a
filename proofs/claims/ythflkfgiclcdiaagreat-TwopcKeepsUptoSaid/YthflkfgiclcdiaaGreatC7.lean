/-
  Walk: Join of no parts.
-/
import Derived.Test.YthflkfgiclcdiaaGreatC6
namespace Go.Proofs.YthflkfgiclcdiaaGreat
open Go.Gr Go.RowKit
set_option linter.unusedSimpArgs false
theorem made_rows (n : Nat) (hn : n ≤ 1048576) (W : World) : (Instr.makeSlice 45 (.int .i64 (n : Int)) (.int .i64 (n : Int))).run Tryz.prog W = .ok (.slice (some ⟨W.heap.size, 0, none⟩) n n) (W.alloc (.cells (madeCells #[.slice none 0 0] n) 73)) := by
  obtain ⟨i, h1, h2, h3, h4⟩ := info_parts (show (Tryz.prog.info? 73).map (fun i => (i.zero, i.size, i.bytes)) = some (some (Value.slice none 0 0), 1, 24) by kernel_rfl)
  have := run_make (P := Tryz.prog) W 45 73 i _ Tryz.underlying45 h1 h2 .i64 .i64 n n (by omega) (Int.le_refl _) (by rw [h4]; omega) (by omega)
  rw [Int.toNat_natCast, h3, Nat.mul_one] at this
  exact this
theorem made_nils (W : World) (n : Nat) (e : TypeId) : Nils (W.alloc (.cells (madeCells #[.slice none 0 0] n) e)) W.heap.size n := fun i hi => by
  have hh := heap_alloc_new W (.cells (madeCells #[.slice none 0 0] n) e)
  refine ⟨⟨.slice none 0 0, ?_, nil_of⟩, frozen_of_row _ _ i _ _ hh⟩
  rw [cell_of_row _ _ i _ _ (0, 0) hh]
  simp [madeCells, hi, Nat.mod_one]
set_option maxRecDepth 100000 in
set_option maxHeartbeats 4000000 in
theorem Join_nil {w : World} {M : Nat → Prop} {v : Value} {ops : List DOp} (h : (Ty.slice tOp).rep w M [v] ops) (hn : ops.length ≤ 1048576) :
    Calls Tryz.prog 50 #[v, .slice none 0 0, .slice none 0 0] w fun x w' => ∃ g a3 c3, x = .returned (.agg #[.int .i64 0, .int .i64 0, .slice (some ⟨g, 0, none⟩) ops.length ops.length, .slice a3 0 c3]) ∧ (Ty.slice tWrite).rep w' (fun _ => False) [.slice a3 0 c3] [] ∧ Nils w' g ops.length ∧ g < w'.heap.size ∧ Step w w' := by
  obtain ⟨a, c, rfl, _⟩ := Ty.slice_val h
  have H := Lib.hid h
  clear h
  have hmk := made_rows _ hn
  go_enter Tryz.func50, Tryz.ntmps50
  go_wp2
  refine wp_loop_rounds 1 ?_
  rw [rounds_succ]
  go_wp2
  refine wp_code (fun wl => wl.heap[w.heap.size]? = some (.cells #[.int .i64 0, .int .i64 0, .slice none 0 0, .slice none 0 0] 49 (0, 0)) ∧ wl.heap[w.heap.size + 1 + 1 + 1]? = some (.cells #[.int .i64 0, .int .i64 0, .slice (some ⟨w.heap.size + 1 + 1, 0, none⟩) ops.length ops.length, .slice none 0 0] 49 (0, 0)) ∧
      Nils wl (w.heap.size + 1 + 1) ops.length ∧ Step w wl ∧ wl.heap.size = w.heap.size + 1 + 1 + 1 + 1) ?_ ?_
  · have s2 : ∀ (o1 o2 : Obj), ((w.alloc o1).alloc o2).heap.size = w.heap.size + 1 + 1 := fun _ _ => by simp
    refine ⟨?_, heap_alloc_at (by simp), ?_, by (repeat (first | exact Step.refl _ | refine Step.alloc ?_ _ | refine Step.drew ?_ | refine Step.drewN ?_ _ | refine Step.setCell ?_ (by first | exact Nat.le_refl _ | assumption | omega | (simp; done) | (simp; omega)) _ | assumption | refine Step.trans ?_ (by assumption : Step _ _))), by simp⟩
    · rw [Below.heap_alloc _ _ _ (by first | assumption | omega | (simp; done) | (simp; omega)), Below.heap_alloc _ _ _ (by first | assumption | omega | (simp; done) | (simp; omega)), Below.heap_alloc _ _ _ (by first | assumption | omega | (simp; done) | (simp; omega))]
      exact heap_alloc_at rfl
    · refine Nils.step ?_ (by first | assumption | omega | (simp; done) | (simp; omega)) ((Step.refl _).alloc _)
      rw [← s2]
      exact made_nils _ _ _
  rintro wl ⟨hz, hb, hN, hS, hsz0⟩
  have HZ := Lib.hid hz
  have HB := Lib.hid hb
  have HN := Lib.hid hN
  clear hz hb hN
  go_loopw [14, 15, 126] (fun _ _ i w' => ∃ k : Nat, i = .int .i64 k ∧ k ≤ ops.length ∧ Step wl w') (fun _ _ i _ => ops.length - (Go.RowKit.intOf i).toNat)
  case atStart => exact ⟨0, rfl, by omega, Step.refl _⟩
  case round =>
    obtain ⟨k, rfl, hk, hT⟩ := hrel
    have hsz := hT.size
    by_cases hlt : k < ops.length
    · obtain ⟨ob, oo, oes, rfl, ohb, _, ou, ocu⟩ := Ty.slice_at H.out hlt
      obtain ⟨oc1, oc2, rfl, oh0, oh1, oh2, oh3⟩ := ou
      have oq0 := (Step.cell (w' := wr) (by (repeat (first | exact Step.refl _ | refine Step.alloc ?_ _ | refine Step.drew ?_ | refine Step.drewN ?_ _ | refine Step.setCell ?_ (by first | exact Nat.le_refl _ | assumption | omega | (simp; done) | (simp; omega)) _ | assumption | refine Step.trans ?_ (by assumption : Step _ _)))) ohb _).trans (ocu 0 _ rfl)
      have oq1 := (Step.cell (w' := wr) (by (repeat (first | exact Step.refl _ | refine Step.alloc ?_ _ | refine Step.drew ?_ | refine Step.drewN ?_ _ | refine Step.setCell ?_ (by first | exact Nat.le_refl _ | assumption | omega | (simp; done) | (simp; omega)) _ | assumption | refine Step.trans ?_ (by assumption : Step _ _)))) ohb _).trans (ocu 1 _ rfl)
      have oq2 := (Step.cell (w' := wr) (by (repeat (first | exact Step.refl _ | refine Step.alloc ?_ _ | refine Step.drew ?_ | refine Step.drewN ?_ _ | refine Step.setCell ?_ (by first | exact Nat.le_refl _ | assumption | omega | (simp; done) | (simp; omega)) _ | assumption | refine Step.trans ?_ (by assumption : Step _ _)))) ohb _).trans (ocu 2 _ rfl)
      have oq3 := (Step.cell (w' := wr) (by (repeat (first | exact Step.refl _ | refine Step.alloc ?_ _ | refine Step.drew ?_ | refine Step.drewN ?_ _ | refine Step.setCell ?_ (by first | exact Nat.le_refl _ | assumption | omega | (simp; done) | (simp; omega)) _ | assumption | refine Step.trans ?_ (by assumption : Step _ _)))) ohb _).trans (ocu 3 _ rfl)
      simp only [show tOp.n = 4 from rfl, Nat.add_zero] at oq0 oq1 oq2 oq3
      obtain ⟨oa1, on1, rfl, _⟩ := Ty.slice_val oh1
      obtain ⟨oa2, on2, rfl, _⟩ := Ty.slice_val oh2
      have oH0 := Lib.hid oh0
      have oH1 := Lib.hid oh1
      have oH2 := Lib.hid oh2
      have oH3 := Lib.hid oh3
      clear ocu oh0 oh1 oh2 oh3
      have hb := (hT.heap (by omega)).trans HB.out
      obtain ⟨⟨v, qv, hv⟩, _⟩ := (HN.out.step (by omega) hT) k hlt
      obtain ⟨va, vc, rfl, _⟩ := Ty.slice_val hv
      simp only [List.length_nil] at qv
      have p2 : wr.cell? ⟨w.heap.size + 1 + 1 + 1, 2, none⟩ = some (.slice (some ⟨w.heap.size + 1 + 1, 0, none⟩) ops.length ops.length) := cell_of_row wr _ 2 _ _ (0, 0) hb
      clear hb hv
      have hw3 : w.heap.size + 1 + 1 + 1 < wr.heap.size := by omega
      have hw2 : w.heap.size + 1 + 1 < wr.heap.size := by omega
      go_upto_region 26 with fail
      generalize ops[k].kind = kd at *
      generalize ops[k].most = mo at *
      refine wp_code (fun wx => Step wr wx ∧ wx.cell? ⟨wr.heap.size, 0, none⟩ = some (.int .i64 kd) ∧ wx.cell? ⟨wr.heap.size, 3, none⟩ = some (.int .i64 mo)) ⟨by (repeat (first | exact Step.refl _ | refine Step.alloc ?_ _ | refine Step.drew ?_ | refine Step.drewN ?_ _ | refine Step.setCell ?_ (by first | exact Nat.le_refl _ | assumption | omega | (simp; done) | (simp; omega)) _ | assumption | refine Step.trans ?_ (by assumption : Step _ _))), by simp, by simp⟩ ?_
      rintro wx ⟨hX, x0, x3⟩
      have p2x := (hX.cell hw3 2).trans p2
      have qvx := (hX.cell hw2 k).trans qv
      have hmx : (0 : Int) ≤ max mo 0 := by omega
      have hTx := hT.trans hX
      clear p2 qv oq0 oq1 oq2 oq3 hX
      have hlast : ∀ n, Step wl (wx.drewN n) := fun n => hTx.drewN n
      have HT := Lib.hid hlast
      clear hlast hT hTx
      cases hkd : (kd == 4)
      · go_quiet (fail)
        go_wp2
        go_roundw
        case rel => exact ⟨k + 1, by go_num, by omega, HT.out _⟩
        case measure => simp [Go.RowKit.intOf]; omega
      · go_quiet (fail)
        go_wp2
        go_roundw
        case rel => exact ⟨k + 1, by go_num, by omega, HT.out _⟩
        case measure => simp [Go.RowKit.intOf]; omega
    · obtain rfl : k = ops.length := by omega
      have hb := (hT.heap (by omega)).trans HB.out
      have hz := (hT.heap (by omega)).trans HZ.out
      have HN2 := Lib.hid (HN.out.step (by omega) hT)
      have p0 : wr.cell? ⟨w.heap.size + 1 + 1 + 1, 0, none⟩ = some (.int .i64 0) := cell_of_row wr _ 0 _ _ (0, 0) hb
      have p1 : wr.cell? ⟨w.heap.size + 1 + 1 + 1, 1, none⟩ = some (.int .i64 0) := cell_of_row wr _ 1 _ _ (0, 0) hb
      have p2 : wr.cell? ⟨w.heap.size + 1 + 1 + 1, 2, none⟩ = some (.slice (some ⟨w.heap.size + 1 + 1, 0, none⟩) ops.length ops.length) := cell_of_row wr _ 2 _ _ (0, 0) hb
      have p3 : wr.cell? ⟨w.heap.size + 1 + 1 + 1, 3, none⟩ = some (.slice none 0 0) := cell_of_row wr _ 3 _ _ (0, 0) hb
      have z0 : wr.cell? ⟨w.heap.size, 0, none⟩ = some (.int .i64 0) := cell_of_row wr _ 0 _ _ (0, 0) hz
      have y0 : wr.frozen? ⟨w.heap.size, 0, none⟩ = false := frozen_of_row wr _ 0 _ _ hz
      have z1 : wr.cell? ⟨w.heap.size, 1, none⟩ = some (.int .i64 0) := cell_of_row wr _ 1 _ _ (0, 0) hz
      have y1 : wr.frozen? ⟨w.heap.size, 1, none⟩ = false := frozen_of_row wr _ 1 _ _ hz
      have z2 : wr.cell? ⟨w.heap.size, 2, none⟩ = some (.slice none 0 0) := cell_of_row wr _ 2 _ _ (0, 0) hz
      have y2 : wr.frozen? ⟨w.heap.size, 2, none⟩ = false := frozen_of_row wr _ 2 _ _ hz
      have z3 : wr.cell? ⟨w.heap.size, 3, none⟩ = some (.slice none 0 0) := cell_of_row wr _ 3 _ _ (0, 0) hz
      have y3 : wr.frozen? ⟨w.heap.size, 3, none⟩ = false := frozen_of_row wr _ 3 _ _ hz
      have HZ2 := Lib.hid hz
      clear hb hz
      have hg0 : w.heap.size < wr.heap.size := by omega
      have hg2 : w.heap.size + 1 + 1 < wr.heap.size := by omega
      have hne : ¬ w.heap.size = w.heap.size + 1 + 1 := by omega
      have hne' : ¬ w.heap.size + 1 + 1 = w.heap.size := by omega
      go_wp2_with (go_at_call 94; refine (own_nil hg2 hn HN2.out).mono ?_; rintro e w3 ⟨a3, c3, rfl, hW3, hN3, hT3⟩; have x3 : ∀ j, w3.cell? ⟨w.heap.size, j, none⟩ = wr.cell? ⟨w.heap.size, j, none⟩ := fun j => hT3.cell hg0 hne j; have v3 : ∀ j, w3.frozen? ⟨w.heap.size, j, none⟩ = wr.frozen? ⟨w.heap.size, j, none⟩ := fun j => (by (have h1 := hT3.block _ hg0 hne); simp only [World.frozen?, h1]); have HW3 := Lib.hid hW3; have HN3 := Lib.hid hN3; have HT3 := Lib.hid hT3; clear hW3 hN3 hT3)
      have g0 := (HT3.out.block _ hg0 hne).trans HZ2.out
      have g2 := heap_setCell_same _ _ 0 _ _ (Value.int .i64 0) g0
      have g3 := heap_setCell_same _ _ 1 _ _ (Value.int .i64 0) g2
      have g4 := heap_setCell_same _ _ 2 _ _ (Value.slice (some ⟨w.heap.size + 1 + 1, 0, none⟩) ops.length ops.length) g3
      have g5 := heap_setCell_same _ _ 3 _ _ (Value.slice a3 0 c3) g4
      have h7 : Step w w3 := Turn.step (hS.trans hT) HT3.out (fun b hb => by omega)
      refine bodyPost_ret (v := .agg #[.int .i64 0, .int .i64 0, .slice (some ⟨w.heap.size + 1 + 1, 0, none⟩) ops.length ops.length, .slice a3 0 c3]) (results_cell_row rfl _ _ _ _ #[.int .i64 0, .int .i64 0, .slice (some ⟨w.heap.size + 1 + 1, 0, none⟩) ops.length ops.length, .slice a3 0 c3] (0, 0) _ rfl g5 Tryz.underlying49 rfl (by kernel_rfl)) rfl ⟨_, _, _, rfl, rep_none HW3.out, ?_, ?_, ?_⟩
      · refine HN3.out.kept ?_
        rw [heap_setCell_other _ _ _ _ hne', heap_setCell_other _ _ _ _ hne', heap_setCell_other _ _ _ _ hne', heap_setCell_other _ _ _ _ hne']
      · have := HT3.out.size
        simp
        omega
      · exact (((h7.setCell (Nat.le_refl _) _).setCell (Nat.le_refl _) _).setCell (Nat.le_refl _) _).setCell (Nat.le_refl _) _
end Go.Proofs.YthflkfgiclcdiaaGreat
