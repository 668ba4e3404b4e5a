/-
  Walk: Join of one part whose one row is empty.
-/
import Derived.Test.YthflkfgiclcdiaaGreatC7
import Derived.Test.YthflkfgiclcdiaaGreatBrow
import Derived.Test.YthflkfgiclcdiaaGreatCut
namespace Go.Proofs.YthflkfgiclcdiaaGreat
open Go.Gr Go.RowKit
set_option linter.unusedSimpArgs false
section
variable {P : Program} {t e : TypeId} {n : Nat} {w : World} {A : Option Addr} {c : Nat}
theorem run_append_nil0 (ty : TypeId) (hT : SliceTy P t e n) : (Builtin.append_ #[t, t] ty #[.slice none 0 0, .slice A 0 c]).run P w = .ok (.slice none 0 0) w := by
  obtain ⟨ht, i, z, hi, _⟩ := hT
  rcases A with _ | A <;> simp [Builtin.append_, run_underlying ht, sizeOf, typeInfo, hi, Builtin.lenOf, Builtin.firstCells, loadCells, loadCellsFrom]
theorem wp_append_nil0 {o : Oper} {a : Act} {K : Act → World → Prop} {Q : Exit → Act → World → Prop} (s x : Operand)
    (ho : o.op = .call { callee := .builtin .append, args := #[s, x], argTypes := #[t, t] }) (hT : SliceTy P t e n) (hs : a.eval s = .slice none 0 0) (hx : a.eval x = .slice A 0 c) (h : K (a.put o.dst (.slice none 0 0)) w) : o.wp P a w K Q := by
  have hrun := run_append_nil0 (w := w) (A := A) (c := c) o.type hT
  unfold Oper.wp execOp
  simp only [ho, resolve, invoke, builtin, Sem.run_bind, Sem.run_pure, Result.andThen_ok, List.map_toArray, List.map_cons, List.map_nil, hs, hx, hrun]
  exact h
theorem wpList_append_nil0 {ops : Array Oper} {rest : List Oper} {o : Oper} {a : Act} {Q : Exit → Act → World → Prop} (hgd : o.guard = none) (s x : Operand)
    (ho : o.op = .call { callee := .builtin .append, args := #[s, x], argTypes := #[t, t] }) (hT : SliceTy P t e n) (hs : a.eval s = .slice none 0 0) (hx : a.eval x = .slice A 0 c) (h : wpList P ops Q rest (a.put o.dst (.slice none 0 0)) w) : wpList P ops Q (o :: rest) a w :=
  wpList_plain hgd fun _ hK => wp_append_nil0 s x ho hT hs hx (hK _ _ h)
end
set_option maxRecDepth 100000 in
set_option maxHeartbeats 8000000 in
theorem Join_one {w : World} {M M2 M3 : Nat → Prop} {v vp vo : Value} {ops : List DOp} {p : DPart} {at_ : Int} (h : (Ty.slice tOp).rep w M [v] ops) (hn1 : ops.length = 1) (hp : (Ty.slice tPart).rep w M2 [vp] [p]) (hix : p.index = [0]) (ho : (Ty.slice tOutcome).rep w M3 [vo] [⟨0, at_, [[]], []⟩]) :
    Calls Tryz.prog 50 #[v, vp, vo] w fun x w' => ∃ g a3 c3, x = .returned (.agg #[.int .i64 0, .int .i64 0, .slice (some ⟨g, 0, none⟩) 1 1, .slice a3 0 c3]) ∧ (Ty.slice tWrite).rep w' (fun _ => False) [.slice a3 0 c3] [] ∧ Nils w' g 1 ∧ (w.heap.size ≤ g ∧ g < w'.heap.size) ∧ Step w w' := by
  obtain ⟨a, c, rfl, _⟩ := Ty.slice_val h
  obtain ⟨pa, pc, rfl, _⟩ := Ty.slice_val hp
  obtain ⟨oa, oc, rfl, _⟩ := Ty.slice_val ho
  have H := Lib.hid h
  have hn : ops.length ≤ 1048576 := by omega
  obtain ⟨ob, oo, oes, rfl, ohb, _, ou, ocu⟩ := Ty.slice_at ho (k := 0) (by simp)
  simp only [List.getElem_cons_zero] at ou
  obtain ⟨oc2, oc3, rfl, oh0, oh1, oh2, oh3⟩ := ou
  obtain ⟨oa2, on2, rfl, _⟩ := Ty.slice_val oh2
  obtain ⟨oa3, on3, rfl, _⟩ := Ty.slice_val oh3
  have oq0 := ocu 0 _ rfl
  have oq1 := ocu 1 _ rfl
  have oq2 := ocu 2 _ rfl
  have oq3 := ocu 3 _ rfl
  simp only [show tOutcome.n = 4 from rfl, Nat.zero_mul, Nat.add_zero, List.length_cons, List.length_nil, Nat.zero_add] at oq0 oq1 oq2 oq3
  obtain ⟨rb, ro, ru, rfl, rhb, _, hru, hrc⟩ := Ty.slice_at1 rfl oh2 (k := 0) (by simp)
  simp only [List.getElem_cons_zero, Nat.add_zero] at hru hrc
  obtain ⟨ra, rc, rfl, _⟩ := Ty.slice_val hru
  simp only [List.length_nil] at hrc
  obtain ⟨pb, po, pes, rfl, phb, _, pu, pcu⟩ := Ty.slice_at hp (k := 0) (by simp)
  simp only [List.getElem_cons_zero] at pu
  obtain ⟨pc1, pc2, rfl, ph0, ph1, ph2⟩ := pu
  rw [hix] at ph2
  obtain ⟨ia, ic, rfl, _⟩ := Ty.slice_val ph2
  have pq2 := pcu 2 _ rfl
  simp only [show tPart.n = 3 from rfl, Nat.zero_mul, Nat.add_zero, List.length_cons, List.length_nil, Nat.zero_add] at pq2
  obtain ⟨ib, io, iu, rfl, ihb, _, hiu, hic⟩ := Ty.slice_at1 rfl ph2 (k := 0) (by simp)
  obtain rfl : iu = .int .i64 0 := by simpa using hiu.1
  simp only [Nat.add_zero] at hic
  clear h hp ho oh0 oh1 oh2 oh3 hru ph0 ph1 ph2 hiu ocu pcu
  simp only [List.length_cons, List.length_nil, Nat.zero_add]
  have hmc : madeCells #[Value.slice none 0 0] 1 = #[Value.slice none 0 0] := Array.ext' (by rw [toList_madeCells_one]; rfl)
  have hmk : ∀ W, (Instr.makeSlice 45 (.int .i64 1) (.int .i64 1)).run Tryz.prog W = .ok (.slice (some ⟨W.heap.size, 0, none⟩) 1 1) (W.alloc (.cells #[.slice none 0 0] 73)) := fun W => by
    have := made_rows 1 (by omega) W
    rwa [hmc] at this
  rw [hn1] at H ⊢
  go_enter Tryz.func50, Tryz.ntmps50
  go_wp2
  refine wp_code (fun wl => wl.heap[w.heap.size]? = some (.cells #[.int .i64 0, .int .i64 0, .slice none 0 0, .slice none 0 0] 49 (0, 0)) ∧ wl.heap[w.heap.size + 1]? = some (.cells #[.int .i64 0, .int .i64 0, .slice none 0 0, .slice none 0 0] 49 (0, 0)) ∧ wl.heap[w.heap.size + 1 + 1 + 1]? = some (.cells #[.int .i64 0, .int .i64 0, .slice (some ⟨w.heap.size + 1 + 1, 0, none⟩) 1 1, .slice none 0 0] 49 (0, 0)) ∧
      wl.heap[w.heap.size + 1 + 1]? = some (.cells #[.slice none 0 0] 73 (0, 0)) ∧ Step w wl ∧ wl.heap.size = w.heap.size + 1 + 1 + 1 + 1) ?_ ?_
  · refine ⟨?_, ?_, heap_alloc_at (by simp), ?_, by (repeat (first | exact Step.refl _ | refine Step.alloc ?_ _ | refine Step.drew ?_ | refine Step.drewN ?_ _ | refine Step.setCell ?_ (by first | exact Nat.le_refl _ | assumption | omega | (simp; done) | (simp; omega)) _ | assumption | refine Step.trans ?_ (by assumption : Step _ _))), by simp⟩
    · rw [Below.heap_alloc _ _ _ (by first | assumption | omega | (simp; done) | (simp; omega)), Below.heap_alloc _ _ _ (by first | assumption | omega | (simp; done) | (simp; omega)), Below.heap_alloc _ _ _ (by first | assumption | omega | (simp; done) | (simp; omega))]
      exact heap_alloc_at rfl
    · rw [Below.heap_alloc _ _ _ (by first | assumption | omega | (simp; done) | (simp; omega)), Below.heap_alloc _ _ _ (by first | assumption | omega | (simp; done) | (simp; omega))]
      exact heap_alloc_at (by simp)
    · rw [Below.heap_alloc _ _ _ (by first | assumption | omega | (simp; done) | (simp; omega))]
      exact heap_alloc_at (by simp)
  rintro wl ⟨hz, hy, hb, hg, hS, hsz0⟩
  have HY := Lib.hid hy
  clear hy
  have HZ := Lib.hid hz
  have HB := Lib.hid hb
  have HG := Lib.hid hg
  have HS := Lib.hid hS
  clear hz hb hg hS
  generalize hW : w.heap.size + 1 + 1 = G at *
  generalize hO : G + 1 = O at *
  go_loopw [23] (fun i w' => ∃ k : Nat, i = .int .i64 k ∧ k ≤ 1 ∧ Hid (w'.heap[O]? = some (.cells #[.int .i64 0, .int .i64 0, .slice (some ⟨G, 0, none⟩) 1 1, .slice none 0 0] 49 (0, 0))) ∧ Hid (w'.heap[G]? = some (.cells #[.slice none 0 0] 73 (0, 0))) ∧ Turn (fun b => b = O ∨ b = G) wl w') (fun i _ => 1 - (Go.RowKit.intOf i).toNat)
  case atStart => exact ⟨0, rfl, by omega, HB, HG, Turn.refl _ _⟩
  case round =>
    obtain ⟨k, rfl, hk, hb, hg, hT⟩ := hrel
    have hszr := hT.size
    by_cases hlt : k < 1
    · obtain rfl : k = 0 := by omega
      have hSr : Step w wr := Turn.step HS.out hT (fun b hb => by omega)
      have q0 := (hSr.cell ohb oo).trans oq0
      have q1 := (hSr.cell ohb (oo + 1)).trans oq1
      have q2 := (hSr.cell ohb (oo + 2)).trans oq2
      have q3 := (hSr.cell ohb (oo + 3)).trans oq3
      have z2 := (hSr.cell phb (po + 2)).trans pq2
      have b3 : wr.cell? ⟨O, 3, none⟩ = some (.slice none 0 0) := cell_of_row wr _ 3 _ _ (0, 0) hb.out
      have f3 : wr.frozen? ⟨O, 3, none⟩ = false := frozen_of_row wr _ 3 _ _ hb.out
      have hOl : O < wr.heap.size := by omega
      have hpl : pb < wr.heap.size := by omega
      have hpO : ¬ pb = O := by omega
      obtain ⟨wo, hwo⟩ : ∃ x, x = wr := ⟨_, rfl⟩
      subst hwo
      go_wp2_with (at_builtin; refine wpList_append_nil0 rfl (.tmp 72) (.tmp 74) rfl stWrites rfl rfl ?_)
      have hb2 := heap_setCell_same _ _ 3 _ _ (Value.slice none 0 0) hb.out
      have hGl : G < wo.heap.size := by omega
      have hOG : ¬ G = O := by omega
      have hOW : ¬ wo.heap.size = O := by omega
      refine wp_code (fun wx => wx.heap[O]? = some (.cells #[.int .i64 0, .int .i64 0, .slice (some ⟨G, 0, none⟩) 1 1, .slice none 0 0] 49 (0, 0)) ∧ wx.heap[G]? = some (.cells #[.slice none 0 0] 73 (0, 0)) ∧
          wx.cell? ⟨wo.heap.size, 2, none⟩ = some (.slice (some ⟨rb, ro, none⟩) 1 on2) ∧ wo.heap.size < wx.heap.size ∧ Turn (fun b => b = O ∨ b = G) wl wx) ⟨(Below.heap_alloc _ _ _ (by simpa using hOl)).trans hb2, ?_, ?_, by simp, ?_⟩ ?_
      · rw [Below.heap_alloc _ _ _ (by simpa using hGl), heap_setCell_other _ _ _ _ hOG]
        exact hg.out
      · rw [cell_of_row _ _ 2 _ _ (0, 0) (heap_alloc_at (by simp))]
        rfl
      · exact (hT.setCell (p := ⟨O, 3, none⟩) (fun _ => .inl rfl) _).alloc _
      rintro wx ⟨xb, xg, xo, xw, xT⟩
      have XB := Lib.hid xb
      have XG := Lib.hid xg
      have xTT := Lib.hid xT
      have hSx : Step w wx := Turn.step HS.out xT (fun b hb => by omega)
      have y2 := (hSx.cell phb (po + 2)).trans pq2
      clear xb xg xT q0 q1 q2 q3 z2 b3 f3 hb hg hb2 hT
      go_wp2
      go_loopw [83] (fun i w' => ∃ m : Nat, i = .int .i64 m ∧ m ≤ 1 ∧ Hid (w'.heap[O]? = some (.cells #[.int .i64 0, .int .i64 0, .slice (some ⟨G, 0, none⟩) 1 1, .slice none 0 0] 49 (0, 0))) ∧ Hid (w'.heap[G]? = some (.cells #[.slice none 0 0] 73 (0, 0))) ∧ Turn (fun b => b = O ∨ b = G) wx w') (fun i _ => 1 - (Go.RowKit.intOf i).toNat)
      case atStart => exact ⟨0, rfl, by omega, XB, XG, Turn.refl _ _⟩
      case round =>
        obtain ⟨m, rfl, hm, hb, hg, hT⟩ := hrel
        have hszx := hT.size
        by_cases hlm : m < 1
        · obtain rfl : m = 0 := by omega
          have hSr : Step w wr := Turn.step hSx hT (fun b hb => by omega)
          have q2 : wr.cell? ⟨wo.heap.size, 2, none⟩ = some (.slice (some ⟨rb, ro, none⟩) 1 on2) := (hT.cell xw (by omega) 2).trans xo
          have z1 := (hSr.cell ihb io).trans hic
          have r1 := (hSr.cell rhb ro).trans hrc
          have b2 : wr.cell? ⟨O, 2, none⟩ = some (.slice (some ⟨G, 0, none⟩) 1 1) := cell_of_row wr _ 2 _ _ (0, 0) hb.out
          have g0 : wr.cell? ⟨G, 0, none⟩ = some (.slice none 0 0) := cell_of_row wr _ 0 _ _ (0, 0) hg.out
          have gf : wr.frozen? ⟨G, 0, none⟩ = false := frozen_of_row wr _ 0 _ _ hg.out
          go_wp2
          refine wp_region_cut (S := (fun w' => w'.cell? ⟨O, 2, none⟩ = some (.slice (some ⟨G, 0, none⟩) 1 1) ∧ w'.cell? ⟨G, 0, none⟩ = some (.slice none 0 0) ∧ w'.frozen? ⟨G, 0, none⟩ = false ∧ w'.cell? ⟨wo.heap.size, 2, none⟩ = some (.slice (some ⟨rb, ro, none⟩) 1 on2) ∧ w'.cell? ⟨rb, ro, none⟩ = some (.slice ra 0 rc))) 15 (by kernel_rfl) ?_ (fun hHeld => ?_)
          · (go_keep)
          refine wpAnyC_take (i := 0) (v := ?_) rfl (by kernel_rfl) (by kernel_rfl) (by kernel_rfl) (by decide) [1, 14, 15] (by kernel_rfl) (fun _ _ _ h => h) (Or.inl ⟨by rfl, ?_⟩) (by assumption) ?_
          rotate_left 1
          · (intro w hSw; (try dsimp only at hSw); go_simp; (try with_reducible rfl))
          try simp only [Act.put, List.getElem_toArray, List.getElem_cons_succ, List.getElem_cons_zero, List.setIfInBounds_toArray, List.set_cons_zero, List.set_cons_succ]
          refine wpAnyC_take (i := 1) (v := ?_) rfl (by kernel_rfl) (by kernel_rfl) (by kernel_rfl) (by decide) [14, 15] (by kernel_rfl) (fun _ _ _ h => h) (Or.inl ⟨by rfl, ?_⟩) (by assumption) ?_
          rotate_left 1
          · (intro w hSw; (try dsimp only at hSw); go_simp; (try with_reducible rfl))
          try simp only [Act.put, List.getElem_toArray, List.getElem_cons_succ, List.getElem_cons_zero, List.setIfInBounds_toArray, List.set_cons_zero, List.set_cons_succ]
          refine wpAnyC_take (i := 2) (v := ?_) rfl (by kernel_rfl) (by kernel_rfl) (by kernel_rfl) (by decide) [14, 15] (by kernel_rfl) (fun _ _ _ h => h) (Or.inl ⟨by rfl, ?_⟩) (by assumption) ?_
          rotate_left 1
          · (intro w hSw; (try dsimp only at hSw); go_simp; (try with_reducible rfl))
          try simp only [Act.put, List.getElem_toArray, List.getElem_cons_succ, List.getElem_cons_zero, List.setIfInBounds_toArray, List.set_cons_zero, List.set_cons_succ]
          refine wpAnyC_take (i := 3) (v := ?_) rfl (by kernel_rfl) (by kernel_rfl) (by kernel_rfl) (by decide) [4, 6, 7, 13, 14, 15] (by kernel_rfl) (fun _ _ _ h => h) (Or.inl ⟨by rfl, ?_⟩) (by assumption) ?_
          rotate_left 1
          · (intro w hSw; (try dsimp only at hSw); go_simp; (try with_reducible rfl))
          try simp only [Act.put, List.getElem_toArray, List.getElem_cons_succ, List.getElem_cons_zero, List.setIfInBounds_toArray, List.set_cons_zero, List.set_cons_succ]
          refine wpAnyC_take (i := 4) (v := ?_) rfl (by kernel_rfl) (by kernel_rfl) (by kernel_rfl) (by decide) [6, 7, 13, 14, 15] (by kernel_rfl) (fun _ _ _ h => h) (Or.inl ⟨by rfl, ?_⟩) (by assumption) ?_
          rotate_left 1
          · (intro w hSw; (try dsimp only at hSw); go_simp; (try with_reducible rfl))
          try simp only [Act.put, List.getElem_toArray, List.getElem_cons_succ, List.getElem_cons_zero, List.setIfInBounds_toArray, List.set_cons_zero, List.set_cons_succ]
          refine wpAnyC_take (i := 5) (v := ?_) rfl (by kernel_rfl) (by kernel_rfl) (by kernel_rfl) (by decide) [6, 7, 13, 14, 15] (by kernel_rfl) (fun _ _ _ h => h) (Or.inl ⟨by rfl, ?_⟩) (by assumption) ?_
          rotate_left 1
          · (intro w hSw; (try dsimp only at hSw); go_simp; (try with_reducible rfl))
          try simp only [Act.put, List.getElem_toArray, List.getElem_cons_succ, List.getElem_cons_zero, List.setIfInBounds_toArray, List.set_cons_zero, List.set_cons_succ]
          refine wpAnyC_take (i := 6) (v := ?_) rfl (by kernel_rfl) (by kernel_rfl) (by kernel_rfl) (by decide) [7, 13, 14, 15] (by kernel_rfl) (fun _ _ _ h => h) (Or.inl ⟨by rfl, ?_⟩) (by assumption) ?_
          rotate_left 1
          · (intro w hSw; (try dsimp only at hSw); go_simp; (try with_reducible rfl))
          try simp only [Act.put, List.getElem_toArray, List.getElem_cons_succ, List.getElem_cons_zero, List.setIfInBounds_toArray, List.set_cons_zero, List.set_cons_succ]
          refine wpAnyC_take (i := 7) (v := ?_) rfl (by kernel_rfl) (by kernel_rfl) (by kernel_rfl) (by decide) [13, 14, 15] (by kernel_rfl) (fun _ _ _ h => h) (Or.inl ⟨by rfl, ?_⟩) (by assumption) ?_
          rotate_left 1
          · (intro w hSw; (try dsimp only at hSw); go_simp; (try with_reducible rfl))
          try simp only [Act.put, List.getElem_toArray, List.getElem_cons_succ, List.getElem_cons_zero, List.setIfInBounds_toArray, List.set_cons_zero, List.set_cons_succ]
          refine wpAnyC_take (i := 8) (v := ?_) rfl (by kernel_rfl) (by kernel_rfl) (by kernel_rfl) (by decide) [9, 11, 12, 13, 14, 15] (by kernel_rfl) (fun _ _ _ h => h) (Or.inl ⟨by rfl, ?_⟩) (by assumption) ?_
          rotate_left 1
          · (intro w hSw; (try dsimp only at hSw); go_simp; (try with_reducible rfl))
          try simp only [Act.put, List.getElem_toArray, List.getElem_cons_succ, List.getElem_cons_zero, List.setIfInBounds_toArray, List.set_cons_zero, List.set_cons_succ]
          refine wpAnyC_take (i := 9) (v := ?_) rfl (by kernel_rfl) (by kernel_rfl) (by kernel_rfl) (by decide) [11, 12, 13, 14, 15] (by kernel_rfl) (fun _ _ _ h => h) (Or.inl ⟨by rfl, ?_⟩) (by assumption) ?_
          rotate_left 1
          · (intro w hSw; (try dsimp only at hSw); go_simp; (try with_reducible rfl))
          try simp only [Act.put, List.getElem_toArray, List.getElem_cons_succ, List.getElem_cons_zero, List.setIfInBounds_toArray, List.set_cons_zero, List.set_cons_succ]
          refine wpAnyC_take (i := 10) (v := ?_) rfl (by kernel_rfl) (by kernel_rfl) (by kernel_rfl) (by decide) [11, 12, 13, 14, 15] (by kernel_rfl) (fun _ _ _ h => h) (Or.inl ⟨by rfl, ?_⟩) (by assumption) ?_
          rotate_left 1
          · (intro w hSw; (try dsimp only at hSw); go_simp; (try with_reducible rfl))
          try simp only [Act.put, List.getElem_toArray, List.getElem_cons_succ, List.getElem_cons_zero, List.setIfInBounds_toArray, List.set_cons_zero, List.set_cons_succ]
          refine wpAnyC_take (i := 11) (v := ?_) rfl (by kernel_rfl) (by kernel_rfl) (by kernel_rfl) (by decide) [12, 13, 14, 15] (by kernel_rfl) (fun _ _ _ h => h) (Or.inl ⟨by rfl, ?_⟩) (by assumption) ?_
          rotate_left 1
          · (intro w hSw; (try dsimp only at hSw); go_simp; (try with_reducible rfl))
          try simp only [Act.put, List.getElem_toArray, List.getElem_cons_succ, List.getElem_cons_zero, List.setIfInBounds_toArray, List.set_cons_zero, List.set_cons_succ]
          refine wpAnyC_take (i := 12) (v := ?_) rfl (by kernel_rfl) (by kernel_rfl) (by kernel_rfl) (by decide) [13, 14, 15] (by kernel_rfl) (fun _ _ _ h => h) (Or.inl ⟨by rfl, ?_⟩) (by assumption) ?_
          rotate_left 1
          · (intro w hSw; (try dsimp only at hSw); go_simp; (try with_reducible rfl))
          try simp only [Act.put, List.getElem_toArray, List.getElem_cons_succ, List.getElem_cons_zero, List.setIfInBounds_toArray, List.set_cons_zero, List.set_cons_succ]
          refine wpAnyC_ready (rs := [13]) (by kernel_rfl) (by simp) ?_
          refine AllReadyC.cons rfl (by decide) (fun K hK => ?_) AllReadyC.nil
          try simp only [List.getElem_toArray, List.getElem_cons_succ, List.getElem_cons_zero]
          refine ite_then rfl ?_; refine wp_append_nil0 (.tmp 110) (.tmp 115) rfl stPairs rfl rfl ?_
          refine hK.out _ _ ?_ (fun hHeld => ?_)
          · (go_keep)
          clear hK K
          try simp only [Act.put, List.getElem_toArray, List.getElem_cons_succ, List.getElem_cons_zero, List.setIfInBounds_toArray, List.set_cons_zero, List.set_cons_succ]
          refine wpAnyC_take (i := 14) (v := ?_) rfl (by kernel_rfl) (by kernel_rfl) (by kernel_rfl) (by decide) [15] (by kernel_rfl) (fun _ _ _ h => h) (Or.inl ⟨by rfl, ?_⟩) (by assumption) ?_
          rotate_left 1
          · (intro w hSw; (try dsimp only at hSw); go_simp; (try with_reducible rfl))
          try simp only [Act.put, List.getElem_toArray, List.getElem_cons_succ, List.getElem_cons_zero, List.setIfInBounds_toArray, List.set_cons_zero, List.set_cons_succ]
          refine wpAnyC_ready (rs := [15]) (by kernel_rfl) (by simp) ?_
          refine AllReadyC.cut rfl (fun K hK => ?_)
          try simp only [List.getElem_toArray, List.getElem_cons_succ, List.getElem_cons_zero]
          go_simp
          refine hK.out _ _ trivial (fun hHeld => ?_)
          clear hK K
          try simp only [Act.put, List.getElem_toArray, List.getElem_cons_succ, List.getElem_cons_zero, List.setIfInBounds_toArray, List.set_cons_zero, List.set_cons_succ]
          have hTrue : True := trivial
          refine wpAnyH_done (by kernel_rfl) ?_ _
          go_wp2
          go_roundw
          case rel => exact ⟨1, by go_num, by omega, Lib.hid ((heap_setCell_other _ _ _ _ (show O ≠ G by omega)).trans hb.out), Lib.hid (heap_setCell_same _ _ 0 _ _ (Value.slice none 0 0) hg.out), (hT.setCell (p := ⟨G, 0, none⟩) (fun _ => .inr rfl) _).drew⟩
          case measure => simp [Go.RowKit.intOf]
        · obtain rfl : m = 1 := by omega
          have HT2 := Lib.hid (xTT.out.trans hT)
          go_wp2
          go_roundw
          case rel => exact ⟨1, by go_num, by omega, hb, hg, HT2.out⟩
          case measure => simp [Go.RowKit.intOf]
    · obtain rfl : k = 1 := by omega
      have hSr : Step w wr := Turn.step HS.out hT (fun b hb => by omega)
      have hzz := (hT.block w.heap.size (by omega) (by omega)).trans HZ.out
      have z0 : wr.cell? ⟨w.heap.size + 1, 0, none⟩ = some (.int .i64 0) := cell_of_row wr _ 0 _ _ (0, 0) ((hT.block (w.heap.size + 1) (by omega) (by omega)).trans HY.out)
      have HN : Hid (Nils wr G 1) := Lib.hid (fun i hi => by
        obtain rfl : i = 0 := by omega
        exact ⟨⟨_, cell_of_row wr _ 0 _ _ (0, 0) hg.out, nil_of⟩, frozen_of_row wr _ 0 _ _ hg.out⟩)
      have HZ := Lib.hid hzz
      have HB := hb
      have hS := hSr
      have hGl : G < wr.heap.size := by omega
      have hszq : w.heap.size + 4 ≤ wr.heap.size := by omega
      clear hg hb hT hSr hzz hszr hsz0 HS HG oq0 oq1 oq2 oq3 hrc pq2 hic
      obtain ⟨wl, hwl⟩ : ∃ x, x = wr := ⟨_, rfl⟩
      subst hwl
      go_wp2
      clear z0
      go_loopw [14, 15, 126] (fun _ _ i w' => ∃ k : Nat, i = .int .i64 k ∧ k ≤ 1 ∧ Step wl w') (fun _ _ i _ => 1 - (Go.RowKit.intOf i).toNat)
      case atStart => exact ⟨0, rfl, by omega, Step.refl _⟩
      case round =>
        obtain ⟨k, rfl, hk, hT⟩ := hrel
        have hsz := hT.size
        by_cases hlt : k < 1
        · have hlv : k < ops.length := by omega
          obtain ⟨eb, eo, ees, rfl, ehb, _, eu, ecu⟩ := Ty.slice_at H.out hlv
          obtain ⟨ec1, ec2, rfl, eh0, eh1, eh2, eh3⟩ := eu
          have eq0 := (Step.cell (w' := wr) (by (repeat (first | exact Step.refl _ | refine Step.alloc ?_ _ | refine Step.drew ?_ | refine Step.drewN ?_ _ | refine Step.setCell ?_ (by first | exact Nat.le_refl _ | assumption | omega | (simp; done) | (simp; omega)) _ | assumption | refine Step.trans ?_ (by assumption : Step _ _)))) ehb _).trans (ecu 0 _ rfl)
          have eq1 := (Step.cell (w' := wr) (by (repeat (first | exact Step.refl _ | refine Step.alloc ?_ _ | refine Step.drew ?_ | refine Step.drewN ?_ _ | refine Step.setCell ?_ (by first | exact Nat.le_refl _ | assumption | omega | (simp; done) | (simp; omega)) _ | assumption | refine Step.trans ?_ (by assumption : Step _ _)))) ehb _).trans (ecu 1 _ rfl)
          have eq2 := (Step.cell (w' := wr) (by (repeat (first | exact Step.refl _ | refine Step.alloc ?_ _ | refine Step.drew ?_ | refine Step.drewN ?_ _ | refine Step.setCell ?_ (by first | exact Nat.le_refl _ | assumption | omega | (simp; done) | (simp; omega)) _ | assumption | refine Step.trans ?_ (by assumption : Step _ _)))) ehb _).trans (ecu 2 _ rfl)
          have eq3 := (Step.cell (w' := wr) (by (repeat (first | exact Step.refl _ | refine Step.alloc ?_ _ | refine Step.drew ?_ | refine Step.drewN ?_ _ | refine Step.setCell ?_ (by first | exact Nat.le_refl _ | assumption | omega | (simp; done) | (simp; omega)) _ | assumption | refine Step.trans ?_ (by assumption : Step _ _)))) ehb _).trans (ecu 3 _ rfl)
          simp only [show tOp.n = 4 from rfl, Nat.add_zero] at eq0 eq1 eq2 eq3
          obtain ⟨ea1, en1, rfl, _⟩ := Ty.slice_val eh1
          obtain ⟨ea2, en2, rfl, _⟩ := Ty.slice_val eh2
          have eH0 := Lib.hid eh0
          have eH1 := Lib.hid eh1
          have eH2 := Lib.hid eh2
          have eH3 := Lib.hid eh3
          clear ecu eh0 eh1 eh2 eh3
          have hb := (hT.heap (by omega)).trans HB.out
          obtain ⟨⟨v, qv, hv⟩, _⟩ := (HN.out.step (by omega) hT) k hlt
          obtain ⟨va, vc, rfl, _⟩ := Ty.slice_val hv
          simp only [List.length_nil] at qv
          have p2 : wr.cell? ⟨O, 2, none⟩ = some (.slice (some ⟨G, 0, none⟩) 1 1) := cell_of_row wr _ 2 _ _ (0, 0) hb
          clear hb hv
          have hw3 : O < wr.heap.size := by omega
          have hw2 : G < wr.heap.size := by omega
          go_upto_region 26 with fail
          generalize ops[k].kind = kd at *
          generalize ops[k].most = mo at *
          refine wp_code (fun wx => Step wr wx ∧ wx.cell? ⟨wr.heap.size, 0, none⟩ = some (.int .i64 kd) ∧ wx.cell? ⟨wr.heap.size, 3, none⟩ = some (.int .i64 mo)) ⟨by (repeat (first | exact Step.refl _ | refine Step.alloc ?_ _ | refine Step.drew ?_ | refine Step.drewN ?_ _ | refine Step.setCell ?_ (by first | exact Nat.le_refl _ | assumption | omega | (simp; done) | (simp; omega)) _ | assumption | refine Step.trans ?_ (by assumption : Step _ _))), by simp, by simp⟩ ?_
          rintro wx ⟨hX, x0, x3⟩
          have p2x := (hX.cell hw3 2).trans p2
          have qvx := (hX.cell hw2 k).trans qv
          have hmx : (0 : Int) ≤ max mo 0 := by omega
          have hTx := hT.trans hX
          clear p2 qv eq0 eq1 eq2 eq3 hX
          have hlast : ∀ n, Step wl (wx.drewN n) := fun n => hTx.drewN n
          have HT := Lib.hid hlast
          clear hlast hT hTx
          cases hkd : (kd == 4)
          · go_quiet (fail)
            go_wp2
            go_roundw
            case rel => exact ⟨k + 1, by go_num, by omega, HT.out _⟩
            case measure => simp [Go.RowKit.intOf]; omega
          · go_quiet (fail)
            go_wp2
            go_roundw
            case rel => exact ⟨k + 1, by go_num, by omega, HT.out _⟩
            case measure => simp [Go.RowKit.intOf]; omega
        · obtain rfl : k = 1 := by omega
          have hb := (hT.heap (by omega)).trans HB.out
          have hz := (hT.heap (by omega)).trans HZ.out
          have HN2 := Lib.hid (HN.out.step (by omega) hT)
          have p0 : wr.cell? ⟨O, 0, none⟩ = some (.int .i64 0) := cell_of_row wr _ 0 _ _ (0, 0) hb
          have p1 : wr.cell? ⟨O, 1, none⟩ = some (.int .i64 0) := cell_of_row wr _ 1 _ _ (0, 0) hb
          have p2 : wr.cell? ⟨O, 2, none⟩ = some (.slice (some ⟨G, 0, none⟩) 1 1) := cell_of_row wr _ 2 _ _ (0, 0) hb
          have p3 : wr.cell? ⟨O, 3, none⟩ = some (.slice none 0 0) := cell_of_row wr _ 3 _ _ (0, 0) hb
          have z0 : wr.cell? ⟨w.heap.size, 0, none⟩ = some (.int .i64 0) := cell_of_row wr _ 0 _ _ (0, 0) hz
          have y0 : wr.frozen? ⟨w.heap.size, 0, none⟩ = false := frozen_of_row wr _ 0 _ _ hz
          have z1 : wr.cell? ⟨w.heap.size, 1, none⟩ = some (.int .i64 0) := cell_of_row wr _ 1 _ _ (0, 0) hz
          have y1 : wr.frozen? ⟨w.heap.size, 1, none⟩ = false := frozen_of_row wr _ 1 _ _ hz
          have z2 : wr.cell? ⟨w.heap.size, 2, none⟩ = some (.slice none 0 0) := cell_of_row wr _ 2 _ _ (0, 0) hz
          have y2 : wr.frozen? ⟨w.heap.size, 2, none⟩ = false := frozen_of_row wr _ 2 _ _ hz
          have z3 : wr.cell? ⟨w.heap.size, 3, none⟩ = some (.slice none 0 0) := cell_of_row wr _ 3 _ _ (0, 0) hz
          have y3 : wr.frozen? ⟨w.heap.size, 3, none⟩ = false := frozen_of_row wr _ 3 _ _ hz
          have HZ2 := Lib.hid hz
          clear hb hz
          have hg0 : w.heap.size < wr.heap.size := by omega
          have hg2 : G < wr.heap.size := by omega
          have hne : ¬ w.heap.size = G := by omega
          have hne' : ¬ G = w.heap.size := by omega
          go_wp2_with (go_at_call 94; refine (own_nil hg2 (show (1 : Nat) ≤ 1048576 by omega) HN2.out).mono ?_; rintro e w3 ⟨a3, c3, rfl, hW3, hN3, hT3⟩; have x3 : ∀ j, w3.cell? ⟨w.heap.size, j, none⟩ = wr.cell? ⟨w.heap.size, j, none⟩ := fun j => hT3.cell hg0 hne j; have v3 : ∀ j, w3.frozen? ⟨w.heap.size, j, none⟩ = wr.frozen? ⟨w.heap.size, j, none⟩ := fun j => (by (have h1 := hT3.block _ hg0 hne); simp only [World.frozen?, h1]); have HW3 := Lib.hid hW3; have HN3 := Lib.hid hN3; have HT3 := Lib.hid hT3; clear hW3 hN3 hT3)
          have g0 := (HT3.out.block _ hg0 hne).trans HZ2.out
          have g2 := heap_setCell_same _ _ 0 _ _ (Value.int .i64 0) g0
          have g3 := heap_setCell_same _ _ 1 _ _ (Value.int .i64 0) g2
          have g4 := heap_setCell_same _ _ 2 _ _ (Value.slice (some ⟨G, 0, none⟩) 1 1) g3
          have g5 := heap_setCell_same _ _ 3 _ _ (Value.slice a3 0 c3) g4
          have h7 : Step w w3 := Turn.step (hS.trans hT) HT3.out (fun b hb => by omega)
          refine bodyPost_ret (v := .agg #[.int .i64 0, .int .i64 0, .slice (some ⟨G, 0, none⟩) 1 1, .slice a3 0 c3]) (results_cell_row rfl _ _ _ _ #[.int .i64 0, .int .i64 0, .slice (some ⟨G, 0, none⟩) 1 1, .slice a3 0 c3] (0, 0) _ rfl g5 Tryz.underlying49 rfl (by kernel_rfl)) rfl ⟨_, _, _, rfl, rep_none HW3.out, ?_, ⟨by omega, ?_⟩, ?_⟩
          · refine HN3.out.kept ?_
            rw [heap_setCell_other _ _ _ _ hne', heap_setCell_other _ _ _ _ hne', heap_setCell_other _ _ _ _ hne', heap_setCell_other _ _ _ _ hne']
          · have := HT3.out.size
            simp
            omega
          · exact (((h7.setCell (Nat.le_refl _) _).setCell (Nat.le_refl _) _).setCell (Nat.le_refl _) _).setCell (Nat.le_refl _) _
end Go.Proofs.YthflkfgiclcdiaaGreat
