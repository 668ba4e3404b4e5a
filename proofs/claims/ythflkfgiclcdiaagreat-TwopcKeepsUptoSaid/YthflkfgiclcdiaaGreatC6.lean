/-
  Walks: sorted at none; own and Join where all rows are empty.
-/
import Derived.Test.YthflkfgiclcdiaaGreatC5
import Derived.Test.YthflkfgiclcdiaaGreatW19
import Derived.Test.YthflkfgiclcdiaaGreatSortF
namespace Go.Proofs.YthflkfgiclcdiaaGreat
open Go.Gr Go.RowKit
set_option linter.unusedSimpArgs false
theorem sorted_none (w : World) (p : Option Addr) (c : Nat) : Calls Tryz.prog 120 #[.slice p 0 c] w fun e w' => e = .returned (.slice p 0 c) ∧ w' = w := by
  have hS := fun W => AnyF.slices_SortFunc_none (P := Tryz.prog) (ρ := Tryz.sortF_ren) { Tryz.sortF with } p c (.func (.func 143) #[] #[]) W
  go_enter Tryz.func120, Tryz.ntmps120
  go_wp2_with (go_at_call 142; refine (show Calls Tryz.prog 142 _ _ _ from hS _).mono ?_; rintro e w1 ⟨rfl, rfl⟩)
  go_ret
  exact ⟨rfl, rfl⟩
theorem nil_of {α : Type} {E : Ty α} {w : World} {M : Nat → Prop} : (Ty.slice E).rep w M [.slice none 0 0] [] := ⟨none, 0, rfl, Nat.le_refl _, by simp [maxLen], by simp [lim_eq], fun h => absurd h (by simp)⟩
/-- The first n cells of block g are empty rows. -/
def Nils (w : World) (g n : Nat) : Prop := ∀ i, i < n → (∃ v, w.cell? ⟨g, i, none⟩ = some v ∧ (Ty.slice tPair).rep w (fun _ => False) [v] []) ∧ w.frozen? ⟨g, i, none⟩ = false
theorem rep_none {α : Type} {E : Ty α} {w w' : World} {M M' : Nat → Prop} {v : Value} (h : (Ty.slice E).rep w M [v] []) : (Ty.slice E).rep w' M' [v] [] := by
  obtain ⟨a, c, h1, h2, h3, h4, _⟩ := h
  exact ⟨a, c, h1, h2, h3, h4, fun h => by simp at h⟩
theorem Nils.kept {w w' : World} {g n : Nat} (h : Nils w g n) (hb : w'.heap[g]? = w.heap[g]?) : Nils w' g n := fun i hi => by
  obtain ⟨⟨v, h1, h2⟩, h3⟩ := h i hi
  exact ⟨⟨v, (cell_eq hb).trans h1, rep_none h2⟩, by simp only [World.frozen?, hb]; exact h3⟩
theorem Nils.step {w w' : World} {g n : Nat} (h : Nils w g n) (hg : g < w.heap.size) (hb : Step w w') : Nils w' g n := h.kept (hb.heap hg)
theorem Nils.set {w : World} {g n k : Nat} {v : Value} (h : Nils w g n) (hk : k < n) (hv : (Ty.slice tPair).rep w (fun _ => False) [v] []) : Nils (w.setCell ⟨g, k, none⟩ v) g n := fun i hi => by
  obtain ⟨⟨v1, h1, h2⟩, h3⟩ := h i hi
  refine ⟨?_, by simpa using h3⟩
  by_cases hik : i = k
  · subst hik
    exact ⟨v, World.cell?_setCell_same _ _ _ h1, rep_none hv⟩
  · exact ⟨v1, by rw [World.cell?_setCell_other (h := fun hh => by injection hh; omega)]; exact h1, rep_none h2⟩
set_option maxRecDepth 100000 in
set_option maxHeartbeats 4000000 in
theorem own_nil {w : World} {g n c : Nat} {e a : Int} (hg : g < w.heap.size) (hn : n ≤ 1048576) (h : Nils w g n) :
    Calls Tryz.prog 94 #[.agg #[.int .i64 e, .int .i64 a, .slice (some ⟨g, 0, none⟩) n c, .slice none 0 0]] w fun x w' => ∃ a3 c3, x = .returned (.agg #[.int .i64 e, .int .i64 a, .slice (some ⟨g, 0, none⟩) n c, .slice a3 0 c3]) ∧ (Ty.slice tWrite).rep w' (fun _ => False) [.slice a3 0 c3] [] ∧ Nils w' g n ∧ Turn (· = g) w w' := by
  have H := Lib.hid h
  clear h
  go_enter Tryz.func94, Tryz.ntmps94
  go_wp2
  refine wp_code (fun wl => wl.heap[w.heap.size]? = some (.cells #[.int .i64 e, .int .i64 a, .slice (some ⟨g, 0, none⟩) n c, .slice none 0 0] 49 (0, 0)) ∧ wl.heap[w.heap.size + 1]? = some (.cells #[.int .i64 0, .int .i64 0, .slice none 0 0, .slice none 0 0] 49 (0, 0)) ∧ Step w wl) ?_ ?_
  · refine ⟨?_, heap_alloc_at (by simp), by (repeat (first | exact Step.refl _ | refine Step.alloc ?_ _ | refine Step.drew ?_ | refine Step.drewN ?_ _ | refine Step.setCell ?_ (by first | exact Nat.le_refl _ | assumption | omega | (simp; done) | (simp; omega)) _ | assumption | refine Step.trans ?_ (by assumption : Step _ _)))⟩
    rw [Below.heap_alloc _ _ _ (by simp)]
    exact heap_alloc_at rfl
  rintro wl ⟨hbx, hzx, hS⟩
  have hl1 := (Array.getElem?_eq_some_iff.1 hzx).1
  have hl0 : w.heap.size < wl.heap.size := by omega
  have HBX := Lib.hid hbx
  have HZX := Lib.hid hzx
  have hgl : g < wl.heap.size := by omega
  have hgb : Hid (g ≠ w.heap.size) := Lib.hid (by omega)
  have hgz : Hid (g ≠ w.heap.size + 1) := Lib.hid (by omega)
  clear hbx hzx
  go_loopw [3, 4, 12] (fun _ _ i w' => ∃ k : Nat, i = .int .i64 k ∧ k ≤ n ∧ Nils w' g n ∧ Turn (· = g) wl w') (fun _ _ i _ => n - (Go.RowKit.intOf i).toNat)
  case atStart => exact ⟨0, rfl, by omega, H.out.step hg hS, Turn.refl _ _⟩
  case round =>
    obtain ⟨k, rfl, hk, hN, hT⟩ := hrel
    have HT := Lib.hid hT
    have HN := Lib.hid hN
    have hsz := hT.size
    have hb2 := (hT.block w.heap.size hl0 hgb.out.symm).trans HBX.out
    have p2 : wr.cell? ⟨w.heap.size, 2, none⟩ = some (.slice (some ⟨g, 0, none⟩) n c) := cell_of_row wr _ 2 _ _ (0, 0) hb2
    have HB2 := Lib.hid hb2
    clear hT hN hb2
    by_cases hlt : k < n
    · obtain ⟨⟨v, qv, hv⟩, qf⟩ := HN.out k hlt
      obtain ⟨va, vc, rfl, _⟩ := Ty.slice_val hv
      have HV := Lib.hid hv
      have hne : ¬ g = w.heap.size := hgb.out
      clear hv
      simp only [List.length_nil] at HV qv
      go_wp2
      refine wp_region_held_drew (S := (fun w' => w'.cell? ⟨w.heap.size, 2, none⟩ = some (.slice (some ⟨g, 0, none⟩) n c))) (by kernel_rfl) ?_ (fun hHeld => ?_)
      · (go_keep)
      refine wpAnyH_take (i := 0) (v := ?_) rfl (by kernel_rfl) (by kernel_rfl) (by kernel_rfl) (fun _ _ _ h => h) (Or.inl ⟨by rfl, ?_⟩) (by assumption) ?_
      rotate_left 1
      · (intro w hSw; (try dsimp only at hSw); go_simp; (try with_reducible rfl))
      try simp only [Act.put, List.getElem_toArray, List.getElem_cons_succ, List.getElem_cons_zero, List.setIfInBounds_toArray, List.set_cons_zero, List.set_cons_succ]
      refine wpAnyH_take (i := 1) (v := ?_) rfl (by kernel_rfl) (by kernel_rfl) (by kernel_rfl) (fun _ _ _ h => h) (Or.inl ⟨by rfl, ?_⟩) (by assumption) ?_
      rotate_left 1
      · (intro w hSw; (try dsimp only at hSw); go_simp; (try with_reducible rfl))
      try simp only [Act.put, List.getElem_toArray, List.getElem_cons_succ, List.getElem_cons_zero, List.setIfInBounds_toArray, List.set_cons_zero, List.set_cons_succ]
      refine wpAnyH_take (i := 2) (v := ?_) rfl (by kernel_rfl) (by kernel_rfl) (by kernel_rfl) (fun _ _ _ h => h) (Or.inl ⟨by rfl, ?_⟩) (by assumption) ?_
      rotate_left 1
      · (intro w hSw; (try dsimp only at hSw); go_simp; (try with_reducible rfl))
      try simp only [Act.put, List.getElem_toArray, List.getElem_cons_succ, List.getElem_cons_zero, List.setIfInBounds_toArray, List.set_cons_zero, List.set_cons_succ]
      refine wpAnyH_take (i := 3) (v := ?_) rfl (by kernel_rfl) (by kernel_rfl) (by kernel_rfl) (fun _ _ _ h => h) (Or.inl ⟨by rfl, ?_⟩) (by assumption) ?_
      rotate_left 1
      · (intro w hSw; (try dsimp only at hSw); go_simp; (try with_reducible rfl))
      try simp only [Act.put, List.getElem_toArray, List.getElem_cons_succ, List.getElem_cons_zero, List.setIfInBounds_toArray, List.set_cons_zero, List.set_cons_succ]
      refine wpAnyH_ready (rs := [4]) (by kernel_rfl) (by simp) ?_
      refine AllReadyH.cons rfl (fun K hK => ?_) AllReadyH.nil
      try simp only [List.getElem_toArray, List.getElem_cons_succ, List.getElem_cons_zero]
      go_simp
      (go_at_call 119; refine (ClonePairs_ _ (fun _ => False) (fun _ => False) _ [] (rep_none HV.out) (fun _ _ h => h)).mono ?_; rintro e w2 ⟨v2, rfl, hA2, hS2⟩; obtain ⟨b2, m2, hv2⟩ := hA2.val; simp only [List.length_nil] at hv2; subst hv2; have s2 : ∀ j, w2.cell? ⟨w.heap.size, j, none⟩ = _ := fun j => hS2.cell (by first | assumption | omega | (simp; done) | (simp; omega)) j; have q2 : w2.cell? ⟨g, k, none⟩ = _ := (hS2.cell (by first | assumption | omega | (simp; done) | (simp; omega)) k).trans qv; have f2 : w2.frozen? ⟨g, k, none⟩ = _ := (hS2.frozen (by first | assumption | omega | (simp; done) | (simp; omega)) k).trans qf; have HA2 := Lib.hid hA2; clear hA2)
      refine hK.out _ _ ?_ (fun hHeld => ?_)
      · (go_keep)
      clear hK K
      try simp only [Act.put, List.getElem_toArray, List.getElem_cons_succ, List.getElem_cons_zero, List.setIfInBounds_toArray, List.set_cons_zero, List.set_cons_succ]
      refine wpAnyH_take (i := 5) (v := ?_) rfl (by kernel_rfl) (by kernel_rfl) (by kernel_rfl) (fun _ _ _ h => h) (Or.inl ⟨by rfl, ?_⟩) (by assumption) ?_
      rotate_left 1
      · (intro w hSw; (try dsimp only at hSw); go_simp; (try with_reducible rfl))
      try simp only [Act.put, List.getElem_toArray, List.getElem_cons_succ, List.getElem_cons_zero, List.setIfInBounds_toArray, List.set_cons_zero, List.set_cons_succ]
      refine wpAnyH_ready (rs := [6]) (by kernel_rfl) (by simp) ?_
      refine AllReadyH.cons rfl (fun K hK => ?_) AllReadyH.nil
      try simp only [List.getElem_toArray, List.getElem_cons_succ, List.getElem_cons_zero]
      go_simp
      refine hK.out _ _ ?_ (fun hHeld => ?_)
      · (go_keep)
      clear hK K
      try simp only [Act.put, List.getElem_toArray, List.getElem_cons_succ, List.getElem_cons_zero, List.setIfInBounds_toArray, List.set_cons_zero, List.set_cons_succ]
      refine wpAnyH_done (by kernel_rfl) ?_ _
      go_wp2
      refine wp_loop_rounds 1 ?_
      rw [rounds_succ]
      go_wp2
      go_roundw
      case rel =>
        refine ⟨k + 1, by go_num, by omega, (HN.out.step (by omega) (by (repeat (first | exact Step.refl _ | refine Step.alloc ?_ _ | refine Step.drew ?_ | refine Step.drewN ?_ _ | refine Step.setCell ?_ (by first | exact Nat.le_refl _ | assumption | omega | (simp; done) | (simp; omega)) _ | assumption | refine Step.trans ?_ (by assumption : Step _ _))) : Step wr w2)).set hlt (Own.rep' HA2.out (fun _ _ h => h)), Turn.setCell (HT.out.then (by (repeat (first | exact Step.refl _ | refine Step.alloc ?_ _ | refine Step.drew ?_ | refine Step.drewN ?_ _ | refine Step.setCell ?_ (by first | exact Nat.le_refl _ | assumption | omega | (simp; done) | (simp; omega)) _ | assumption | refine Step.trans ?_ (by assumption : Step _ _))))) (fun _ => rfl) _⟩
      case measure => simp [Go.RowKit.intOf]; omega
    · obtain rfl : k = n := by omega
      have hb0 := HB2.out
      have z0 := (HT.out.block (w.heap.size + 1) hl1 hgz.out.symm).trans HZX.out
      have p0 : wr.cell? ⟨w.heap.size, 0, none⟩ = some (.int .i64 e) := cell_of_row wr _ 0 _ _ (0, 0) hb0
      have p1 : wr.cell? ⟨w.heap.size, 1, none⟩ = some (.int .i64 a) := cell_of_row wr _ 1 _ _ (0, 0) hb0
      have p3 : wr.cell? ⟨w.heap.size, 3, none⟩ = some (.slice none 0 0) := cell_of_row wr _ 3 _ _ (0, 0) hb0
      have f3 : wr.frozen? ⟨w.heap.size, 3, none⟩ = false := frozen_of_row wr _ 3 _ _ hb0
      have z1 : wr.cell? ⟨w.heap.size + 1, 0, none⟩ = some (.int .i64 0) := cell_of_row wr _ 0 _ _ (0, 0) z0
      have y1 : wr.frozen? ⟨w.heap.size + 1, 0, none⟩ = false := frozen_of_row wr _ 0 _ _ z0
      have z2 : wr.cell? ⟨w.heap.size + 1, 1, none⟩ = some (.int .i64 0) := cell_of_row wr _ 1 _ _ (0, 0) z0
      have y2 : wr.frozen? ⟨w.heap.size + 1, 1, none⟩ = false := frozen_of_row wr _ 1 _ _ z0
      have z3 : wr.cell? ⟨w.heap.size + 1, 2, none⟩ = some (.slice none 0 0) := cell_of_row wr _ 2 _ _ (0, 0) z0
      have y3 : wr.frozen? ⟨w.heap.size + 1, 2, none⟩ = false := frozen_of_row wr _ 2 _ _ z0
      have z4 : wr.cell? ⟨w.heap.size + 1, 3, none⟩ = some (.slice none 0 0) := cell_of_row wr _ 3 _ _ (0, 0) z0
      have y4 : wr.frozen? ⟨w.heap.size + 1, 3, none⟩ = false := frozen_of_row wr _ 3 _ _ z0
      have HZ0 := Lib.hid z0
      clear z0
      have hw1 : w.heap.size + 1 < wr.heap.size := by omega
      clear hb0
      go_wp2_with (first
        | (go_at_call 121; refine (CloneWrites_ _ (fun _ => False) (fun _ => False) _ [] nil_of (fun _ _ h => h)).mono ?_; rintro e w2 ⟨v2, rfl, hA2, hS2⟩; obtain ⟨b2, m2, hv2⟩ := hA2.val; simp only [List.length_nil] at hv2; subst hv2; have s2 : ∀ j, w2.cell? ⟨w.heap.size, j, none⟩ = _ := fun j => hS2.cell (by first | assumption | omega | (simp; done) | (simp; omega)) j; have f2 : w2.frozen? ⟨w.heap.size, 3, none⟩ = _ := (hS2.frozen (by first | assumption | omega | (simp; done) | (simp; omega)) 3).trans f3; have x2 : ∀ j, w2.cell? ⟨w.heap.size + 1, j, none⟩ = _ := fun j => hS2.cell (by first | assumption | omega | (simp; done) | (simp; omega)) j; have y2 : ∀ j, w2.frozen? ⟨w.heap.size + 1, j, none⟩ = _ := fun j => hS2.frozen (by first | assumption | omega | (simp; done) | (simp; omega)) j; have HA2 := Lib.hid hA2; clear hA2)
        | (go_at_call 120; refine (sorted_none _ _ _).mono ?_; rintro e w3 ⟨rfl, rfl⟩))
      refine wp_loop_rounds 1 ?_
      rw [rounds_succ]
      go_wp2
      have g0 := (hS2.heap hw1).trans HZ0.out
      have g1 : (w3.setCell ⟨w.heap.size, 3, none⟩ (Value.slice b2 0 m2)).heap[w.heap.size + 1]? = _ := (heap_setCell_other _ _ _ _ (by show w.heap.size + 1 ≠ w.heap.size; omega)).trans g0
      have g2 := heap_setCell_same _ _ 0 _ _ (Value.int .i64 e) g1
      have g3 := heap_setCell_same _ _ 1 _ _ (Value.int .i64 a) g2
      have g4 := heap_setCell_same _ _ 2 _ _ (Value.slice (some { block := g, off := 0 }) k c) g3
      have g5 := heap_setCell_same _ _ 3 _ _ (Value.slice b2 0 m2) g4
      refine bodyPost_ret (v := .agg #[.int .i64 e, .int .i64 a, .slice (some ⟨g, 0, none⟩) k c, .slice b2 0 m2]) (results_cell_row rfl _ _ _ _ #[.int .i64 e, .int .i64 a, .slice (some ⟨g, 0, none⟩) k c, .slice b2 0 m2] (0, 0) _ rfl g5 Tryz.underlying49 rfl (by kernel_rfl)) rfl ⟨_, _, rfl, rep_none (Own.rep' HA2.out (fun _ _ h => h)), ?_, ?_⟩
      · have hgw : g < wr.heap.size := by omega
        refine (HN.out.step hgw hS2).kept ?_
        rw [heap_setCell_other _ _ _ _ hgz.out, heap_setCell_other _ _ _ _ hgz.out, heap_setCell_other _ _ _ _ hgz.out, heap_setCell_other _ _ _ _ hgz.out, heap_setCell_other _ _ _ _ hgb.out]
      · have h7 := (Turn.of hS (M := (· = g))).trans (HT.out.then hS2)
        have h8 : ∀ p : Addr, w.heap.size ≤ p.block → p.block < w.heap.size → p.block = g := fun p h1 h2 => by omega
        exact ((((h7.setCell (h8 _ (by simp)) _).setCell (h8 _ (by simp)) _).setCell (h8 _ (by simp)) _).setCell (h8 _ (by simp)) _).setCell (h8 _ (by simp)) _
end Go.Proofs.YthflkfgiclcdiaaGreat
