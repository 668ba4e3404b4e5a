/-
  Walks: a writer of bytes (Writer.Num, Writer.Text, Join).
-/
import Derived.Test.YthflkfgiclcdiaaW13
namespace Go.Proofs.Ythflkfgiclcdiaa
open Go.RowKit Go.Gr
set_option linter.unusedSimpArgs false
/-- Block pb, made since w0, is a writer that has put 'out'; what w0 had is as it was. -/
def WriterAt (w0 w : World) (pb : Nat) (out : List UInt8) : Prop :=
  ∃ v, w.cell? ⟨pb, 0, none⟩ = some v ∧ w.frozen? ⟨pb, 0, none⟩ = false ∧ Own Ty.byte 5 w (· < pb + 1) (pb + 1) v out ∧ Step w0 w ∧ w0.heap.size ≤ pb ∧ pb < w.heap.size
set_option maxRecDepth 100000 in
set_option maxHeartbeats 1000000 in
theorem wNum_ {w0 w : World} {M : Nat → Prop} {pb : Nat} {out : List UInt8} {nv : Value} {xs : List Nat} (hW : WriterAt w0 w pb out) (h : (Ty.slice Ty.u64).rep w M [nv] xs) (hxs : xs.length < 16777216) (hl : out.length + (numsB xs).length ≤ lim) :
    Calls Try.prog 113 #[.pointer (some ⟨pb, 0, none⟩), nv] w fun e w' => e = .returned (.tuple #[]) ∧ WriterAt w0 w' pb (out ++ numsB xs) := by
  obtain ⟨v, p0, f0, hO, hS, hp, hz⟩ := hW
  obtain ⟨va, vc, rfl⟩ := hO.val
  obtain ⟨a, c, rfl, hc, hm, _⟩ := Ty.slice_val h
  have H := Lib.hid h
  have HO := Lib.hid hO
  clear h hO hc hm
  have nP : Hid ((Value.slice va out.length vc).ownBlock ≠ some pb) := Lib.hid (fun e => absurd (HO.out.lt e).1 (by omega))
  go_enter Try.func113, Try.ntmps113
  go_wp2
  refine wp_region_cut (S := (fun w' => w'.cell? ⟨pb, 0, none⟩ = some (.slice va out.length vc))) 10 (by kernel_rfl) ?_ (fun hHeld => ?_)
  · (go_keep)
  refine wpAnyC_take (i := 0) (v := ?_) rfl (by kernel_rfl) (by kernel_rfl) (by kernel_rfl) (by decide) [8, 9, 10] (by kernel_rfl) (fun _ _ _ h => h) (Or.inl ⟨by rfl, ?_⟩) (by assumption) ?_
  rotate_left 1
  · (intro w hSw; (try dsimp only at hSw); go_simp; (try with_reducible rfl))
  try simp only [Act.put, List.getElem_toArray, List.getElem_cons_succ, List.getElem_cons_zero, List.setIfInBounds_toArray, List.set_cons_zero, List.set_cons_succ]
  refine wpAnyC_take (i := 1) (v := ?_) rfl (by kernel_rfl) (by kernel_rfl) (by kernel_rfl) (by decide) [2, 3, 4, 7, 8, 9, 10] (by kernel_rfl) (fun _ _ _ h => h) (Or.inl ⟨by rfl, ?_⟩) (by assumption) ?_
  rotate_left 1
  · (intro w hSw; (try dsimp only at hSw); go_simp; (try with_reducible rfl))
  try simp only [Act.put, List.getElem_toArray, List.getElem_cons_succ, List.getElem_cons_zero, List.setIfInBounds_toArray, List.set_cons_zero, List.set_cons_succ]
  refine wpAnyC_take (i := 2) (v := ?_) rfl (by kernel_rfl) (by kernel_rfl) (by kernel_rfl) (by decide) [3, 4, 7, 8, 9, 10] (by kernel_rfl) (fun _ _ _ h => h) (Or.inl ⟨by rfl, ?_⟩) (by assumption) ?_
  rotate_left 1
  · (intro w hSw; (try dsimp only at hSw); go_simp; (try with_reducible rfl))
  try simp only [Act.put, List.getElem_toArray, List.getElem_cons_succ, List.getElem_cons_zero, List.setIfInBounds_toArray, List.set_cons_zero, List.set_cons_succ]
  refine wpAnyC_take (i := 3) (v := ?_) rfl (by kernel_rfl) (by kernel_rfl) (by kernel_rfl) (by decide) [4, 7, 8, 9, 10] (by kernel_rfl) (fun _ _ _ h => h) (Or.inl ⟨by rfl, ?_⟩) (by assumption) ?_
  rotate_left 1
  · (intro w hSw; (try dsimp only at hSw); go_simp; (try with_reducible rfl))
  try simp only [Act.put, List.getElem_toArray, List.getElem_cons_succ, List.getElem_cons_zero, List.setIfInBounds_toArray, List.set_cons_zero, List.set_cons_succ]
  refine wpAnyC_take (i := 4) (v := ?_) rfl (by kernel_rfl) (by kernel_rfl) (by kernel_rfl) (by decide) [7, 8, 9, 10] (by kernel_rfl) (fun _ _ _ h => h) (Or.inl ⟨by rfl, ?_⟩) (by assumption) ?_
  rotate_left 1
  · (intro w hSw; (try dsimp only at hSw); go_simp; (try with_reducible rfl))
  try simp only [Act.put, List.getElem_toArray, List.getElem_cons_succ, List.getElem_cons_zero, List.setIfInBounds_toArray, List.set_cons_zero, List.set_cons_succ]
  refine wpAnyC_take (i := 5) (v := ?_) rfl (by kernel_rfl) (by kernel_rfl) (by kernel_rfl) (by decide) [6, 7, 8, 9, 10] (by kernel_rfl) (fun _ _ _ h => h) (Or.inl ⟨by rfl, ?_⟩) (by assumption) ?_
  rotate_left 1
  · (intro w hSw; (try dsimp only at hSw); go_simp; (try with_reducible rfl))
  try simp only [Act.put, List.getElem_toArray, List.getElem_cons_succ, List.getElem_cons_zero, List.setIfInBounds_toArray, List.set_cons_zero, List.set_cons_succ]
  refine wpAnyC_ready (rs := [6]) (by kernel_rfl) (by simp) ?_
  refine AllReadyC.cons rfl (by decide) (fun K hK => ?_) AllReadyC.nil
  try simp only [List.getElem_toArray, List.getElem_cons_succ, List.getElem_cons_zero]
  go_simp
  (go_at_call 83; refine (Number_ _ _ _ _ (by refine Ty.step _ (Hid.out (by assumption)) ?_; (repeat (first | exact Step.refl _ | refine Step.alloc ?_ _ | refine Step.drew ?_ | refine Step.drewN ?_ _ | refine Step.setCell ?_ (by first | exact Nat.le_refl _ | assumption | omega | (simp; done) | (simp; omega)) _ | assumption | refine Step.trans ?_ (by assumption : Step _ _)))) hxs).mono ?_; rintro e2 w2 ⟨v2, rfl, hA2, hS2⟩; obtain ⟨b2, m2, rfl⟩ := hA2.val; have f2_0 : ∀ j, w2.frozen? ⟨pb, j, none⟩ = _ := fun j => hS2.frozen (by first | assumption | omega | (simp; done) | (simp; omega)) j; have s2_0 : ∀ j, w2.cell? ⟨pb, j, none⟩ = _ := fun j => hS2.cell (by first | assumption | omega | (simp; done) | (simp; omega)) j; have z2_0 : pb < w2.heap.size := Nat.lt_of_lt_of_le (by first | assumption | omega | (simp; done) | (simp; omega)) hS2.size; have HA2 := Lib.hid hA2; clear hA2)
  refine hK.out _ _ ?_ (fun hHeld => ?_)
  · (go_keep)
  clear hK K
  try simp only [Act.put, List.getElem_toArray, List.getElem_cons_succ, List.getElem_cons_zero, List.setIfInBounds_toArray, List.set_cons_zero, List.set_cons_succ]
  refine wpAnyC_ready (rs := [7]) (by kernel_rfl) (by simp) ?_
  refine AllReadyC.cons rfl (by decide) (fun K hK => ?_) AllReadyC.nil
  try simp only [List.getElem_toArray, List.getElem_cons_succ, List.getElem_cons_zero]
  refine ite_then rfl ?_; refine wp_append_gen (E := Ty.byte) (B := pb + 1) (M := (· < pb + 1)) (ys := numsB xs) (.tmp 8) (.tmp 10) rfl stBytes (Own.step HO.out (by (repeat (first | exact Step.refl _ | refine Step.alloc ?_ _ | refine Step.drew ?_ | refine Step.drewN ?_ _ | refine Step.setCell ?_ (by first | exact Nat.le_refl _ | assumption | omega | (simp; done) | (simp; omega)) _ | assumption | refine Step.trans ?_ (by assumption : Step _ _))))) (Src.flat Ty.flat_byte (Own.rep HA2.out (fun b hb => hb))) hl (by first | assumption | omega | (simp; done) | (simp; omega)) rfl rfl ?_; intro v4 w4 hA4 hG4 _; obtain ⟨b4, m4, rfl⟩ := hA4.val; have c4 := (grown_cell hG4 (by first | assumption | omega | (simp; done) | (simp; omega)) nP.out 0).trans ((Step.cell (by (repeat (first | exact Step.refl _ | refine Step.alloc ?_ _ | refine Step.drew ?_ | refine Step.drewN ?_ _ | refine Step.setCell ?_ (by first | exact Nat.le_refl _ | assumption | omega | (simp; done) | (simp; omega)) _ | assumption | refine Step.trans ?_ (by assumption : Step _ _))) : Step w _) hz 0).trans p0); have t4 := (grown_frozen hG4 (by first | assumption | omega | (simp; done) | (simp; omega)) nP.out 0).trans ((Step.frozen (by (repeat (first | exact Step.refl _ | refine Step.alloc ?_ _ | refine Step.drew ?_ | refine Step.drewN ?_ _ | refine Step.setCell ?_ (by first | exact Nat.le_refl _ | assumption | omega | (simp; done) | (simp; omega)) _ | assumption | refine Step.trans ?_ (by assumption : Step _ _))) : Step w _) hz 0).trans f0); have z4 := hG4.size; have HA4 := Lib.hid hA4; have hS4 := Own.grown (w0 := w0) (Own.base (Own.step HO.out (by (repeat (first | exact Step.refl _ | refine Step.alloc ?_ _ | refine Step.drew ?_ | refine Step.drewN ?_ _ | refine Step.setCell ?_ (by first | exact Nat.le_refl _ | assumption | omega | (simp; done) | (simp; omega)) _ | assumption | refine Step.trans ?_ (by assumption : Step _ _))))) (by first | assumption | omega | (simp; done) | (simp; omega))) (by (repeat (first | exact Step.refl _ | refine Step.alloc ?_ _ | refine Step.drew ?_ | refine Step.drewN ?_ _ | refine Step.setCell ?_ (by first | exact Nat.le_refl _ | assumption | omega | (simp; done) | (simp; omega)) _ | assumption | refine Step.trans ?_ (by assumption : Step _ _)))) hG4; clear hA4
  refine hK.out _ _ ?_ (fun hHeld => ?_)
  · (go_keep)
  clear hK K
  try simp only [Act.put, List.getElem_toArray, List.getElem_cons_succ, List.getElem_cons_zero, List.setIfInBounds_toArray, List.set_cons_zero, List.set_cons_succ]
  refine wpAnyC_take (i := 8) (v := ?_) rfl (by kernel_rfl) (by kernel_rfl) (by kernel_rfl) (by decide) [9, 10] (by kernel_rfl) (fun _ _ _ h => h) (Or.inl ⟨by rfl, ?_⟩) (by assumption) ?_
  rotate_left 1
  · (intro w hSw; (try dsimp only at hSw); go_simp; (try with_reducible rfl))
  try simp only [Act.put, List.getElem_toArray, List.getElem_cons_succ, List.getElem_cons_zero, List.setIfInBounds_toArray, List.set_cons_zero, List.set_cons_succ]
  refine wpAnyC_take (i := 9) (v := ?_) rfl (by kernel_rfl) (by kernel_rfl) (by kernel_rfl) (by decide) [10] (by kernel_rfl) (fun _ _ _ h => h) (Or.inl ⟨by rfl, ?_⟩) (by assumption) ?_
  rotate_left 1
  · (intro w hSw; (try dsimp only at hSw); go_simp; (try with_reducible rfl))
  try simp only [Act.put, List.getElem_toArray, List.getElem_cons_succ, List.getElem_cons_zero, List.setIfInBounds_toArray, List.set_cons_zero, List.set_cons_succ]
  refine wpAnyC_ready (rs := [10]) (by kernel_rfl) (by simp) ?_
  refine AllReadyC.cut rfl (fun K hK => ?_)
  try simp only [List.getElem_toArray, List.getElem_cons_succ, List.getElem_cons_zero]
  go_simp
  refine hK.out _ _ trivial (fun hHeld => ?_)
  clear hK K
  try simp only [Act.put, List.getElem_toArray, List.getElem_cons_succ, List.getElem_cons_zero, List.setIfInBounds_toArray, List.set_cons_zero, List.set_cons_succ]
  have hTrue : True := trivial
  refine wpAnyH_done (by kernel_rfl) ?_ _
  go_wp2
  refine bodyPost_end (results_none rfl _ _ _) rfl ?_
  exact ⟨rfl, _, World.cell?_setCell_same _ _ _ c4, by simpa using t4, by have hq := Own.set HA4.out (p := ⟨pb, 0, none⟩) (Nat.lt_succ_self _) (Nat.lt_succ_self _) (.slice b4 (out ++ numsB xs).length m4); simpa only [List.length_append] using hq, by (repeat (first | exact Step.refl _ | refine Step.alloc ?_ _ | refine Step.drew ?_ | refine Step.drewN ?_ _ | refine Step.setCell ?_ (by first | exact Nat.le_refl _ | assumption | omega | (simp; done) | (simp; omega)) _ | assumption | refine Step.trans ?_ (by assumption : Step _ _))), hp, by have := lt_of_cell c4; simpa using this⟩
end Go.Proofs.Ythflkfgiclcdiaa
