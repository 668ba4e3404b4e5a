/-
  Walks: decide, fail; Begin without parts.
-/
import Derived.Test.YthflkfgiclcdiaaGreatC7
namespace Go.Proofs.YthflkfgiclcdiaaGreat
open Go.Gr Go.RowKit
set_option linter.unusedSimpArgs false
theorem CoordIn.mo_ne {w : World} {B cb : Nat} {c : DCoord} {vo vp mo mu vs vr : Value} (h : CoordIn w B cb c vo vp mo mu vs vr) {b : Nat} (hb : mapBlock mo = some b) : b ≠ cb := by
  intro e
  subst e
  rcases ho : c.outs with _ | l
  · have := h.outs
    rw [ho] at this
    obtain rfl : mo = .map none := this
    simp [mapBlock] at hb
  · have := h.outs
    rw [ho] at this
    obtain ⟨b', rfl, hm, _⟩ := this
    obtain rfl : b' = b := by simpa [mapBlock] using hb
    obtain ⟨l', ⟨⟨es, clock, h1, _⟩, _⟩, _⟩ := hm
    rw [h.cells] at h1
    cases h1
theorem CoordIn.decided {w : World} {B cb : Nat} {c : DCoord} {vo vp mo mu vs vr vr' : Value} {r : List UInt8} (h : CoordIn w B cb c vo vp mo mu vs vr) (hr : Ty.bytes.rep w (coM B cb mo (.map none)) [vr'] r) (cm : Bool) :
    CoordIn ((((w.setCell ⟨cb, 10, none⟩ (.bool cm)).setCell ⟨cb, 11, none⟩ vr').setCell ⟨cb, 7, none⟩ (.int .i64 1)).setCell ⟨cb, 8, none⟩ (.map none)) B cb { c with commit := cm, reply := r, wants := 1, out := none } vo vp mo (.map none) vs vr' := by
  have hH : ∀ {b}, b ≠ cb → ((((w.setCell ⟨cb, 10, none⟩ (.bool cm)).setCell ⟨cb, 11, none⟩ vr').setCell ⟨cb, 7, none⟩ (.int .i64 1)).setCell ⟨cb, 8, none⟩ (.map none)).heap[b]? = w.heap[b]? := fun hb => by
    rw [heap_setCell_other _ _ _ _ hb, heap_setCell_other _ _ _ _ hb, heap_setCell_other _ _ _ _ hb, heap_setCell_other _ _ _ _ hb]
  have hM : ∀ b, ¬ coM B cb mo mu b → ¬ coM B cb mo (.map none) b := fun b h1 h2 => h1 (by
    rcases h2 with h2 | h2 | h2 | h2
    · exact .inl h2
    · exact .inr (.inl h2)
    · exact .inr (.inr (.inl h2))
    · simp [mapBlock] at h2)
  have key : ∀ b, b < w.heap.size → ¬ coM B cb mo mu b → ((((w.setCell ⟨cb, 10, none⟩ (.bool cm)).setCell ⟨cb, 11, none⟩ vr').setCell ⟨cb, 7, none⟩ (.int .i64 1)).setCell ⟨cb, 8, none⟩ (.map none)).heap[b]? = w.heap[b]? ∧ ¬ coM B cb mo (.map none) b := fun b _ h2 => ⟨hH fun e => h2 (.inr (.inl e)), hM b h2⟩
  refine ⟨(((h.cells.set 10 _).set 11 _).set 7 _).set 8 _, h.base, h.txn, Ty.keep _ h.ops key, Ty.keep _ h.parts key, Ty.keep _ h.shards key, Ty.keep _ hr (fun b _ h2 => ⟨hH fun e => h2 (.inr (.inl e)), h2⟩), ?_, rfl, h.omo, ?_, ?_, h.few, h.patience⟩
  · exact h.outs.keep (fun b hb => ⟨hH (h.mo_ne hb), .inr (.inr (.inl hb))⟩) key
  · intro b hb
    simp [mapBlock] at hb
  · intro b _ hb
    simp [mapBlock] at hb
set_option maxRecDepth 100000 in
set_option maxHeartbeats 2000000 in
theorem decide_ {w : World} {M : Nat → Prop} {B cb : Nat} {c : DCoord} {vo vp mo mu vs vr : Value} {cm : Bool} {err at_ : Int} {rows : List (List DPair)} {a2 a3 : Option Addr} {n2 n3 c2 c3 : Nat} (h : CoordIn w B cb c vo vp mo mu vs vr) (hB : B ≤ w.heap.size)
    (hr : (Ty.slice (Ty.slice tPair)).rep w M [.slice a2 n2 c2] rows) (hl : (replyB err at_ rows).length ≤ lim) :
    Calls Tryz.prog 49 #[.pointer (some ⟨cb, 0, none⟩), .bool cm, .agg #[.int .i64 err, .int .i64 at_, .slice a2 n2 c2, .slice a3 n3 c3]] w fun e w' => e = .returned (.slice none 0 0) ∧
      ∃ vr', CoordIn w' B cb { c with commit := cm, reply := replyB err at_ rows, wants := 1, out := none } vo vp mo (.map none) vs vr' ∧ Turn (· = cb) w w' := by
  have hcb := h.lt
  have p7 : w.cell? ⟨cb, 7, none⟩ = some (.int .i64 c.wants) := h.cells.cell 7
  have p8 : w.cell? ⟨cb, 8, none⟩ = some mu := h.cells.cell 8
  have p10 : w.cell? ⟨cb, 10, none⟩ = some (.bool c.commit) := h.cells.cell 10
  have p11 : w.cell? ⟨cb, 11, none⟩ = some vr := h.cells.cell 11
  have f : ∀ j, w.frozen? ⟨cb, j, none⟩ = false := fun j => h.cells.frozen j
  have H := Lib.hid h
  have HR := Lib.hid hr
  have HL := Lib.hid hl
  clear h hr hl
  go_enter Tryz.func49, Tryz.ntmps49
  go_wp2_with (go_at_call 93; refine (oReply_ (Ty.step _ HR.out (by (repeat (first | exact Step.refl _ | refine Step.alloc ?_ _ | refine Step.drew ?_ | refine Step.drewN ?_ _ | refine Step.setCell ?_ (by first | exact Nat.le_refl _ | assumption | omega | (simp; done) | (simp; omega)) _ | assumption | refine Step.trans ?_ (by assumption : Step _ _))))) HL.out).mono ?_; rintro e w1 ⟨v1, rfl, hA1, hS1⟩; obtain ⟨b1, m1, rfl⟩ := hA1.val; have hS1' : Step w w1 := (by (repeat (first | exact Step.refl _ | refine Step.alloc ?_ _ | refine Step.drew ?_ | refine Step.drewN ?_ _ | refine Step.setCell ?_ (by first | exact Nat.le_refl _ | assumption | omega | (simp; done) | (simp; omega)) _ | assumption | refine Step.trans ?_ (by assumption : Step _ _)))); have s1 : ∀ j, w1.cell? ⟨cb, j, none⟩ = w.cell? ⟨cb, j, none⟩ := fun j => hS1'.cell hcb j; have f1 : ∀ j, w1.frozen? ⟨cb, j, none⟩ = w.frozen? ⟨cb, j, none⟩ := fun j => hS1'.frozen hcb j; have HA1 := Lib.hid hA1; clear hA1)
  go_ret
  refine ⟨rfl, _, (H.out.keep (fun b h1 _ => hS1'.heap h1)).decided (Own.rep' (Own.flat Ty.flat_byte HA1.out) (fun b hb hM => ?_)) cm, ?_⟩
  · have h1 := (HA1.out.lt hb).1
    simp only [World.size_alloc] at h1
    rcases hM with hM | hM | hM | hM
    · omega
    · omega
    · have := H.out.outs.lt hM
      omega
    · simp [mapBlock] at hM
  · exact ((((Turn.of hS1' (M := (· = cb))).setCell (fun _ => rfl) _).setCell (fun _ => rfl) _).setCell (fun _ => rfl) _).setCell (fun _ => rfl) _
set_option maxRecDepth 100000 in
theorem fail_ {w : World} {B cb : Nat} {c : DCoord} {vo vp mo mu vs vr : Value} {err : Int} (h : CoordIn w B cb c vo vp mo mu vs vr) (hB : B ≤ w.heap.size) (hl : (replyB err 0 []).length ≤ lim) :
    Calls Tryz.prog 45 #[.pointer (some ⟨cb, 0, none⟩), .int .i64 err] w fun e w' => e = .returned (.slice none 0 0) ∧
      ∃ vr', CoordIn w' B cb { c with commit := false, reply := replyB err 0 [], wants := 1, out := none } vo vp mo (.map none) vs vr' ∧ Turn (· = cb) w w' := by
  have H := Lib.hid h
  clear h
  go_enter Tryz.func45, Tryz.ntmps45
  go_wp2_with (go_at_call 49; refine (decide_ (M := fun _ => False) H.out hB nil_of hl).mono ?_; rintro e w1 ⟨rfl, h1⟩; have H1 := Lib.hid h1; clear h1)
  go_ret
  exact ⟨rfl, H1.out⟩
theorem textB_rep (n : Nat) (r : List UInt8) : (textB (List.replicate n r)).length = n * ((numB r.length).length + r.length) := by
  induction n with
  | zero => simp [textB]
  | succ n ih =>
    rw [List.replicate_succ]
    simp only [textB, List.flatMap_cons, List.length_append] at *
    rw [ih, Nat.add_mul]
    omega
theorem rowB_nil : (rowB []).length ≤ 40 := by
  have h0 : numB 0 = [0] := if_pos (by decide)
  have h1 : numB 1 = [1] := if_pos (by decide)
  have h3 : numB 3 = [3] := if_pos (by decide)
  have h4 : numB 4 = [4] := if_pos (by decide)
  simp [rowB, oneB, oneParts, joinB, textB, triB, numsB, h0, h1, h3, h4]
theorem replyB_nils {err at_ : Int} {n : Nat} (hn : n ≤ 1048576) : (replyB err at_ (List.replicate n [])).length ≤ lim := by
  unfold replyB replyParts joinB
  rw [List.map_replicate, textB_append]
  simp only [List.length_append, textB_rep]
  have h1 := numB_len (u64_lt err)
  have h2 := numB_len (u64_lt at_)
  have h3 : (numB (([numB (u64 err), numB (u64 at_)] ++ List.replicate n (rowB [])).length)).length ≤ 9 := numB_len (by simp; omega)
  have h4 := rowB_nil
  have h5 : (numB (rowB []).length).length ≤ 9 := numB_len (by omega)
  have h6 : n * ((numB (rowB []).length).length + (rowB []).length) ≤ 1048576 * 49 := Nat.mul_le_mul hn (by omega)
  have h7 : (textB [numB (u64 err), numB (u64 at_)]).length ≤ 36 := by
    have h8 : (numB (numB (u64 err)).length).length ≤ 9 := numB_len (by omega)
    have h9 : (numB (numB (u64 at_)).length).length ≤ 9 := numB_len (by omega)
    simp [textB]
    omega
  simp only [List.length_append] at h3
  rw [lim_eq]
  omega
theorem Nils.rep {w : World} {g n : Nat} {c : Nat} (h : Nils w g n) (hg : g < w.heap.size) (hc : n ≤ c) (hm : c ≤ maxLen) (hl : n ≤ lim) : (Ty.slice (Ty.slice tPair)).rep w (fun _ => False) [.slice (some ⟨g, 0, none⟩) n c] (List.replicate n []) := by
  refine ⟨_, _, by rw [List.length_replicate], by simpa using hc, hm, by simpa using hl, fun _ => ⟨g, 0, rfl, hg, fun h => h, fun i hi => ?_⟩⟩
  obtain ⟨⟨v, h1, h2⟩, _⟩ := h i (by simpa using hi)
  refine ⟨[v], by simpa using h2, fun j u hu => ?_⟩
  rcases j with _ | j
  · obtain rfl : v = u := by simpa using hu
    simpa [Ty.slice] using h1
  · simp at hu
set_option maxRecDepth 100000 in
set_option maxHeartbeats 4000000 in
theorem Begin_none {w : World} {B cb : Nat} {c : DCoord} {vo vp mo mu vs vr : Value} (h : CoordIn w B cb c vo vp mo mu vs vr) (hB : B ≤ w.heap.size) (hph : c.phase = 0) (hck : checkB c.ops = 0) (hne : c.parts = []) (hn : c.ops.length ≤ 1048576) :
    Calls Tryz.prog 10 #[.pointer (some ⟨cb, 0, none⟩)] w fun e w' => e = .returned (.slice none 0 0) ∧ ∃ vr',
      CoordIn w' B cb { c with commit := true, reply := replyB 0 0 (List.replicate c.ops.length []), wants := 1, out := none } vo vp mo (.map none) vs vr' ∧ Turn (· = cb) w w' := by
  have hcb := h.lt
  have p6 : w.cell? ⟨cb, 6, none⟩ = some (.int .i64 0) := by rw [← hph]; exact h.cells.cell 6
  have p3 : w.cell? ⟨cb, 3, none⟩ = some vo := h.cells.cell 3
  have p4 : w.cell? ⟨cb, 4, none⟩ = some vp := h.cells.cell 4
  obtain ⟨a1, c1, rfl, _⟩ := Ty.slice_val h.parts
  obtain ⟨a2, c2, rfl, _⟩ := Ty.slice_val h.ops
  simp only [hne, List.length_nil] at p4
  have H := Lib.hid h
  have HCK := Lib.hid hck
  have HRL := Lib.hid (replyB_nils (err := 0) (at_ := 0) hn)
  have HNE := Lib.hid hne
  clear h hck hph hne
  go_enter Tryz.func10, Tryz.ntmps10
  go_wp2_with (go_at_call 48; refine (Check_ (Ty.step _ H.out.ops (by (repeat (first | exact Step.refl _ | refine Step.alloc ?_ _ | refine Step.drew ?_ | refine Step.drewN ?_ _ | refine Step.setCell ?_ (by first | exact Nat.le_refl _ | assumption | omega | (simp; done) | (simp; omega)) _ | assumption | refine Step.trans ?_ (by assumption : Step _ _)))))).mono ?_; rintro e w1 ⟨rfl, hS1⟩; rw [HCK.out]; have s1 : ∀ j, w1.cell? ⟨cb, j, none⟩ = _ := fun j => hS1.cell (by simp; omega) j; have s1' : ∀ j, w1.cell? ⟨w.heap.size, j, none⟩ = _ := fun j => hS1.cell (by simp) j)
  have hz1 := hS1.size
  simp only [World.size_alloc] at hz1
  have hcb1 : cb < w1.heap.size := by omega
  have hbx1 : w.heap.size < w1.heap.size := by omega
  have b1 : w1.cell? ⟨w.heap.size, 0, none⟩ = some (.pointer (some ⟨cb, 0, none⟩)) := by rw [s1' 0]; simp
  have b3 : w1.cell? ⟨cb, 3, none⟩ = some (.slice a2 c.ops.length c2) := by rw [s1 3]; exact (((Step.refl w).alloc _).cell hcb 3).trans p3
  have hS1' : Step w w1 := by (repeat (first | exact Step.refl _ | refine Step.alloc ?_ _ | refine Step.drew ?_ | refine Step.drewN ?_ _ | refine Step.setCell ?_ (by first | exact Nat.le_refl _ | assumption | omega | (simp; done) | (simp; omega)) _ | assumption | refine Step.trans ?_ (by assumption : Step _ _)))
  clear s1 s1'
  refine wp_region_held_drew (S := (fun w' => w'.cell? ⟨w.heap.size, 0, none⟩ = some (.pointer (some ⟨cb, 0, none⟩)) ∧ w'.cell? ⟨cb, 3, none⟩ = some (.slice a2 c.ops.length c2))) (by kernel_rfl) ?_ (fun hHeld => ?_)
  · (go_keep)
  refine wpAnyH_take (i := 0) (v := ?_) rfl (by kernel_rfl) (by kernel_rfl) (by kernel_rfl) (fun _ _ _ h => h) (Or.inl ⟨by rfl, ?_⟩) (by assumption) ?_
  rotate_left 1
  · (intro w hSw; (try dsimp only at hSw); go_simp; (try with_reducible rfl))
  try simp only [Act.put, List.getElem_toArray, List.getElem_cons_succ, List.getElem_cons_zero, List.setIfInBounds_toArray, List.set_cons_zero, List.set_cons_succ]
  refine wpAnyH_take (i := 1) (v := ?_) rfl (by kernel_rfl) (by kernel_rfl) (by kernel_rfl) (fun _ _ _ h => h) (Or.inl ⟨by rfl, ?_⟩) (by assumption) ?_
  rotate_left 1
  · (intro w hSw; (try dsimp only at hSw); go_simp; (try with_reducible rfl))
  try simp only [Act.put, List.getElem_toArray, List.getElem_cons_succ, List.getElem_cons_zero, List.setIfInBounds_toArray, List.set_cons_zero, List.set_cons_succ]
  refine wpAnyH_take (i := 2) (v := ?_) rfl (by kernel_rfl) (by kernel_rfl) (by kernel_rfl) (fun _ _ _ h => h) (Or.inl ⟨by rfl, ?_⟩) (by assumption) ?_
  rotate_left 1
  · (intro w hSw; (try dsimp only at hSw); go_simp; (try with_reducible rfl))
  try simp only [Act.put, List.getElem_toArray, List.getElem_cons_succ, List.getElem_cons_zero, List.setIfInBounds_toArray, List.set_cons_zero, List.set_cons_succ]
  refine wpAnyH_take (i := 3) (v := ?_) rfl (by kernel_rfl) (by kernel_rfl) (by kernel_rfl) (fun _ _ _ h => h) (Or.inl ⟨by rfl, ?_⟩) (by assumption) ?_
  rotate_left 1
  · (intro w hSw; (try dsimp only at hSw); go_simp; (try with_reducible rfl))
  try simp only [Act.put, List.getElem_toArray, List.getElem_cons_succ, List.getElem_cons_zero, List.setIfInBounds_toArray, List.set_cons_zero, List.set_cons_succ]
  refine wpAnyH_take (i := 4) (v := ?_) rfl (by kernel_rfl) (by kernel_rfl) (by kernel_rfl) (fun _ _ _ h => h) (Or.inl ⟨by rfl, ?_⟩) (by assumption) ?_
  rotate_left 1
  · (intro w hSw; (try dsimp only at hSw); go_simp; (try with_reducible rfl))
  try simp only [Act.put, List.getElem_toArray, List.getElem_cons_succ, List.getElem_cons_zero, List.setIfInBounds_toArray, List.set_cons_zero, List.set_cons_succ]
  refine wpAnyH_ready (rs := [5]) (by kernel_rfl) (by simp) ?_
  refine AllReadyH.cons rfl (fun K hK => ?_) AllReadyH.nil
  try simp only [List.getElem_toArray, List.getElem_cons_succ, List.getElem_cons_zero]
  go_simp
  (go_at_call 50; refine (Join_nil (Ty.step _ H.out.ops (by (repeat (first | exact Step.refl _ | refine Step.alloc ?_ _ | refine Step.drew ?_ | refine Step.drewN ?_ _ | refine Step.setCell ?_ (by first | exact Nat.le_refl _ | assumption | omega | (simp; done) | (simp; omega)) _ | assumption | refine Step.trans ?_ (by assumption : Step _ _))))) hn).mono ?_; rintro e w2 ⟨g, a3, c3, rfl, hW2, hN2, hg2, hS2⟩; have HW2 := Lib.hid hW2; have HN2 := Lib.hid hN2; clear hW2 hN2; have z2 := hS2.size; (try simp at z2); have s2 : ∀ j, w2.cell? ⟨cb, j, none⟩ = _ := fun j => hS2.cell (by first | assumption | omega | (simp; done) | (simp; omega)) j; have s2' : ∀ j, w2.cell? ⟨w.heap.size, j, none⟩ = _ := fun j => hS2.cell (by first | assumption | omega | (simp; done) | (simp; omega)) j)
  refine hK.out _ _ ?_ (fun hHeld => ?_)
  · (go_keep)
  clear hK K
  try simp only [Act.put, List.getElem_toArray, List.getElem_cons_succ, List.getElem_cons_zero, List.setIfInBounds_toArray, List.set_cons_zero, List.set_cons_succ]
  refine wpAnyH_ready (rs := [6]) (by kernel_rfl) (by simp) ?_
  refine AllReadyH.cons rfl (fun K hK => ?_) AllReadyH.nil
  try simp only [List.getElem_toArray, List.getElem_cons_succ, List.getElem_cons_zero]
  go_simp
  (go_at_call 49; refine (decide_ (M := fun _ => False) (H.out.keep (fun b h1 _ => Step.heap (by (repeat (first | exact Step.refl _ | refine Step.alloc ?_ _ | refine Step.drew ?_ | refine Step.drewN ?_ _ | refine Step.setCell ?_ (by first | exact Nat.le_refl _ | assumption | omega | (simp; done) | (simp; omega)) _ | assumption | refine Step.trans ?_ (by assumption : Step _ _))) : Step w _) h1)) (Nat.le_trans hB (Step.size (by (repeat (first | exact Step.refl _ | refine Step.alloc ?_ _ | refine Step.drew ?_ | refine Step.drewN ?_ _ | refine Step.setCell ?_ (by first | exact Nat.le_refl _ | assumption | omega | (simp; done) | (simp; omega)) _ | assumption | refine Step.trans ?_ (by assumption : Step _ _))) : Step w _))) (Ty.step _ (Nils.rep HN2.out hg2 (Nat.le_refl _) (by unfold maxLen; omega) (by rw [lim_eq]; omega)) (by (repeat (first | exact Step.refl _ | refine Step.alloc ?_ _ | refine Step.drew ?_ | refine Step.drewN ?_ _ | refine Step.setCell ?_ (by first | exact Nat.le_refl _ | assumption | omega | (simp; done) | (simp; omega)) _ | assumption | refine Step.trans ?_ (by assumption : Step _ _))))) HRL.out).mono ?_; rintro e w3 ⟨rfl, vr3, hC3, hT3⟩; have b3' : w3.cell? ⟨cb, 3, none⟩ = some (.slice a2 c.ops.length c2) := hC3.cells.cell 3; have b1' : w3.cell? ⟨w.heap.size, 0, none⟩ = _ := hT3.cell (by first | assumption | omega | (simp; done) | (simp; omega)) (by omega) 0; have HC3 := Lib.hid hC3; clear hC3)
  refine hK.out _ _ ?_ (fun hHeld => ?_)
  · (go_keep)
  clear hK K
  try simp only [Act.put, List.getElem_toArray, List.getElem_cons_succ, List.getElem_cons_zero, List.setIfInBounds_toArray, List.set_cons_zero, List.set_cons_succ]
  refine wpAnyH_take (i := 7) (v := ?_) rfl (by kernel_rfl) (by kernel_rfl) (by kernel_rfl) (fun _ _ _ h => h) (Or.inl ⟨by rfl, ?_⟩) (by assumption) ?_
  rotate_left 1
  · (intro w hSw; (try dsimp only at hSw); go_simp; (try with_reducible rfl))
  try simp only [Act.put, List.getElem_toArray, List.getElem_cons_succ, List.getElem_cons_zero, List.setIfInBounds_toArray, List.set_cons_zero, List.set_cons_succ]
  refine wpAnyH_done (by kernel_rfl) ?_ _
  go_wp2
  go_ret
  exact ⟨rfl, _, HC3.out, (Turn.of (by (repeat (first | exact Step.refl _ | refine Step.alloc ?_ _ | refine Step.drew ?_ | refine Step.drewN ?_ _ | refine Step.setCell ?_ (by first | exact Nat.le_refl _ | assumption | omega | (simp; done) | (simp; omega)) _ | assumption | refine Step.trans ?_ (by assumption : Step _ _))))).trans hT3⟩
end Go.Proofs.YthflkfgiclcdiaaGreat
