/-
  Walk: what parts come to together (Join): words for a row of rows that grow.
-/
import Derived.Test.YthflkfgiclcdiaaZB26
import Derived.Test.YthflkfgiclcdiaaZBJ
set_option linter.unusedVariables false
set_option linter.unusedSimpArgs false
namespace Go.Proofs.Ythflkfgiclcdiaa
open Go.RowKit Go.Gr Go.Sort
set_option linter.unusedSimpArgs false
set_option linter.unusedVariables false
theorem Own.neCells {α : Type} {E : Ty α} {e t : TypeId} {w : World} {M : Nat → Prop} {B b : Nat} {v : Value} {xs : List α} {cs : Array Value} (h : Gr.Own E e w M B v xs) (hc : CellsAt w b cs t) (hne : e ≠ t) : v.ownBlock ≠ some b := by
  obtain ⟨_, cells, ho, _⟩ := h
  intro hb
  rcases ho.2 with ⟨rfl, _⟩ | ⟨g, cap, cur, rfl, _, hg, _⟩
  · simp [Value.ownBlock] at hb
  · obtain rfl : g = b := by simpa [Value.ownBlock] using hb
    have h1 : w.heap[g]? = _ := hc
    rw [hg] at h1
    simp only [Option.some.injEq, Obj.cells.injEq] at h1
    exact hne h1.2.1
theorem made_rowsJ (n : Nat) (hn : n ≤ 1048576) (W : World) : (Instr.makeSlice 38 (.int .i64 (n : Int)) (.int .i64 (n : Int))).run Try.prog W = .ok (.slice (some ⟨W.heap.size, 0, none⟩) n n) (W.alloc (.cells (madeCells #[.slice none 0 0] n) 59)) := by
  obtain ⟨i, h1, h2, h3, h4⟩ := info_parts (show (Try.prog.info? 59).map (fun i => (i.zero, i.size, i.bytes)) = some (some (Value.slice none 0 0), 1, 24) by kernel_rfl)
  have := run_make (P := Try.prog) W 38 59 i _ Try.underlying38 h1 h2 .i64 .i64 n n (by omega) (Int.le_refl _) (by rw [h4]; omega) (by omega)
  rw [Int.toNat_natCast, h3, Nat.mul_one] at this
  exact this
abbrev JM (Z : Nat → Prop) (B : Nat) : Nat → Prop := fun b => B ≤ b ∨ Z b
abbrev JX (Z : Nat → Prop) (B : Nat) : Nat → Prop := fun b => b = B ∨ Z b
/-- Block g is a row of rows of the call's own, each in a block of its own; what they hold lies below B. -/
structure Fam (Z : Nat → Prop) (w : World) (B g : Nat) (vs : List Value) (Rs : List (List DPair)) : Prop where
  cells : CellsAt w g vs.toArray 59
  len : vs.length = Rs.length
  gB : B ≤ g
  own : ∀ i (hi : i < vs.length) (hr : i < Rs.length), Gr.Own tPair 95 w (JM Z B) B vs[i] Rs[i]
  apart : ∀ i j (hi : i < vs.length) (hj : j < vs.length), i ≠ j → ∀ b, vs[i].ownBlock = some b → vs[j].ownBlock ≠ some b
theorem Fam.ne {Z : Nat → Prop} {w : World} {B g : Nat} {vs : List Value} {Rs : List (List DPair)} (h : Fam Z w B g vs Rs) {i : Nat} (hi : i < vs.length) : vs[i].ownBlock ≠ some g :=
  Own.neCells (h.own i hi (by rw [← h.len]; exact hi)) h.cells (by decide)
/-- All that is turned is one block from B on that is none of the rows. -/
theorem Fam.keep {Z : Nat → Prop} {w w' : World} {B g : Nat} {vs : List Value} {Rs : List (List DPair)} (h : Fam Z w B g vs Rs) {row : Option Nat} (hk : ∀ b, b < w.heap.size → row ≠ some b → w'.heap[b]? = w.heap[b]?) (hB : ∀ b, row = some b → B ≤ b) (hg : row ≠ some g) (ho : ∀ i (hi : i < vs.length) b, row = some b → vs[i].ownBlock ≠ some b) : Fam Z w' B g vs Rs := by
  refine ⟨h.cells.kept (hk g h.cells.lt hg), h.len, h.gB, fun i hi hr => ?_, h.apart⟩
  have h1 := h.own i hi hr
  exact Gr.Own.kept h1 (fun b hb hm => hk b hb (fun e => hm (.inl (hB b e)))) (fun b hb => hk b (h1.lt hb).2 (fun e => ho i hi b e hb))
theorem Fam.step {Z : Nat → Prop} {w w' : World} {B g : Nat} {vs : List Value} {Rs : List (List DPair)} (h : Fam Z w B g vs Rs) (hs : Step w w') : Fam Z w' B g vs Rs :=
  h.keep (row := none) (fun b hb _ => hs.heap hb) (fun b e => by cases e) (by simp) (fun i hi b e => by cases e)
theorem Fam.put {Z : Nat → Prop} {w w6 : World} {B g i : Nat} {vs : List Value} {Rs : List (List DPair)} {v6 : Value} {R6 : List DPair} (h : Fam Z w B g vs Rs) (hi : i < vs.length) (hr : i < Rs.length) (hA : Gr.Own tPair 95 w6 (JM Z B) B v6 R6) (hG : ∀ b, b < w.heap.size → some b ≠ vs[i].ownBlock → w6.heap[b]? = w.heap[b]?) (hsz : w.heap.size ≤ w6.heap.size) (hn : v6.ownBlock = vs[i].ownBlock ∨ v6.ownBlock = some w.heap.size) :
    Fam Z (w6.setCell ⟨g, i, none⟩ v6) B g (vs.set i v6) (Rs.set i R6) := by
  have hgi := h.ne hi
  have hgl := h.cells.lt
  have hc6 := h.cells.kept (hG g hgl (fun e => hgi e.symm))
  have h6g : v6.ownBlock ≠ some g := by
    rcases hn with hn | hn
    · rw [hn]; exact hgi
    · rw [hn]; intro e; injection e with e; omega
  have hlow : ∀ b, b < w.heap.size → ¬ (B ≤ b) → (w6.setCell ⟨g, i, none⟩ v6).heap[b]? = w.heap[b]? := fun b hb hm =>
    (heap_setCell_other _ _ _ _ (fun e => hm (by have e' : b = g := e; rw [e']; exact h.gB))).trans (hG b hb (fun e => hm ((h.own i hi hr).lt e.symm).1))
  refine ⟨?_, by simpa using h.len, h.gB, fun j hj hjr => ?_, fun j k hj hk hjk b hb => ?_⟩
  · have := CellsAt.set hc6 i v6
    simpa using this
  · by_cases hij : i = j
    · subst hij
      rw [List.getElem_set_self, List.getElem_set_self]
      exact Gr.Own.kept hA (fun b _ hm => heap_setCell_other _ _ _ _ (fun e => hm (.inl (by have e' : b = g := e; rw [e']; exact h.gB)))) (fun b hb => heap_setCell_other _ _ _ _ (fun e => h6g (by have e' : b = g := e; rw [← e']; exact hb)))
    · rw [List.getElem_set_ne hij, List.getElem_set_ne hij]
      have hj' : j < vs.length := by simpa using hj
      have h1 := h.own j hj' (by simpa using hjr)
      refine Gr.Own.kept h1 (fun b hb hm => hlow b hb (fun e => hm (.inl e))) (fun b hb => ?_)
      exact (heap_setCell_other _ _ _ _ (fun e => h.ne hj' (by have e' : b = g := e; rw [← e']; exact hb))).trans (hG b (h1.lt hb).2 (fun e => h.apart j i hj' hi (Ne.symm hij) b hb e.symm))
  · have hj' : j < vs.length := by simpa using hj
    have hk' : k < vs.length := by simpa using hk
    have hlt : ∀ q (hq : q < vs.length), vs[q].ownBlock ≠ some w.heap.size := fun q hq e => by
      have := ((h.own q hq (by rw [← h.len]; exact hq)).lt e).2
      omega
    by_cases hij : i = j
    · subst hij
      rw [List.getElem_set_self] at hb
      rw [List.getElem_set_ne hjk]
      rcases hn with hn | hn
      · rw [hn] at hb; exact h.apart i k hj' hk' hjk b hb
      · rw [hn] at hb; obtain rfl : w.heap.size = b := by injection hb
        exact hlt k hk'
    · rw [List.getElem_set_ne hij] at hb
      by_cases hik : i = k
      · subst hik
        rw [List.getElem_set_self]
        rcases hn with hn | hn
        · rw [hn]; exact h.apart j i hj' hk' hjk b hb
        · rw [hn]; intro e; injection e with e; subst e; exact hlt j hj' hb
      · rw [List.getElem_set_ne hik]
        exact h.apart j k hj' hk' hjk b hb
theorem fam_made {Z : Nat → Prop} (W : World) (n : Nat) {B k : Nat} (hk : k = W.heap.size) (hB : B ≤ k) : Fam Z (W.alloc (.cells (madeCells #[.slice none 0 0] n) 59)) B k (List.replicate n (.slice none 0 0)) (List.replicate n []) := by
  refine ⟨?_, by simp, hB, fun i hi hr => ?_, fun i j hi hj _ b hb => ?_⟩
  · unfold CellsAt
    rw [heap_alloc_at hk]
    congr 2
    apply Array.ext'
    rw [toList_madeCells_one]
  · rw [List.getElem_replicate, List.getElem_replicate]
    exact Gr.Own.nil
  · rw [List.getElem_replicate] at hb
    simp [Value.ownBlock] at hb
theorem Fam.rows {Z : Nat → Prop} {w : World} {B g : Nat} {vs : List Value} {Rs : List (List DPair)} (h : Fam Z w B g vs Rs) {X : Nat → Prop} (hX : ∀ b, X b → (B ≤ b ∨ Z b) ∧ ∀ i (hi : i < vs.length), vs[i].ownBlock ≠ some b) : RowsAt w X g vs Rs := by
  refine ⟨h.cells, h.len, fun i hi hr => ?_⟩
  refine Gr.Own.rep' (Gr.Own.less (h.own i hi hr) (fun b _ hb => ?_)) (fun b hb hm => ?_)
  · rcases hb with rfl | hb
    · exact .inl h.gB
    · exact (hX b hb).1
  · rcases hm with rfl | hm
    · exact h.ne hi hb
    · exact (hX b hm).2 i hi hb
end Go.Proofs.Ythflkfgiclcdiaa
