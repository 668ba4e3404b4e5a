/-
  Words for maps that a call has made: keys are ints, elements are structs, read by a 'Ty'. No program is named here.
  Words for maps that a call has made, more: an entry is struck. No program is named here.
  Rows of bytes that lie apart: turned in place, appended to, with others beside them. No program is named here.
  A call's own row, as a source and as a slice.
-/
import Derived.Test.YthebdlkmoailaaaGreatDoorZRow
import Derived.Maps.OwnSet
import Derived.Lib.SlKeysI
set_option linter.unusedVariables false
set_option linter.unusedSimpArgs false
namespace Go.Gr
open Go.Maps
set_option linter.unusedSimpArgs false
/-- An element as it stands. -/
abbrev rawElem : Value → Option (DataW Value × List MemPlace) := fun v => some (.held v, [])
section
variable {P : Program} {k t e : TypeId} {w w' : World} {b : Nat} {l : List (Int × Value)} {s : Int}
end
section
variable {α : Type} {E : Ty α} {P : Program} {k t e : TypeId} {w w' : World} {M M' : Nat → Prop} {b : Nat} {xs : List (Int × α)} {s : Int}
end
end Go.Gr
namespace Go.Gr
open Go.RowKit
/-- From w to w' only blocks of M have turned. -/
structure Turn (M : Nat → Prop) (w w' : World) : Prop where
  os : w'.os = w.os
  tape : w'.tape = w.tape
  output : w'.output = w.output
  size : w.heap.size ≤ w'.heap.size
  block : ∀ k, k < w.heap.size → ¬ M k → w'.heap[k]? = w.heap[k]?
theorem Turn.of {M : Nat → Prop} {w w' : World} (h : Step w w') : Turn M w w' := ⟨Below.os h, Below.tape h, Below.output h, Below.size h, fun _ h1 _ => Below.block h _ h1⟩
theorem Turn.refl (M : Nat → Prop) (w : World) : Turn M w w := Turn.of (Step.refl w)
theorem Turn.trans {M : Nat → Prop} {a b c : World} (h : Turn M a b) (k : Turn M b c) : Turn M a c :=
  ⟨k.os.trans h.os, k.tape.trans h.tape, k.output.trans h.output, Nat.le_trans h.size k.size, fun i h1 h2 => (k.block i (Nat.lt_of_lt_of_le h1 h.size) h2).trans (h.block i h1 h2)⟩
theorem Turn.then {M : Nat → Prop} {a b c : World} (h : Turn M a b) (k : Step b c) : Turn M a c := h.trans (Turn.of k)
theorem Turn.mono {M M' : Nat → Prop} {w w' : World} (h : Turn M w w') (hM : ∀ b, b < w.heap.size → M b → M' b) : Turn M' w w' := ⟨h.os, h.tape, h.output, h.size, fun b h1 h2 => h.block b h1 fun h3 => h2 (hM b h1 h3)⟩
theorem Turn.alloc {M : Nat → Prop} {w w' : World} (h : Turn M w w') (o : Obj) : Turn M w (w'.alloc o) := h.then ((Step.refl _).alloc o)
theorem Turn.drew {M : Nat → Prop} {w w' : World} (h : Turn M w w') : Turn M w w'.drew := h.then (Step.refl _).drew
theorem Turn.setCell {M : Nat → Prop} {w w' : World} (h : Turn M w w') {p : Addr} (hp : p.block < w.heap.size → M p.block) (u : Value) : Turn M w (w'.setCell p u) := by
  have hb := Below.setCell (B := 0) (Below.refl 0 w') (p := p) (Nat.zero_le _) u
  exact ⟨hb.os.trans h.os, hb.tape.trans h.tape, hb.output.trans h.output, Nat.le_trans h.size hb.size, fun b h1 h2 => (Below.heap_setCell w' p u b (fun e => h2 (e ▸ hp (e ▸ h1)))).trans (h.block b h1 h2)⟩
theorem Turn.grown {M : Nat → Prop} {w w' w2 : World} (h : Turn M w w') {row : Option Nat} (hg : w'.grownBy w2 row) (hr : ∀ k, row = some k → k < w.heap.size → M k) : Turn M w w2 := by
  have hb := Below.grown (B := 0) (Below.refl 0 w') hg (Nat.zero_le _) (fun _ _ => Nat.zero_le _)
  exact ⟨hb.os.trans h.os, hb.tape.trans h.tape, hb.output.trans h.output, Nat.le_trans h.size hb.size, fun b h1 h2 => (hg.block b (Nat.lt_of_lt_of_le h1 h.size) (fun e => h2 (hr b e.symm h1))).trans (h.block b h1 h2)⟩
theorem Turn.kept {M : Nat → Prop} {w w' : World} (h : Turn M w w') : Kept M w w' := h.block
theorem Turn.step {M : Nat → Prop} {w0 w w' : World} (hs : Step w0 w) (h : Turn M w w') (hM : ∀ b, M b → w0.heap.size ≤ b) : Step w0 w' :=
  Step.of ⟨h.os.trans (Below.os hs), h.tape.trans (Below.tape hs), h.output.trans (Below.output hs), Nat.le_trans hs.size h.size, fun b hb => (h.block b (Nat.lt_of_lt_of_le hb hs.size) (fun e => by have := hM b e; omega)).trans (hs.heap hb)⟩
theorem Turn.cell {M : Nat → Prop} {w w' : World} (h : Turn M w w') {b : Nat} (hb : b < w.heap.size) (hM : ¬ M b) (o : Nat) : w'.cell? ⟨b, o, none⟩ = w.cell? ⟨b, o, none⟩ := cell_eq (h.block b hb hM)
theorem wp_code {P : Program} {c : Code} {K : Exit → Act → World → Prop} {a : Act} {w : World} (F : World → Prop) (hF : F w) (h : ∀ w', F w' → Code.wp P c K a w') : Code.wp P c K a w := h w hF
end Go.Gr

namespace Go.Gr
open Go.Maps Go.RowKit
set_option linter.unusedSimpArgs false
section
variable {P : Program} {k t e : TypeId} {w w' : World} {b : Nat} {l : List (Int × Value)} {s : Int}
end
section
variable {α : Type} {E : Ty α} {P : Program} {k t e : TypeId} {w w' : World} {M M' : Nat → Prop} {b : Nat} {xs : List (Int × α)} {s : Int}
end
end Go.Gr

namespace Go.Gr
open Go.RowKit
set_option linter.unusedSimpArgs false
/-- A byte as it stands in a cell. -/
abbrev bv (b : UInt8) : Value := .int .u8 (b.toNat : Int)
/-- A row of bytes that has its block for itself, from its first cell on. -/
def BR (e : TypeId) (w : World) (v : Value) (xs : List UInt8) : Prop := xs.length ≤ lim ∧ w.ownsRow 0 e 1 v xs.length (xs.map bv)
section
variable {e : TypeId} {w w' : World} {M : Nat → Prop} {B : Nat} {v u : Value} {xs zs : List UInt8}
theorem BR.own (h : BR e w v xs) : Own Ty.byte e w M 0 v xs := by
  refine ⟨h.1, _, h.2, fun i hi => ?_⟩
  show grp _ 1 i = _
  unfold grp
  apply List.ext_getElem?
  intro j
  rw [List.getElem?_take, List.getElem?_drop]
  rcases j with _ | j
  · simp [hi]
  · simp
theorem BR.of (h : Own Ty.byte e w M B v xs) : BR e w v xs := by
  obtain ⟨hl, cells, ho, hr⟩ := h
  have hc : cells = xs.map bv := by
    have h1 : cells.length = xs.length := by have := ho.1; simpa [Ty.byte] using this
    refine List.ext_getElem (by simp [h1]) fun i hi hi' => ?_
    have h2 : grp cells 1 i = [bv xs[i]] := hr i (by omega)
    have h3 := (grp_getElem (cells := cells) (n := 1) (i := i) (j := 0) (u := bv xs[i]) (by rw [h2]; rfl)).1
    simp only [Nat.mul_one, Nat.add_zero] at h3
    rw [List.getElem?_eq_getElem hi] at h3
    simpa using h3
  subst hc
  refine ⟨hl, ho.1, ?_⟩
  rcases ho.2 with hn | ⟨g, cap, cur, rfl, _, rest⟩
  · exact .inl hn
  · exact .inr ⟨g, cap, cur, rfl, Nat.zero_le _, rest⟩
theorem BR.le (h : BR e w v xs) : xs.length ≤ lim := h.1
theorem BR.lt (h : BR e w v xs) {g : Nat} (hg : v.ownBlock = some g) : g < w.heap.size := (own_lt h.2 hg).2
theorem BR.kept (h : BR e w v xs) (hk : ∀ g, v.ownBlock = some g → w'.heap[g]? = w.heap[g]?) : BR e w' v xs := ⟨h.1, own_kept h.2 hk⟩
theorem BR.step (h : BR e w v xs) (hs : Step w w') : BR e w' v xs := h.kept fun _ hg => hs.heap (h.lt hg)
theorem BR.turn {M : Nat → Prop} (h : BR e w v xs) (hs : Turn M w w') (hM : ∀ g, v.ownBlock = some g → ¬ M g) : BR e w' v xs := h.kept fun g hg => hs.block g (h.lt hg) (hM g hg)
theorem BR.val (h : BR e w v xs) : ∃ a c, v = .slice a xs.length c := by
  rcases h.2.2 with ⟨hv, h0⟩ | ⟨g, cap, cur, hv, _⟩
  · exact ⟨none, 0, by rw [hv, h0]⟩
  · exact ⟨_, cap, hv⟩
theorem BR.one (h : BR e w v xs) : v.oneCell' = true := by
  obtain ⟨a, c, rfl⟩ := h.val
  rfl
theorem BR.rep (h : BR e w v xs) (hM : ∀ b, v.ownBlock = some b → ¬ M b) : Ty.bytes.rep w M [v] xs := Own.rep' h.own hM
theorem BR.at {a : Option Addr} {n c k : Nat} (h : BR e w (.slice a n c) xs) (hk : k < xs.length) :
    ∃ g, a = some ⟨g, 0, none⟩ ∧ g < w.heap.size ∧ w.cell? ⟨g, k, none⟩ = some (bv xs[k]) ∧ w.frozen? ⟨g, k, none⟩ = false := by
  rcases h.2.2 with ⟨hv, h0⟩ | ⟨g, cap, cur, hv, hb, hg, hnc, hcm, hcs, htake⟩
  · omega
  · obtain ⟨rfl, rfl, rfl⟩ : a = some ⟨g, 0, none⟩ ∧ n = xs.length ∧ c = cap := by simpa using hv
    refine ⟨g, rfl, (Array.getElem?_eq_some_iff.1 hg).1, ?_, frozen_of_row w g k cur e hg⟩
    rw [cell_of_row w g k cur e (0, 0) hg]
    have h1 : (xs.map bv)[k]? = some (bv xs[k]) := by simp [hk]
    rw [← htake, List.getElem?_take, if_pos (by omega)] at h1
    simpa using h1
/-- What is shorter of the same block. -/
theorem BR.pre {n c : Nat} (h : BR e w (.slice (some ⟨B, 0, none⟩) n c) xs) (hz : zs <+: xs) : BR e w (.slice (some ⟨B, 0, none⟩) zs.length c) zs := by
  obtain ⟨t, rfl⟩ := hz
  rcases h.2.2 with ⟨hv, h0⟩ | ⟨g, cap, cur, hv, hb, hg, hnc, hcm, hcs, htake⟩
  · cases hv
  · obtain ⟨rfl, rfl, rfl⟩ : B = g ∧ n = (zs ++ t).length ∧ c = cap := by simpa using hv
    simp only [List.length_append] at hnc htake
    refine ⟨by have := h.1; simp at this; omega, by simp, .inr ⟨B, c, cur, rfl, Nat.zero_le _, hg, by omega, hcm, hcs, ?_⟩⟩
    have := congrArg (List.take (zs.length * 1)) htake
    rw [List.take_take, List.map_append, List.take_left' (by simp)] at this
    rw [← this]
    congr 1
    omega
/-- Of two rows of one block the room is the same. -/
theorem BR.cap {g n n' c c' : Nat} (h : BR e w (.slice (some ⟨g, 0, none⟩) n c) xs) (h' : BR e w (.slice (some ⟨g, 0, none⟩) n' c') zs) : c = c' := by
  rcases h.2.2 with ⟨hv, _⟩ | ⟨g1, cap, cur, hv, _, hg, _, _, hcs, _⟩
  · cases hv
  rcases h'.2.2 with ⟨hv', _⟩ | ⟨g2, cap', cur', hv', _, hg', _, _, hcs', _⟩
  · cases hv'
  obtain ⟨rfl, _, rfl⟩ : g = g1 ∧ n = xs.length ∧ c = cap := by simpa using hv
  obtain ⟨rfl, _, rfl⟩ : g = g2 ∧ n' = zs.length ∧ c' = cap' := by simpa using hv'
  rw [hg] at hg'
  simp only [Option.some.injEq, Obj.cells.injEq] at hg'
  obtain ⟨rfl, _⟩ := hg'
  omega
end
section
variable {P : Program} {e t : TypeId} {w : World} {v sv : Value} {xs ys : List UInt8}
end
end Go.Gr

namespace Go.Proofs.YthebdlkmoailaaaGreatDoor
open Go.RowKit Go.Gr Go.Maps
set_option linter.unusedSimpArgs false
set_option linter.unusedVariables false
theorem own_slice {α : Type} {E : Ty α} {e : TypeId} {w : World} {M : Nat → Prop} {B : Nat} {v : Value} {xs : List α} (h : Gr.Own E e w M B v xs) : (Ty.slice E).rep w (fun _ => False) [v] xs :=
  (Gr.Own.less h (M' := fun _ => False) (fun _ _ h => h.elim)).rep' (fun _ _ h => h)
end Go.Proofs.YthebdlkmoailaaaGreatDoor
