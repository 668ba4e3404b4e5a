/-
  A block that is just these cells; stores of whole structs. No program is named here.
-/
import Derived.Test.YthebdlkmoailaaaGreatDoorZRow
import Derived.Test.YthebdlkmoailaaaGreatDoorZCut
import Derived.Laws.Tables
import Derived.Laws.CopyOwn
set_option linter.unusedVariables false
set_option linter.unusedSimpArgs false
namespace Go.Gr
open Go.RowKit
/-- Block b is just these cells. -/
def CellsAt (w : World) (b : Nat) (cs : Array Value) (e : TypeId) : Prop := w.heap[b]? = some (.cells cs e (0, 0))
section
variable {w w' : World} {b : Nat} {cs : Array Value} {e : TypeId}
theorem CellsAt.cell (h : CellsAt w b cs e) (i : Nat) : w.cell? ⟨b, i, none⟩ = cs[i]? := cell_of_row w b i cs _ (0, 0) h
theorem CellsAt.frozen (h : CellsAt w b cs e) (i : Nat) : w.frozen? ⟨b, i, none⟩ = false := frozen_of_row w b i cs _ h
theorem CellsAt.lt (h : CellsAt w b cs e) : b < w.heap.size := (Array.getElem?_eq_some_iff.1 h).1
theorem CellsAt.new {k : Nat} (h : k = w.heap.size) : CellsAt (w.alloc (.cells cs e)) k cs e := heap_alloc_at h
theorem CellsAt.set (h : CellsAt w b cs e) (i : Nat) (u : Value) : CellsAt (w.setCell ⟨b, i, none⟩ u) b (cs.setIfInBounds i u) e := heap_setCell_same w b i cs _ u h
theorem CellsAt.other (h : CellsAt w b cs e) {p : Addr} (hp : b ≠ p.block) (u : Value) : CellsAt (w.setCell p u) b cs e := (heap_setCell_other _ _ _ _ hp).trans h
theorem CellsAt.kept (h : CellsAt w b cs e) (hb : w'.heap[b]? = w.heap[b]?) : CellsAt w' b cs e := hb.trans h
theorem CellsAt.step (h : CellsAt w b cs e) (hb : Step w w') : CellsAt w' b cs e := h.kept (hb.heap h.lt)
end
section
variable {w w' : World} {b g : Nat} {cs cs' : Array Value} {e : TypeId}
theorem CellsAt.row (h : CellsAt w b cs e) (cs' : Array Value) : CellsAt (w.setRow b cs') b cs' e := setRow_heap w b cs cs' e _ h
theorem Step.setRow (h : Step w w') (hg : w.heap.size ≤ g) (cs' : Array Value) : Step w (w'.setRow g cs') := below_setRow h hg cs'
end
/-- Any n cells. -/
def Ty.cells (n : Nat) : Ty Unit where
  n := n
  rep := fun _ _ cs _ => cs.length = n ∧ ∀ u ∈ cs, u.oneCell' = true
  len := fun h => h.1
  one := fun h => h.2
  keep := fun h _ => h
/-- A row of which just the length is known. -/
def units (n : Nat) : List Unit := List.replicate n ()
end Go.Gr
