/-
  The reference's journal in plain words; how its files lie in memory.
-/
import Derived.Test.YthebdlkmoailaaaGreatDoorZP7
import Derived.Test.YthebdlkmoailaaaGreatDoorZCells
set_option linter.unusedVariables false
set_option linter.unusedSimpArgs false
namespace Go.Proofs.YthebdlkmoailaaaGreatDoor
open Go.RowKit Go.Gr
set_option linter.unusedSimpArgs false
set_option linter.unusedVariables false
/-- A file of the reference. -/
structure RFile where
  from_ : Nat
  recs : List (List UInt8)
  size : Int
def RFile.none : RFile := ⟨0, [], 0⟩
instance : Inhabited RFile := ⟨RFile.none⟩
/-- A journal of the reference. -/
structure RLog where
  files : List RFile
  serial : Nat
  closed : Bool
def rEnd (F : RFile) : Nat := F.from_ + F.recs.length
def lastR (fs : List RFile) : RFile := fs.getLast?.getD RFile.none
def rNext (fs : List RFile) : Nat := rEnd (lastR fs)
def rFirst : List RFile → Nat
  | [] => 0
  | F :: _ => F.from_
def rFresh (W : RLog) (most : Int) : Bool := W.files.isEmpty || (decide (most ≤ (lastR W.files).size) || (W.closed && decide (0 < (lastR W.files).recs.length)))
def rOpen (W : RLog) (most : Int) : RFile := if rFresh W most then ⟨rNext W.files, [], ((headB (W.serial + 1) (rNext W.files)).length : Int)⟩ else lastR W.files
def rGrown (F : RFile) (recs : List (List UInt8)) : RFile := ⟨F.from_, F.recs ++ recs, F.size + ((sealsB recs).length : Int)⟩
def rAppend (W : RLog) (most : Int) (recs : List (List UInt8)) : RLog :=
  if recs = [] then W else ⟨(if rFresh W most then W.files else W.files.dropLast) ++ [rGrown (rOpen W most) recs], if rFresh W most then W.serial + 1 else W.serial, false⟩
def rDrop (below : Nat) : List RFile → List RFile
  | F :: G :: fs => if rEnd F ≤ below then rDrop below (G :: fs) else F :: G :: fs
  | fs => fs
def rAll (fs : List RFile) : List (List UInt8) := (fs.map (·.recs)).flatten
def rClosed (W : RLog) : Nat := if W.closed || W.files.isEmpty then rNext W.files else (lastR W.files).from_
theorem lastR_snoc (fs : List RFile) (f : RFile) : lastR (fs ++ [f]) = f := by simp [lastR]
theorem filesR_cases (fs : List RFile) : fs = [] ∨ ∃ i f, fs = i ++ [f] := by
  rcases List.eq_nil_or_concat fs with h | ⟨i, f, h⟩
  · exact .inl h
  · exact .inr ⟨i, f, by simpa using h⟩
def tRFile : Ty RFile where
  n := 3
  rep := fun w M cs x => ∃ c1, cs = [.int .u64 (x.from_ : Int), c1, .int .i64 x.size] ∧ x.from_ + x.recs.length < 18446744073709551616 ∧ (Ty.slice Ty.bytes).rep w M [c1] x.recs ∧ I64 x.size
  len := by rintro w M cs x ⟨_, rfl, _⟩; rfl
  one := by
    rintro w M cs x ⟨e0, rfl, h0, h1, h2⟩ u hu
    simp only [List.mem_cons, List.not_mem_nil, or_false] at hu
    rcases hu with rfl | rfl | rfl
    · rfl
    · exact (Ty.slice Ty.bytes).one h1 _ (by simp)
    · rfl
  keep := by
    rintro w w2 M M2 cs x ⟨e0, rfl, h0, h1, h2⟩ hk
    exact ⟨e0, rfl, h0, (Ty.slice Ty.bytes).keep h1 hk, h2⟩
theorem stRFile : SliceTy Tryz.prog 53 107 tRFile.n := .mk' (z := .agg #[.int .u64 0, .slice none 0 0, .int .i64 0]) (by_ := 40) Tryz.underlying53 (by kernel_rfl) rfl (by decide) (by omega)
theorem tRFile.cells {w : World} {M : Nat → Prop} {a : Option Addr} {n c k : Nat} {xs : List RFile} (h : (Ty.slice tRFile).rep w M [.slice a n c] xs) (hk : k < xs.length) :
    ∃ g off ra rc, a = some ⟨g, off, none⟩ ∧ g < w.heap.size ∧ w.cell? ⟨g, off + k * 3, none⟩ = some (.int .u64 (xs[k].from_ : Int)) ∧ w.cell? ⟨g, off + k * 3 + 1, none⟩ = some (.slice ra xs[k].recs.length rc) ∧ w.cell? ⟨g, off + k * 3 + 2, none⟩ = some (.int .i64 xs[k].size) ∧ xs[k].from_ + xs[k].recs.length < 18446744073709551616 ∧ (Ty.slice Ty.bytes).rep w M [.slice ra xs[k].recs.length rc] xs[k].recs ∧ I64 xs[k].size := by
  obtain ⟨g, off, es, rfl, hg, _, ⟨c1, rfl, h1, h2, h3⟩, hc⟩ := Ty.slice_at h hk
  obtain ⟨ra, rc, hv, _⟩ := Ty.slice_val h2
  subst hv
  exact ⟨g, off, ra, rc, rfl, hg, hc 0 _ rfl, hc 1 _ rfl, hc 2 _ rfl, h1, h2, h3⟩
end Go.Proofs.YthebdlkmoailaaaGreatDoor
