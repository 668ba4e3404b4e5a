/-
  Walk: a request in parts (Parts).
-/
import Derived.Test.YthflkfgiclcdiaaW5
import Derived.Test.YthflkfgiclcdiaaW10
import Derived.Test.YthflkfgiclcdiaaCut
namespace Go.Proofs.Ythflkfgiclcdiaa
open Go.RowKit Go.Gr
set_option linter.unusedSimpArgs false
theorem stInts : SliceTy Try.prog 82 3 Ty.int.n := .mk' (z := .int .i64 0) (by_ := 8) Try.underlying82 (by kernel_rfl) rfl (by decide) (by omega)
theorem stParts : SliceTy Try.prog 78 84 tPart.n := .mk' (z := .agg #[.int .i64 0, .slice none 0 0, .slice none 0 0]) (by_ := 56) Try.underlying78 (by kernel_rfl) rfl (by decide) (by omega)

/-- What a shard has of the ops at an index. -/
def selF (sp : List (List UInt8)) (s : Nat) (p : DOp × Nat) : Option (DOp × Int) := if (pieceB sp s p.1).2 = true then some ((pieceB sp s p.1).1, (p.2 : Int)) else none
/-- What a shard has of the first k ops. -/
def selB (sp : List (List UInt8)) (s : Nat) (ops : List DOp) (k : Nat) : List (DOp × Int) := (ops.zipIdx.take k).filterMap (selF sp s)
theorem selB_yes {sp : List (List UInt8)} {s k : Nat} {ops : List DOp} (hk : k < ops.length) (h : (pieceB sp s ops[k]).2 = true) : selB sp s ops (k + 1) = selB sp s ops k ++ [((pieceB sp s ops[k]).1, (k : Int))] := by
  unfold selB
  rw [List.take_succ_eq_append_getElem (by simpa using hk), List.filterMap_append]
  simp [selF, h]
theorem selB_no {sp : List (List UInt8)} {s k : Nat} {ops : List DOp} (hk : k < ops.length) (h : (pieceB sp s ops[k]).2 = false) : selB sp s ops (k + 1) = selB sp s ops k := by
  unfold selB
  rw [List.take_succ_eq_append_getElem (by simpa using hk), List.filterMap_append]
  simp [selF, h]
theorem selB_le {sp : List (List UInt8)} {s k : Nat} {ops : List DOp} : (selB sp s ops k).length ≤ k :=
  Nat.le_trans (List.length_filterMap_le _ _) (by rw [List.length_take]; omega)
def partB (sp : List (List UInt8)) (ops : List DOp) (s : Nat) : DPart := ⟨s, (selB sp s ops ops.length).map (·.1), (selB sp s ops ops.length).map (·.2)⟩
def partF (sp : List (List UInt8)) (ops : List DOp) (s : Nat) : Option DPart := if (selB sp s ops ops.length).length = 0 then none else some (partB sp ops s)
/-- The parts of the first n shards. -/
def partsB (sp : List (List UInt8)) (ops : List DOp) (n : Nat) : List DPart := (List.range n).filterMap (partF sp ops)
theorem partsB_succ {sp : List (List UInt8)} {ops : List DOp} {n : Nat} : partsB sp ops (n + 1) = partsB sp ops n ++ (partF sp ops n).toList := by
  unfold partsB
  rw [List.range_succ, List.filterMap_append]
  simp [List.filterMap_cons]
  cases partF sp ops n <;> rfl
theorem partsB_le {sp : List (List UInt8)} {ops : List DOp} {n : Nat} : (partsB sp ops n).length ≤ n :=
  Nat.le_trans (List.length_filterMap_le _ _) (by simp)

theorem piece_ {w : World} {M : Nat → Prop} {v : Value} {sp : List (List UInt8)} {s : Nat} {cs : List Value} {o : DOp} (h : (Ty.slice Ty.bytes).rep w M [v] sp) (ho : tOp.rep w M cs o) (hs : s ≤ sp.length) :
    Calls Try.prog 71 #[v, .int .i64 (s : Int), .agg cs.toArray] w (PieceRet w M (pieceB sp s o)) := by
  by_cases hk : o.kind = 4
  · exact piece_scan h ho hs hk
  · exact piece_point h ho hs hk
theorem piece_at {w : World} {M : Nat → Prop} {v : Value} {sp : List (List UInt8)} {s : Nat} {cs : List Value} {o : DOp} {r : DOp × Bool} (hr : pieceB sp s o = r) (h : (Ty.slice Ty.bytes).rep w M [v] sp) (ho : tOp.rep w M cs o) (hs : s ≤ sp.length) :
    Calls Try.prog 71 #[v, .int .i64 (s : Int), .agg cs.toArray] w (PieceRet w M r) := hr ▸ piece_ h ho hs
end Go.Proofs.Ythflkfgiclcdiaa
