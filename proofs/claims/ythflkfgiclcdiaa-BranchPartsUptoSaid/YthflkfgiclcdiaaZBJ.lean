/-
  What parts come to together, in plain words. No program is named here.
-/
import Derived.Test.YthflkfgiclcdiaaZP1
set_option linter.unusedVariables false
set_option linter.unusedSimpArgs false
namespace Go.Proofs.Ythflkfgiclcdiaa
open Go.Gr
/-- What Join makes of the rows of an op. -/
def cutB (o : DOp) (l : List DPair) : List DPair := if o.kind = 4 then l.take (max o.most 0).toNat else l
/-- Where a part's error stands in the whole. -/
def atB (p : DPart × DOutcome) : Int := p.1.index[p.2.at_.toNat]?.getD 0
def worstStep (acc : Int × Int) (p : DPart × DOutcome) : Int × Int := if p.2.err ≠ 0 then (if acc.1 = 0 ∨ atB p < acc.2 then (p.2.err, atB p) else acc) else acc
def worstB (l : List (DPart × DOutcome)) : Int × Int := l.foldl worstStep (0, 0)
def okWrites (l : List (DPart × DOutcome)) : List DWrite := l.flatMap fun p => if p.2.err ≠ 0 then [] else p.2.writes
def addRows : List (List DPair) → List Int → List (List DPair) → List (List DPair)
  | R, at_ :: idx, row :: rows => addRows (R.set at_.toNat (R[at_.toNat]?.getD [] ++ row)) idx rows
  | R, _, _ => R
def rowStep (R : List (List DPair)) (p : DPart × DOutcome) : List (List DPair) := if p.2.err ≠ 0 then R else addRows R p.1.index p.2.rows
def okRows (n : Nat) (l : List (DPart × DOutcome)) : List (List DPair) := l.foldl rowStep (List.replicate n [])
def cutRows (ops : List DOp) (R : List (List DPair)) : List (List DPair) := List.zipWith cutB ops R
/-- What parts come to together. -/
def bjoinB (ops : List DOp) (l : List (DPart × DOutcome)) : DOutcome := if (worstB l).1 ≠ 0 then ⟨(worstB l).1, (worstB l).2, [], []⟩ else ⟨0, 0, cutRows ops (okRows ops.length l), okWrites l⟩
theorem worstB_succ {l : List (DPart × DOutcome)} {i : Nat} (h : i < l.length) : worstB (l.take (i + 1)) = worstStep (worstB (l.take i)) l[i] := by
  unfold worstB
  rw [List.take_succ_eq_append_getElem h, List.foldl_append]
  rfl
theorem okRows_succ {n : Nat} {l : List (DPart × DOutcome)} {i : Nat} (h : i < l.length) : okRows n (l.take (i + 1)) = rowStep (okRows n (l.take i)) l[i] := by
  unfold okRows
  rw [List.take_succ_eq_append_getElem h, List.foldl_append]
  rfl
theorem okWrites_succ {l : List (DPart × DOutcome)} {i : Nat} (h : i < l.length) : okWrites (l.take (i + 1)) = okWrites (l.take i) ++ (if l[i].2.err ≠ 0 then [] else l[i].2.writes) := by
  unfold okWrites
  rw [List.take_succ_eq_append_getElem h, List.flatMap_append]
  simp
theorem addRows_len : ∀ (idx : List Int) (rows R : List (List DPair)), (addRows R idx rows).length = R.length
  | [], _, _ => by unfold addRows; rfl
  | a :: idx, [], _ => by unfold addRows; rfl
  | a :: idx, r :: rows, R => by unfold addRows; rw [addRows_len idx rows]; simp
theorem okRows_len (n : Nat) (l : List (DPart × DOutcome)) : (okRows n l).length = n := by
  have : ∀ (l : List (DPart × DOutcome)) (R : List (List DPair)), (l.foldl rowStep R).length = R.length := by
    intro l
    induction l with
    | nil => intro R; rfl
    | cons p l ih =>
      intro R
      rw [List.foldl_cons, ih]
      unfold rowStep
      split
      · rfl
      · exact addRows_len _ _ _
  unfold okRows
  rw [this]
  simp
/-- Rows added one index behind the other. -/
theorem addRows_succ : ∀ (idx : List Int) (rows R : List (List DPair)) (k : Nat) (hi : k < idx.length) (hr : k < rows.length), addRows R (idx.take (k + 1)) (rows.take (k + 1)) = (addRows R (idx.take k) (rows.take k)).set idx[k].toNat ((addRows R (idx.take k) (rows.take k))[idx[k].toNat]?.getD [] ++ rows[k])
  | [], _, _, _, hi, _ => by simp at hi
  | _ :: _, [], _, _, _, hr => by simp at hr
  | a :: idx, r :: rows, R, 0, _, _ => by simp [addRows]
  | a :: idx, r :: rows, R, k + 1, hi, hr => by
    have := addRows_succ idx rows (R.set a.toNat (R[a.toNat]?.getD [] ++ r)) k (by simpa using hi) (by simpa using hr)
    simp only [List.take_succ_cons, List.getElem_cons_succ] at this ⊢
    rw [addRows, addRows]
    exact this
/-- A part and what it came to, as they fit together. -/
structure WfPO (n : Nat) (p : DPart) (o : DOutcome) : Prop where
  bad : o.err ≠ 0 → 0 ≤ o.at_ ∧ o.at_ < p.index.length
  good : o.err = 0 → o.rows.length = p.index.length
  idx : ∀ a ∈ p.index, 0 ≤ a ∧ a < n
  few : p.index.length ≤ 64
  small : ∀ r ∈ o.rows, r.length ≤ 1048576
  writes : o.writes.length ≤ 1048576
end Go.Proofs.Ythflkfgiclcdiaa
