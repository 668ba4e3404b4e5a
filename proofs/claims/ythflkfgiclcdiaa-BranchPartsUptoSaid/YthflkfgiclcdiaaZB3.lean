/-
  A request upon pairs, in plain words.
-/
import Derived.Test.YthflkfgiclcdiaaZP2
import Derived.Test.YthflkfgiclcdiaaZP5
set_option linter.unusedVariables false
set_option linter.unusedSimpArgs false
namespace Go.Proofs.Ythflkfgiclcdiaa
open Go.Gr
/-- One operation: what it answers and the writes behind it; none: a guard that does not hold. -/
def doB (P : List DPair) (ws : List DWrite) (o : DOp) : Option (List DPair × List DWrite) :=
  if o.kind = 2 then some ([], putK DWrite.key ⟨o.key, o.value, false⟩ ws)
  else if o.kind = 3 then some ([], putK DWrite.key ⟨o.key, [], true⟩ ws)
  else if o.kind = 4 then some (scanB (overB P ws) o.key o.value o.most.toNat, ws)
  else if o.kind = 1 then some ((getK DPair.key (overB P ws) o.key).toList, ws)
  else if o.kind = 6 then (if getK DPair.key (overB P ws) o.key = none then some ([], ws) else none)
  else match getK DPair.key (overB P ws) o.key with
    | none => none
    | some p => if p.value = o.value then some ([], ws) else none
def runL (P : List DPair) : List DWrite → List (List DPair) → Nat → List DOp → DOutcome
  | ws, rows, _, [] => ⟨0, 0, rows, ws⟩
  | ws, rows, i, o :: r => match doB P ws o with
    | none => ⟨12, i, [], []⟩
    | some (x, ws') => runL P ws' (rows ++ [x]) (i + 1) r
/-- What a request comes to. -/
def runB (P : List DPair) (ops : List DOp) : DOutcome := if checkB ops ≠ 0 then ⟨checkB ops, 0, [], []⟩ else runL P [] [] 0 ops
/-- What is stored behind it. -/
def nextB (P : List DPair) (ops : List DOp) : List DPair := if (runB P ops).err ≠ 0 then P else overB P (runB P ops).writes
theorem doB_rising {P : List DPair} {ws : List DWrite} (h : RisW ws) {o : DOp} {x : List DPair} {ws' : List DWrite} (hd : doB P ws o = some (x, ws')) : RisW ws' := by
  unfold doB at hd
  repeat' split at hd
  all_goals first
    | (cases hd; done)
    | (simp only [Option.some.injEq, Prod.mk.injEq] at hd; obtain ⟨_, rfl⟩ := hd; first | exact h | exact Rising.put h)
theorem doB_length {P : List DPair} {ws : List DWrite} {o : DOp} {x : List DPair} {ws' : List DWrite} (hd : doB P ws o = some (x, ws')) : ws'.length ≤ ws.length + 1 := by
  unfold doB at hd
  repeat' split at hd
  all_goals first
    | (cases hd; done)
    | (simp only [Option.some.injEq, Prod.mk.injEq] at hd; obtain ⟨_, rfl⟩ := hd; first | (exact Nat.le_succ _) | exact putK_length)
theorem runL_rising {P : List DPair} : ∀ {ops : List DOp} {ws : List DWrite} {rows : List (List DPair)} {i : Nat}, RisW ws → RisW (runL P ws rows i ops).writes
  | [], _, _, _, h => h
  | o :: r, ws, rows, i, h => by
    unfold runL
    cases hd : doB P ws o with
    | none => exact List.Pairwise.nil
    | some y => obtain ⟨x, ws'⟩ := y; exact runL_rising (doB_rising h hd)
theorem runB_rising {P : List DPair} {ops : List DOp} : RisW (runB P ops).writes := by
  unfold runB
  split
  · exact List.Pairwise.nil
  · exact runL_rising List.Pairwise.nil
theorem runL_err {P : List DPair} : ∀ {ops : List DOp} {ws : List DWrite} {rows : List (List DPair)} {i : Nat}, (runL P ws rows i ops).err = 0 ∨ (runL P ws rows i ops).err = 12
  | [], _, _, _ => .inl rfl
  | o :: r, ws, rows, i => by
    unfold runL
    cases hd : doB P ws o with
    | none => exact .inr rfl
    | some y => obtain ⟨x, ws'⟩ := y; exact runL_err
end Go.Proofs.Ythflkfgiclcdiaa
