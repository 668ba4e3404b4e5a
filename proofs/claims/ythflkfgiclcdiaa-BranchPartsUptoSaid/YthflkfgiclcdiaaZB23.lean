/-
  A request in parts, in plain words: what a shard has of pairs with writes laid over them.
-/
import Derived.Test.YthflkfgiclcdiaaZB22
set_option linter.unusedVariables false
set_option linter.unusedSimpArgs false
namespace Go.Proofs.Ythflkfgiclcdiaa
open Go.Gr
/-- The writes of a shard. -/
def shardW (ws : List DWrite) (sp : List (List UInt8)) (s : Nat) : List DWrite := ws.filter fun w => decide (routeB sp w.key = s)
theorem shardW_rising {ws : List DWrite} (h : RisW ws) (sp : List (List UInt8)) (s : Nat) : RisW (shardW ws sp s) := Rising.filter h
theorem getK_shardB {P : List DPair} {sp : List (List UInt8)} {s : Nat} {k : List UInt8} : getK DPair.key (shardB P sp s) k = if routeB sp k = s then getK DPair.key P k else none := by
  have h := getK_filterK (key := DPair.key) (f := fun k => decide (routeB sp k = s)) (l := P) (k := k)
  unfold shardB
  rw [h]
  by_cases hr : routeB sp k = s <;> simp [hr]
theorem getK_shardW {ws : List DWrite} {sp : List (List UInt8)} {s : Nat} {k : List UInt8} : getK DWrite.key (shardW ws sp s) k = if routeB sp k = s then getK DWrite.key ws k else none := by
  have h := getK_filterK (key := DWrite.key) (f := fun k => decide (routeB sp k = s)) (l := ws) (k := k)
  unfold shardW
  rw [h]
  by_cases hr : routeB sp k = s <;> simp [hr]
/-- A shard of pairs with writes over them is its pairs with its writes over them. -/
theorem shard_over {P : List DPair} {ws : List DWrite} (hP : RisP P) (hw : RisW ws) (sp : List (List UInt8)) (s : Nat) : shardB (overB P ws) sp s = overB (shardB P sp s) (shardW ws sp s) := by
  refine Rising.ext_get (shardB_rising (hP.over ws) sp s) ((shardB_rising hP sp s).over _) fun k => ?_
  rw [getK_shardB, getK_over hw, getK_over (shardW_rising hw sp s), getK_shardW, getK_shardB]
  by_cases hr : routeB sp k = s <;> simp [hr]
/-- A write among the others: in its own shard alone. -/
theorem shardW_put {ws : List DWrite} (hw : RisW ws) (x : DWrite) (sp : List (List UInt8)) (s : Nat) : shardW (putK DWrite.key x ws) sp s = if routeB sp x.key = s then putK DWrite.key x (shardW ws sp s) else shardW ws sp s := by
  by_cases hx : routeB sp x.key = s
  · rw [if_pos hx]
    refine Rising.ext_get (shardW_rising hw.put sp s) (shardW_rising hw sp s).put fun k => ?_
    rw [getK_shardW, getK_put, getK_put, getK_shardW]
    by_cases hk : k = x.key
    · subst hk; simp [hx]
    · simp [hk]
  · rw [if_neg hx]
    refine Rising.ext_get (shardW_rising hw.put sp s) (shardW_rising hw sp s) fun k => ?_
    rw [getK_shardW, getK_put, getK_shardW]
    by_cases hk : k = x.key
    · subst hk; simp [hx]
    · simp [hk]
end Go.Proofs.Ythflkfgiclcdiaa
