/-
  Words for BranchFiner and BranchParts: a slice's tail, what is young, outcomes in range.
-/
import Derived.Test.YthflkfgiclcdiaaZB31
set_option linter.unusedVariables false
set_option linter.unusedSimpArgs false
namespace Go.Proofs.Ythflkfgiclcdiaa
open Go.RowKit Go.Gr
set_option linter.unusedSimpArgs false
set_option linter.unusedVariables false
theorem Ty.slice_drop {α : Type} {E : Ty α} {w : World} {M : Nat → Prop} {ys : List α} {b off n c k : Nat} (h1 : E.n = 1) (h : (Ty.slice E).rep w M [.slice (some ⟨b, off, none⟩) n c] ys) (hk : k ≤ ys.length) :
    (Ty.slice E).rep w M [.slice (if c = k then some ⟨b, off, none⟩ else some ⟨b, off + k, none⟩) (n - k) (c - k)] (ys.drop k) := by
  obtain ⟨a', c', hv, g1, g2, g3, hs⟩ := h
  simp only [List.cons.injEq, Value.slice.injEq, and_true] at hv
  obtain ⟨rfl, rfl, rfl⟩ := hv
  have hl : (ys.drop k).length = ys.length - k := List.length_drop
  refine ⟨_, c - k, by rw [hl], by omega, by omega, by omega, fun hn => ?_⟩
  obtain ⟨b', off', ha, hb, hM, hc⟩ := hs (by omega)
  simp only [Option.some.injEq, Addr.mk.injEq, and_true] at ha
  obtain ⟨rfl, rfl⟩ := ha
  refine ⟨b, off + k, by rw [if_neg (by omega)], hb, hM, fun i hi => ?_⟩
  obtain ⟨es, he, hce⟩ := hc (k + i) (by omega)
  refine ⟨es, by rw [List.getElem_drop]; exact he, fun j u hj => ?_⟩
  rw [← hce j u hj, h1]
  congr 2
  omega
theorem partsB_at {sp : List (List UInt8)} {ops : List DOp} {n k : Nat} (h : k < (partsB sp ops n).length) : ∃ s, s < n ∧ (partsB sp ops n)[k] = partB sp ops s := by
  have hm := List.getElem_mem h
  unfold partsB at hm
  obtain ⟨s, hs, he⟩ := List.mem_filterMap.1 hm
  unfold partF at he
  split at he
  · cases he
  · exact ⟨s, List.mem_range.1 hs, (Option.some.inj he).symm⟩
/-- What was read in an elder world meets no younger block. -/
theorem Ty.young {α : Type} {E : Ty α} {w0 w : World} {M Y : Nat → Prop} {cs : List Value} {x : α} (h : E.rep w0 M cs x) (hs : Step w0 w) (hY : ∀ b, Y b → w0.heap.size ≤ b) : E.rep w Y cs x :=
  E.keep h fun b hb _ => ⟨hs.heap hb, fun hy => by have := hY b hy; omega⟩
theorem outs_range {P : List DPair} {sp : List (List UInt8)} (h : GoodSp sp) {ops : List DOp} (hc : checkB ops = 0) (hl : ops.length ≤ 1000) : ∀ o ∈ outsB P sp ops, I64 o.err ∧ I64 o.at_ := by
  intro o ho
  unfold outsB at ho
  obtain ⟨q, hq, rfl⟩ := List.mem_map.1 ho
  rw [partsPO_eq h hc] at hq
  obtain ⟨s, _, he⟩ := List.mem_filterMap.1 hq
  split at he
  · cases he
  · cases he
    have e1 : (shardPO P sp ops s).2 = runL (shardB P sp s) [] [] 0 ((selG sp s 0 ops).map Prod.fst) := rfl
    rw [e1]
    have hle : ((selG sp s 0 ops).map Prod.fst).length ≤ ops.length := by
      rw [List.length_map, ← selB_eq]
      exact selB_le
    rcases runL_cases (P := shardB P sp s) (ops := (selG sp s 0 ops).map Prod.fst) (ws := []) (rows := []) (j := 0) with ⟨h1, h2, _⟩ | ⟨k, h1, h2⟩
    · rw [h1, h2]; unfold I64; omega
    · rw [h2]; simp only; unfold I64; omega
end Go.Proofs.Ythflkfgiclcdiaa
