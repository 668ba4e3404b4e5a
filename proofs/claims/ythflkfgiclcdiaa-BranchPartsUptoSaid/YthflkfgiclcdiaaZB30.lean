/-
  Parts with what they come to, in plain words: what Join's walk asks of them.
-/
import Derived.Test.YthflkfgiclcdiaaZB28
import Derived.Test.YthflkfgiclcdiaaZB16
set_option linter.unusedVariables false
set_option linter.unusedSimpArgs false
namespace Go.Proofs.Ythflkfgiclcdiaa
open Go.Gr
set_option linter.unusedSimpArgs false
set_option linter.unusedVariables false
theorem doB_rowlen {P : List DPair} {ws ws' : List DWrite} {o : DOp} {x : List DPair} (hd : doB P ws o = some (x, ws')) (hm : o.kind = 4 → o.most ≤ 32) : x.length ≤ 32 := by
  unfold doB at hd
  repeat' split at hd
  all_goals first
    | (cases hd; done)
    | (simp only [Option.some.injEq, Prod.mk.injEq] at hd; obtain ⟨rfl, _⟩ := hd; simp; done)
    | (rename_i h4; simp only [Option.some.injEq, Prod.mk.injEq] at hd; obtain ⟨rfl, _⟩ := hd; have := hm h4; unfold scanB; rw [List.length_take]; omega)
    | (simp only [Option.some.injEq, Prod.mk.injEq] at hd; obtain ⟨rfl, _⟩ := hd; cases getK DPair.key (overB P ws) o.key <;> simp)
theorem runL_rowlen {P : List DPair} : ∀ {ops : List DOp} {ws : List DWrite} {rows : List (List DPair)} {i : Nat}, (∀ o ∈ ops, o.kind = 4 → o.most ≤ 32) → (∀ r ∈ rows, r.length ≤ 32) → ∀ r ∈ (runL P ws rows i ops).rows, r.length ≤ 32
  | [], _, _, _, _, h => by unfold runL; exact h
  | o :: l, ws, rows, i, ho, h => by
    unfold runL
    cases hd : doB P ws o with
    | none => simp
    | some y =>
      obtain ⟨x, ws'⟩ := y
      refine runL_rowlen (fun q hq => ho q (by simp [hq])) fun r hr => ?_
      rcases List.mem_append.1 hr with hr | hr
      · exact h r hr
      · obtain rfl := List.mem_singleton.1 hr
        exact doB_rowlen hd (ho o (by simp))
theorem runL_wl {P : List DPair} : ∀ {ops : List DOp} {ws : List DWrite} {rows : List (List DPair)} {i : Nat}, (runL P ws rows i ops).writes.length ≤ ws.length + ops.length
  | [], _, _, _ => Nat.le_add_right _ _
  | o :: r, ws, rows, i => by
    unfold runL
    cases hd : doB P ws o with
    | none => simp
    | some y =>
      obtain ⟨x, ws'⟩ := y
      have h1 := doB_length hd
      have h2 := runL_wl (P := P) (ops := r) (ws := ws') (rows := rows ++ [x]) (i := i + 1)
      simp only [List.length_cons]
      omega
/-- A shard's part, with what it comes to, is as Join's walk asks. -/
theorem shardPO_wf {P : List DPair} {sp : List (List UInt8)} (h : GoodSp sp) {ops : List DOp} (hc : checkB ops = 0) (s : Nat) : WfPO ops.length (shardPO P sp ops s).1 (shardPO P sp ops s).2 := by
  have hok := check_ok (part_check h hc s)
  have hl := hok.1
  rw [List.length_map] at hl
  have hi : (shardPO P sp ops s).1.index = (selG sp s 0 ops).map Prod.snd := by
    unfold shardPO partB
    rw [selB_eq]
  have ho : (shardPO P sp ops s).2 = runL (shardB P sp s) [] [] 0 ((selG sp s 0 ops).map Prod.fst) := rfl
  have hcs := runL_cases (P := shardB P sp s) (ops := (selG sp s 0 ops).map Prod.fst) (ws := []) (rows := []) (j := 0)
  rw [List.length_map] at hcs
  refine ⟨fun he => ?_, fun he => ?_, fun a ha => ?_, ?_, fun r hr => ?_, ?_⟩
  · rw [ho] at he ⊢
    rw [hi, List.length_map]
    rcases hcs with ⟨h1, _⟩ | ⟨k, h1, h2⟩
    · exact absurd h1 he
    · rw [h2]
      simp only
      omega
  · rw [ho] at he ⊢
    rw [hi, List.length_map]
    rcases hcs with ⟨_, _, h3⟩ | ⟨k, h1, h2⟩
    · rw [h3]; simp
    · rw [h2] at he
      simp at he
  · rw [hi] at ha
    obtain ⟨p, hp, rfl⟩ := List.mem_map.1 ha
    have := selG_idx hp
    omega
  · rw [hi, List.length_map]
    omega
  · rw [ho] at hr
    have := runL_rowlen (fun o ho h4 => ((hok.2 o ho).2.2 h4).2) (by simp) r hr
    omega
  · rw [ho]
    have := runL_wl (P := shardB P sp s) (ops := (selG sp s 0 ops).map Prod.fst) (ws := []) (rows := []) (i := 0)
    rw [List.length_map] at this
    simp only [List.length_nil] at this
    omega
theorem partsPO_wf {P : List DPair} {sp : List (List UInt8)} (h : GoodSp sp) {ops : List DOp} (hc : checkB ops = 0) : ∀ q ∈ partsPO P sp ops, WfPO ops.length q.1 q.2 := by
  intro q hq
  rw [partsPO_eq h hc] at hq
  obtain ⟨s, _, hs⟩ := List.mem_filterMap.1 hq
  split at hs
  · cases hs
  · cases hs
    exact shardPO_wf h hc s
theorem partsPO_len {P : List DPair} {sp : List (List UInt8)} {ops : List DOp} : (partsPO P sp ops).length ≤ sp.length + 1 := by
  unfold partsPO
  rw [List.length_map]
  have := List.length_filterMap_le (partF sp ops) (List.range (sp.length + 1))
  rw [List.length_range] at this
  exact this
/-- Where all parts are done, their writes rise. -/
theorem partsPO_rise {P : List DPair} (hP : RisP P) {sp : List (List UInt8)} (h : GoodSp sp) {ops : List DOp} (hc : checkB ops = 0) (hw : (worstB (partsPO P sp ops)).1 = 0) : (okWrites (partsPO P sp ops)).Pairwise fun p q => cmpB p.key q.key < 0 := by
  have he : okWrites (partsPO P sp ops) = (runB P ops).writes := by
    rw [← parts_law hP h hc]
    unfold bjoinB
    rw [if_neg (by simp [hw])]
  rw [he]
  exact runB_rising
end Go.Proofs.Ythflkfgiclcdiaa
