/-
  A request in parts, in plain words: what the parts come to, joined.
-/
import Derived.Test.YthflkfgiclcdiaaZB25
set_option linter.unusedVariables false
set_option linter.unusedSimpArgs false
namespace Go.Proofs.Ythflkfgiclcdiaa
open Go.Gr
set_option linter.unusedSimpArgs false
set_option linter.unusedVariables false
theorem addRows_at : ∀ (idx : List Int) (rows R : List (List DPair)) (g : Nat) (hg : g < R.length), (∀ a ∈ idx, 0 ≤ a) → (addRows R idx rows)[g]? = some (R[g] ++ gatherAt idx rows (g : Int))
  | [], _, R, g, hg, _ => by unfold addRows gatherAt; simp [hg]
  | a :: idx, [], R, g, hg, _ => by unfold addRows gatherAt; simp [hg]
  | a :: idx, r :: rows, R, g, hg, h => by
    have ha := h a (by simp)
    unfold addRows gatherAt
    rw [addRows_at idx rows _ g (by simpa using hg) (fun b hb => h b (by simp [hb]))]
    by_cases hag : a = (g : Int)
    · have h1 : a.toNat = g := by omega
      rw [if_pos hag]
      simp only [h1, List.getElem_set_self, List.getElem?_eq_getElem hg, Option.getD_some, List.append_assoc]
    · have h1 : a.toNat ≠ g := by omega
      rw [if_neg hag, List.getElem_set_ne h1]
      rfl
theorem okRows_at : ∀ (l : List (DPart × DOutcome)) (R : List (List DPair)) (g : Nat) (hg : g < R.length), (∀ p ∈ l, p.2.err = 0) → (∀ p ∈ l, ∀ a ∈ p.1.index, 0 ≤ a) → (l.foldl rowStep R).length = R.length ∧ (l.foldl rowStep R)[g]? = some (R[g] ++ l.flatMap fun p => gatherAt p.1.index p.2.rows (g : Int))
  | [], R, g, hg, _, _ => by simp [hg]
  | p :: l, R, g, hg, h0, hi => by
    have he : rowStep R p = addRows R p.1.index p.2.rows := by
      unfold rowStep
      rw [if_neg (by simp [h0 p (by simp)])]
    have hl := addRows_len p.1.index p.2.rows R
    have hat := addRows_at p.1.index p.2.rows R g hg (hi p (by simp))
    have hg' : g < (addRows R p.1.index p.2.rows).length := by omega
    rw [List.getElem?_eq_getElem hg'] at hat
    have hat := Option.some.inj hat
    obtain ⟨h1, h2⟩ := okRows_at l (addRows R p.1.index p.2.rows) g hg' (fun q hq => h0 q (by simp [hq])) (fun q hq => hi q (by simp [hq]))
    simp only [List.foldl_cons, he, List.flatMap_cons]
    refine ⟨by omega, ?_⟩
    rw [h2, hat, List.append_assoc]
theorem worst_ok : ∀ (l : List (DPart × DOutcome)) (acc : Int × Int), (∀ p ∈ l, p.2.err = 0) → l.foldl worstStep acc = acc
  | [], _, _ => rfl
  | p :: l, acc, h => by
    have : worstStep acc p = acc := by
      unfold worstStep
      rw [if_neg (by simp [h p (by simp)])]
    rw [List.foldl_cons, this]
    exact worst_ok l acc (fun q hq => h q (by simp [hq]))
theorem worst_bad {G : Int} : ∀ (l : List (DPart × DOutcome)) (acc : Int × Int), (acc.1 = 0 ∨ (acc.1 = 12 ∧ G ≤ acc.2)) → (∀ p ∈ l, p.2.err = 0 ∨ (p.2.err = 12 ∧ G ≤ atB p)) → (acc = (12, G) ∨ ∃ p ∈ l, p.2.err = 12 ∧ atB p = G) → l.foldl worstStep acc = (12, G)
  | [], acc, _, _, h => by
    rcases h with h | ⟨p, hp, _⟩
    · exact h
    · simp at hp
  | p :: l, acc, ha, hl, h => by
    rw [List.foldl_cons]
    have hp := hl p (by simp)
    have hl' : ∀ q ∈ l, q.2.err = 0 ∨ (q.2.err = 12 ∧ G ≤ atB q) := fun q hq => hl q (by simp [hq])
    by_cases h0 : p.2.err = 0
    · have hs : worstStep acc p = acc := by
        unfold worstStep
        rw [if_neg (by simp [h0])]
      rw [hs]
      refine worst_bad l acc ha hl' ?_
      rcases h with h | ⟨q, hq, h1, h2⟩
      · exact .inl h
      · rcases List.mem_cons.1 hq with rfl | hq
        · rw [h0] at h1; simp at h1
        · exact .inr ⟨q, hq, h1, h2⟩
    · obtain ⟨h12, hG⟩ := hp.resolve_left h0
      by_cases hc : acc.1 = 0 ∨ atB p < acc.2
      · have hs : worstStep acc p = (12, atB p) := by
          unfold worstStep
          rw [if_pos h0, if_pos hc, h12]
        rw [hs]
        refine worst_bad l _ (.inr ⟨rfl, hG⟩) hl' ?_
        rcases h with rfl | ⟨q, hq, h1, h2⟩
        · simp only at hc
          rcases hc with hc | hc
          · simp at hc
          · omega
        · rcases List.mem_cons.1 hq with rfl | hq
          · left; rw [h2]
          · exact .inr ⟨q, hq, h1, h2⟩
      · have hs : worstStep acc p = acc := by
          unfold worstStep
          rw [if_pos h0, if_neg hc]
        rw [hs]
        refine worst_bad l acc ha hl' ?_
        rcases h with h | ⟨q, hq, h1, h2⟩
        · exact .inl h
        · rcases List.mem_cons.1 hq with rfl | hq
          · left
            rcases ha with ha | ⟨ha1, ha2⟩
            · exact absurd (.inl ha) hc
            · have : acc.2 = G := by
                have : ¬ atB q < acc.2 := fun h => hc (.inr h)
                omega
              exact Prod.ext ha1 this
          · exact .inr ⟨q, hq, h1, h2⟩
/-- The part of a request is a right one. -/
theorem part_check {sp : List (List UInt8)} (h : GoodSp sp) {ops : List DOp} (hc : checkB ops = 0) (s : Nat) : checkB ((selG sp s 0 ops).map Prod.fst) = 0 := by
  rw [check_same] at hc ⊢
  unfold checkRef at hc
  split at hc
  · simp at hc
  · rename_i h1
    split at hc
    · simp at hc
    · rename_i h2
      split at hc
      · simp at hc
      · rename_i h3
        split at hc
        · simp at hc
        · rename_i h4
          have hmem : ∀ o ∈ (selG sp s 0 ops).map Prod.fst, ∃ o0 ∈ ops, o = (pieceB sp s o0).1 := fun o ho => by
            obtain ⟨p, hp, rfl⟩ := List.mem_map.1 ho
            unfold selG at hp
            obtain ⟨⟨o0, i⟩, hq, he⟩ := List.mem_filterMap.1 hp
            unfold selF at he
            split at he
            · simp only [Option.some.injEq] at he
              rw [← he]
              have := (List.mem_zipIdx hq).2.2
              exact ⟨o0, by rw [this]; exact List.getElem_mem _, rfl⟩
            · cases he
          have hlo : (loB sp s).length ≤ 64 := by
            unfold loB
            split
            · simp
            · rcases Nat.lt_or_ge (s - 1) sp.length with hh | hh
              · rw [List.getElem?_eq_getElem hh]; exact h.short _ (List.getElem_mem hh)
              · rw [List.getElem?_eq_none hh]; simp
          have hhi : (hiB sp s).length ≤ 64 := by
            unfold hiB
            rcases Nat.lt_or_ge s sp.length with hh | hh
            · rw [List.getElem?_eq_getElem hh]; exact h.short _ (List.getElem_mem hh)
            · rw [List.getElem?_eq_none hh]; simp
          have g1 : ((selG sp s 0 ops).map Prod.fst).any badMost = false := by
            rw [List.any_eq_false]
            intro o ho
            obtain ⟨o0, hm, rfl⟩ := hmem o ho
            obtain ⟨e1, e2⟩ := piece_kind sp s o0
            have hb : badMost o0 = false := by
              cases hq : badMost o0 with
              | false => rfl
              | true => exact absurd (List.any_eq_true.2 ⟨o0, hm, hq⟩) h1
            unfold badMost at hb ⊢
            rw [e1, e2, hb]
            simp
          have g3 : ((selG sp s 0 ops).map Prod.fst).any badSize = false := by
            rw [List.any_eq_false]
            intro o ho
            obtain ⟨o0, hm, rfl⟩ := hmem o ho
            have hb : badSize o0 = false := by
              cases hq : badSize o0 with
              | false => rfl
              | true => exact absurd (List.any_eq_true.2 ⟨o0, hm, hq⟩) h3
            unfold badSize at hb ⊢
            have hb := of_decide_eq_false hb
            simp only [decide_eq_true_eq]
            intro hx
            apply hb
            unfold pieceB at hx
            split at hx
            · exact hx
            · rename_i hk
              have hk4 : o0.kind = 4 := by simpa using hk
              simp only at hx
              rcases hx with hx | ⟨_, hx⟩ | ⟨hx, _⟩
              · left
                split at hx
                · omega
                · exact hx
              · right; left
                refine ⟨hk4, ?_⟩
                split at hx
                · omega
                · exact hx
              · omega
          have g4 : ((selG sp s 0 ops).map Prod.fst).any badKind = false := by
            rw [List.any_eq_false]
            intro o ho
            obtain ⟨o0, hm, rfl⟩ := hmem o ho
            obtain ⟨e1, e2⟩ := piece_kind sp s o0
            have hb : badKind o0 = false := by
              cases hq : badKind o0 with
              | false => rfl
              | true => exact absurd (List.any_eq_true.2 ⟨o0, hm, hq⟩) h4
            unfold badKind at hb ⊢
            rw [e1, hb]
            simp
          have g2 : ((selG sp s 0 ops).map Prod.fst).length ≤ 16 := by
            rw [List.length_map]
            have := List.length_filterMap_le (selF sp s) (ops.zipIdx 0)
            unfold selG
            rw [List.length_zipIdx] at this
            omega
          unfold checkRef
          rw [g1, g3, g4]
          simp only [Bool.false_eq_true, if_false]
          rw [if_neg (by omega)]
/-- A shard's part and what it comes to. -/
def shardPO (P : List DPair) (sp : List (List UInt8)) (ops : List DOp) (s : Nat) : DPart × DOutcome := (partB sp ops s, runL (shardB P sp s) [] [] 0 ((selG sp s 0 ops).map Prod.fst))
theorem fold_parts {β : Type} (f : β → DPart × DOutcome → β) {P : List DPair} {sp : List (List UInt8)} {ops : List DOp} (h0 : ∀ acc s, selG sp s 0 ops = [] → f acc (shardPO P sp ops s) = acc) :
    ∀ (l : List Nat) (acc : β), (l.filterMap fun s => if (selG sp s 0 ops).length = 0 then none else some (shardPO P sp ops s)).foldl f acc = (l.map (shardPO P sp ops)).foldl f acc
  | [], _ => rfl
  | s :: l, acc => by
    by_cases hs : (selG sp s 0 ops).length = 0
    · rw [List.filterMap_cons_none (by rw [if_pos hs]), List.map_cons, List.foldl_cons, h0 acc s (List.length_eq_zero_iff.1 hs)]
      exact fold_parts f h0 l acc
    · rw [List.filterMap_cons_some (by rw [if_neg hs]), List.map_cons, List.foldl_cons, List.foldl_cons]
      exact fold_parts f h0 l _
theorem flat_parts {P : List DPair} {sp : List (List UInt8)} {ops : List DOp} (g : DPart × DOutcome → List DWrite) (h0 : ∀ s, selG sp s 0 ops = [] → g (shardPO P sp ops s) = []) :
    ∀ (l : List Nat), (l.filterMap fun s => if (selG sp s 0 ops).length = 0 then none else some (shardPO P sp ops s)).flatMap g = l.flatMap fun s => g (shardPO P sp ops s)
  | [] => rfl
  | s :: l => by
    by_cases hs : (selG sp s 0 ops).length = 0
    · rw [List.filterMap_cons_none (by rw [if_pos hs]), List.flatMap_cons, h0 s (List.length_eq_zero_iff.1 hs), List.nil_append]
      exact flat_parts g h0 l
    · rw [List.filterMap_cons_some (by rw [if_neg hs]), List.flatMap_cons, List.flatMap_cons, flat_parts g h0 l]
/-- The parts with what they come to. -/
def partsPO (P : List DPair) (sp : List (List UInt8)) (ops : List DOp) : List (DPart × DOutcome) := (partsB sp ops (sp.length + 1)).map fun p => (p, runB (shardB P sp p.shard.toNat) p.ops)
theorem partsPO_eq {P : List DPair} {sp : List (List UInt8)} (h : GoodSp sp) {ops : List DOp} (hc : checkB ops = 0) : partsPO P sp ops = (List.range (sp.length + 1)).filterMap fun s => if (selG sp s 0 ops).length = 0 then none else some (shardPO P sp ops s) := by
  unfold partsPO partsB
  rw [List.map_filterMap]
  congr 1
  funext s
  unfold partF
  rw [selB_eq]
  split
  · rfl
  · simp only [Option.map_some]
    congr 1
    unfold shardPO
    congr 1
    have hp := part_check h hc s
    unfold partB
    rw [selB_eq]
    simp only [Int.toNat_natCast]
    unfold runB
    rw [if_neg (by rw [hp]; simp)]
/-- What the parts come to, joined, is what the whole comes to. -/
theorem parts_law {P : List DPair} (hP : RisP P) {sp : List (List UInt8)} (h : GoodSp sp) {ops : List DOp} (hc : checkB ops = 0) : bjoinB ops (partsPO P sp ops) = runB P ops := by
  have hrun : runB P ops = runL P [] [] 0 ops := by
    unfold runB
    rw [if_neg (by rw [hc]; simp)]
  rw [hrun, partsPO_eq h hc]
  have hnil : ∀ s, selG sp s 0 ops = [] → (shardPO P sp ops s).2 = ⟨0, 0, [], []⟩ := fun s hs => by
    unfold shardPO
    rw [hs]
    rfl
  have hW : worstB ((List.range (sp.length + 1)).filterMap fun s => if (selG sp s 0 ops).length = 0 then none else some (shardPO P sp ops s)) = worstB ((List.range (sp.length + 1)).map (shardPO P sp ops)) :=
    fold_parts worstStep (fun acc s hs => by unfold worstStep; rw [hnil s hs, if_neg (by simp)]) _ _
  have hRw : okRows ops.length ((List.range (sp.length + 1)).filterMap fun s => if (selG sp s 0 ops).length = 0 then none else some (shardPO P sp ops s)) = okRows ops.length ((List.range (sp.length + 1)).map (shardPO P sp ops)) :=
    fold_parts rowStep (fun acc s hs => by
      unfold rowStep
      rw [hnil s hs, if_neg (by simp)]
      simp only
      unfold addRows
      split
      · simp at *
      · rfl) _ _
  have hWr : okWrites ((List.range (sp.length + 1)).filterMap fun s => if (selG sp s 0 ops).length = 0 then none else some (shardPO P sp ops s)) = (List.range (sp.length + 1)).flatMap fun s => if (shardPO P sp ops s).2.err ≠ 0 then [] else (shardPO P sp ops s).2.writes :=
    flat_parts (fun p => if p.2.err ≠ 0 then [] else p.2.writes) (fun s hs => by rw [hnil s hs]; simp) _
  unfold bjoinB
  rw [hW, hRw, hWr]
  have hsw : ∀ s, shardW [] sp s = [] := fun s => rfl
  have hidx : ∀ s, (shardPO P sp ops s).1.index = (selG sp s 0 ops).map Prod.snd := fun s => by
    unfold shardPO partB
    rw [selB_eq]
  by_cases he : (runL P [] [] 0 ops).err = 0
  · obtain ⟨X, Y, ws', h1, h2, h3, h4, h5⟩ := parts_ok hP h ops [] [] 0 List.Pairwise.nil he
    have hO : ∀ s, s ≤ sp.length → (shardPO P sp ops s).2 = ⟨0, 0, Y s, shardW ws' sp s⟩ := fun s hs => by
      have := (h4 s hs).1 [] 0
      rw [hsw] at this
      unfold shardPO
      simpa using this
    have h0 : ∀ p ∈ (List.range (sp.length + 1)).map (shardPO P sp ops), p.2.err = 0 := fun p hp => by
      obtain ⟨s, hs, rfl⟩ := List.mem_map.1 hp
      rw [hO s (by have := List.mem_range.1 hs; omega)]
    have hpos : ∀ p ∈ (List.range (sp.length + 1)).map (shardPO P sp ops), ∀ a ∈ p.1.index, 0 ≤ a := fun p hp a ha => by
      obtain ⟨s, hs, rfl⟩ := List.mem_map.1 hp
      rw [hidx] at ha
      obtain ⟨q, hq, rfl⟩ := List.mem_map.1 ha
      have := (selG_idx hq).1
      omega
    have hw0 : worstB ((List.range (sp.length + 1)).map (shardPO P sp ops)) = (0, 0) := worst_ok _ _ h0
    rw [hw0, h1]
    simp only [ne_eq, not_true_eq_false, if_false, List.nil_append]
    have hwr : ((List.range (sp.length + 1)).flatMap fun s => if (shardPO P sp ops s).2.err = 0 then (shardPO P sp ops s).2.writes else []) = ws' := by
      rw [show ((List.range (sp.length + 1)).flatMap fun s => if (shardPO P sp ops s).2.err = 0 then (shardPO P sp ops s).2.writes else []) = (List.range (sp.length + 1)).flatMap fun s => shardW ws' sp s from flat_congr fun s hs => by rw [hO s (by have := List.mem_range.1 hs; omega)]; simp]
      exact shards_all h2 sp
    have hrows : cutRows ops (okRows ops.length ((List.range (sp.length + 1)).map (shardPO P sp ops))) = X := by
      have hlen : (okRows ops.length ((List.range (sp.length + 1)).map (shardPO P sp ops))).length = ops.length := by
        rcases Nat.eq_zero_or_pos ops.length with hz | hz
        · unfold okRows
          have : ∀ (l : List (DPart × DOutcome)) (R : List (List DPair)), (l.foldl rowStep R).length = R.length := by
            intro l
            induction l with
            | nil => intro R; rfl
            | cons p l ih =>
              intro R
              rw [List.foldl_cons, ih]
              unfold rowStep
              split
              · rfl
              · exact addRows_len _ _ _
          rw [this]
          simp
        · have := (okRows_at ((List.range (sp.length + 1)).map (shardPO P sp ops)) (List.replicate ops.length []) 0 (by simpa using hz) h0 hpos).1
          unfold okRows
          rw [this]
          simp
      apply List.ext_getElem
      · unfold cutRows
        rw [List.length_zipWith, hlen, h3]
        simp
      · intro g hg1 hg2
        have hgo : g < ops.length := by omega
        have hat := (okRows_at ((List.range (sp.length + 1)).map (shardPO P sp ops)) (List.replicate ops.length []) g (by simpa using hgo) h0 hpos).2
        have hgR : g < (okRows ops.length ((List.range (sp.length + 1)).map (shardPO P sp ops))).length := by omega
        have hat2 : (okRows ops.length ((List.range (sp.length + 1)).map (shardPO P sp ops)))[g] = ((List.range (sp.length + 1)).map (shardPO P sp ops)).flatMap fun p => gatherAt p.1.index p.2.rows (g : Int) := by
          have : (okRows ops.length ((List.range (sp.length + 1)).map (shardPO P sp ops)))[g]? = _ := hat
          rw [List.getElem?_eq_getElem hgR] at this
          have := Option.some.inj this
          rw [this]
          simp
        have hz : (cutRows ops (okRows ops.length ((List.range (sp.length + 1)).map (shardPO P sp ops))))[g] = cutB ops[g] (okRows ops.length ((List.range (sp.length + 1)).map (shardPO P sp ops)))[g] := List.getElem_zipWith ..
        rw [hz, hat2, ← h5 g hgo hg2]
        congr 1
        rw [List.flatMap_map]
        refine flat_congr fun s hs => ?_
        rw [hidx, hO s (by have := List.mem_range.1 hs; omega)]
        simp
    rw [hrows]
    have hwr2 : ((List.range (sp.length + 1)).flatMap fun s => if ¬ (shardPO P sp ops s).2.err = 0 then [] else (shardPO P sp ops s).2.writes) = ws' := by
      rw [← hwr]
      refine flat_congr fun s _ => ?_
      by_cases hq : (shardPO P sp ops s).2.err = 0 <;> simp [hq]
    rw [hwr2]
  · obtain ⟨g, r, h1, h2, h3, h4, h5⟩ := parts_bad hP h ops [] [] 0 List.Pairwise.nil he
    rw [Nat.zero_add] at h3 h4 h5
    have hat : ∀ s k (hk : k < (selG sp s 0 ops).length), (shardPO P sp ops s).2 = ⟨12, (k : Nat), [], []⟩ → atB (shardPO P sp ops s) = (selG sp s 0 ops)[k].2 := fun s k hk ho => by
      unfold atB
      rw [ho, hidx]
      simp [hk]
    have hw : worstB ((List.range (sp.length + 1)).map (shardPO P sp ops)) = (12, (g : Int)) := by
      refine worst_bad _ _ (.inl rfl) (fun p hp => ?_) (.inr ?_)
      · obtain ⟨s, hs, rfl⟩ := List.mem_map.1 hp
        have hs' : s ≤ sp.length := by have := List.mem_range.1 hs; omega
        rcases runL_cases (P := shardB P sp s) (ops := (selG sp s 0 ops).map Prod.fst) (ws := []) (rows := []) (j := 0) with ⟨z1, _⟩ | ⟨k, hk, z2⟩
        · exact .inl z1
        · have hk' : k < (selG sp s 0 ops).length := by simpa using hk
          have ho : (shardPO P sp ops s).2 = ⟨12, (k : Nat), [], []⟩ := by
            unfold shardPO
            rw [z2, Nat.zero_add]
          refine .inr ⟨by rw [ho], ?_⟩
          rw [hat s k hk' ho]
          exact h5 s hs' [] 0 k hk' (by rw [hsw]; exact z2)
      · obtain ⟨k, hk, z1, z2⟩ := h4 [] 0
        rw [hsw] at z1
        have ho : (shardPO P sp ops r).2 = ⟨12, (k : Nat), [], []⟩ := by
          unfold shardPO
          rw [z1, Nat.zero_add]
        exact ⟨shardPO P sp ops r, List.mem_map.2 ⟨r, List.mem_range.2 (by omega), rfl⟩, by rw [ho], by rw [hat r k hk ho, z2]⟩
    rw [hw, h3]
    simp
end Go.Proofs.Ythflkfgiclcdiaa
