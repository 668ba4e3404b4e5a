/-
  A request in parts, in plain words: each shard's run beside the whole's.
-/
import Derived.Test.YthflkfgiclcdiaaZB24
import Derived.Test.YthflkfgiclcdiaaZBJ
set_option linter.unusedVariables false
set_option linter.unusedSimpArgs false
namespace Go.Proofs.Ythflkfgiclcdiaa
open Go.Gr
set_option linter.unusedSimpArgs false
set_option linter.unusedVariables false
theorem flat_congr {α β : Type} {f g : α → List β} : ∀ {l : List α}, (∀ a ∈ l, f a = g a) → l.flatMap f = l.flatMap g
  | [], _ => rfl
  | a :: r, h => by
    have ih := flat_congr (l := r) (fun b hb => h b (List.mem_cons_of_mem _ hb))
    simp only [List.flatMap_cons, h a (List.mem_cons_self ..), ih]
/-- What a shard answers to an op that the whole answers by x. -/
def shX (L : List DPair) (sp : List (List UInt8)) (s : Nat) (o : DOp) (x : List DPair) : List DPair := if o.kind = 4 then (segB L sp s o).take o.most.toNat else x
theorem piece_kind (sp : List (List UInt8)) (s : Nat) (o : DOp) : (pieceB sp s o).1.kind = o.kind ∧ (pieceB sp s o).1.most = o.most := by
  unfold pieceB
  split <;> exact ⟨rfl, rfl⟩
theorem getK_over_shard {P : List DPair} {ws : List DWrite} (hP : RisP P) (hw : RisW ws) {sp : List (List UInt8)} {s : Nat} {k : List UInt8} (hr : routeB sp k = s) : getK DPair.key (overB (shardB P sp s) (shardW ws sp s)) k = getK DPair.key (overB P ws) k := by
  rw [← shard_over hP hw, getK_shardB, if_pos hr]
/-- An op that is no scan, in its own shard. -/
theorem do_point {P : List DPair} {ws : List DWrite} (hP : RisP P) (hw : RisW ws) {sp : List (List UInt8)} {s : Nat} {o : DOp} (hk : o.kind ≠ 4) (hr : routeB sp o.key = s) :
    doB (shardB P sp s) (shardW ws sp s) o = match doB P ws o with
      | none => none
      | some (x, ws') => some (x, shardW ws' sp s) := by
  have hg := getK_over_shard hP hw (sp := sp) hr
  unfold doB
  rw [hg]
  by_cases h2 : o.kind = 2
  · rw [if_pos h2, if_pos h2]
    simp only [shardW_put hw, if_pos hr]
  · rw [if_neg h2, if_neg h2]
    by_cases h3 : o.kind = 3
    · rw [if_pos h3, if_pos h3]
      simp only [shardW_put hw, if_pos hr]
    · rw [if_neg h3, if_neg h3, if_neg hk, if_neg hk]
      by_cases h1 : o.kind = 1
      · rw [if_pos h1, if_pos h1]
      · rw [if_neg h1, if_neg h1]
        by_cases h6 : o.kind = 6
        · rw [if_pos h6, if_pos h6]
          split <;> rfl
        · rw [if_neg h6, if_neg h6]
          cases getK DPair.key (overB P ws) o.key with
          | none => rfl
          | some p => simp only; split <;> rfl
theorem do_scan {P : List DPair} {ws : List DWrite} (hP : RisP P) (hw : RisW ws) {sp : List (List UInt8)} (h : GoodSp sp) {s : Nat} (hs : s ≤ sp.length) {o : DOp} (hk : o.kind = 4) :
    doB (shardB P sp s) (shardW ws sp s) (pieceB sp s o).1 = some ((segB (overB P ws) sp s o).take o.most.toNat, shardW ws sp s) := by
  obtain ⟨e1, e2⟩ := piece_kind sp s o
  unfold doB
  rw [if_neg (by rw [e1, hk]; decide), if_neg (by rw [e1, hk]; decide), if_pos (by rw [e1, hk]), e2, ← shard_over hP hw, scan_piece h hs hk]
theorem doB_scan {P : List DPair} {ws : List DWrite} {o : DOp} (hk : o.kind = 4) : doB P ws o = some (scanB (overB P ws) o.key o.value o.most.toNat, ws) := by
  unfold doB
  rw [if_neg (by rw [hk]; decide), if_neg (by rw [hk]; decide), if_pos hk]
theorem doB_else {P : List DPair} {ws ws' : List DWrite} {o : DOp} {x : List DPair} (hd : doB P ws o = some (x, ws')) (sp : List (List UInt8)) {s : Nat} (hw : RisW ws) (hr : routeB sp o.key ≠ s) : shardW ws' sp s = shardW ws sp s := by
  unfold doB at hd
  repeat' split at hd
  all_goals first
    | (cases hd; done)
    | (simp only [Option.some.injEq, Prod.mk.injEq] at hd; obtain ⟨_, rfl⟩ := hd; first | rfl | (rw [shardW_put hw, if_neg hr]))
/-- One op of the whole, in a shard. -/
theorem do_some {P : List DPair} {ws ws' : List DWrite} (hP : RisP P) (hw : RisW ws) {sp : List (List UInt8)} (h : GoodSp sp) {s : Nat} (hs : s ≤ sp.length) {o : DOp} {x : List DPair} (hd : doB P ws o = some (x, ws')) :
    ((pieceB sp s o).2 = true → doB (shardB P sp s) (shardW ws sp s) (pieceB sp s o).1 = some (shX (overB P ws) sp s o x, shardW ws' sp s)) ∧ ((pieceB sp s o).2 = false → shardW ws' sp s = shardW ws sp s) := by
  by_cases hk : o.kind = 4
  · rw [doB_scan hk] at hd
    simp only [Option.some.injEq, Prod.mk.injEq] at hd
    obtain ⟨_, rfl⟩ := hd
    refine ⟨fun _ => ?_, fun _ => rfl⟩
    rw [do_scan hP hw h hs hk]
    unfold shX
    rw [if_pos hk]
  · rw [piece_point_eq h hs hk]
    refine ⟨fun hr => ?_, fun hr => doB_else hd sp hw (of_decide_eq_false hr)⟩
    rw [do_point hP hw hk (of_decide_eq_true hr), hd]
    unfold shX
    simp only [if_neg hk]
theorem do_none {P : List DPair} {ws : List DWrite} {o : DOp} (hd : doB P ws o = none) : o.kind ≠ 4 := fun hk => by rw [doB_scan hk] at hd; cases hd
theorem op_joined {P : List DPair} {ws ws' : List DWrite} (hP : RisP P) (hw : RisW ws) {sp : List (List UInt8)} (h : GoodSp sp) {o : DOp} {x : List DPair} (hd : doB P ws o = some (x, ws')) :
    cutB o ((List.range (sp.length + 1)).flatMap fun s => if (pieceB sp s o).2 = true then shX (overB P ws) sp s o x else []) = x := by
  by_cases hk : o.kind = 4
  · rw [doB_scan hk] at hd
    simp only [Option.some.injEq, Prod.mk.injEq] at hd
    obtain ⟨hx, _⟩ := hd
    unfold cutB
    rw [if_pos hk]
    have h1 : (List.range (sp.length + 1)).flatMap (fun s => if (pieceB sp s o).2 = true then shX (overB P ws) sp s o x else []) = (List.range (sp.length + 1)).flatMap fun s => (segB (overB P ws) sp s o).take o.most.toNat := by
      refine flat_congr fun s hs => ?_
      have hs' : s ≤ sp.length := by have := List.mem_range.1 hs; omega
      by_cases hq : (pieceB sp s o).2 = true
      · rw [if_pos hq]
        unfold shX
        rw [if_pos hk]
      · rw [if_neg hq, seg_none h hs' hk (by simpa using hq), List.take_nil]
    rw [h1]
    have h2 : (max o.most 0).toNat = o.most.toNat := by omega
    rw [h2, take_flat, segs_all (hP.over ws), ← hx]
    rfl
  · unfold cutB
    rw [if_neg hk]
    have h1 : (List.range (sp.length + 1)).flatMap (fun s => if (pieceB sp s o).2 = true then shX (overB P ws) sp s o x else []) = (List.range (sp.length + 1)).flatMap fun s => if routeB sp o.key = s then x else [] := by
      refine flat_congr fun s hs => ?_
      have hs' : s ≤ sp.length := by have := List.mem_range.1 hs; omega
      rw [piece_point_eq h hs' hk]
      unfold shX
      rw [if_neg hk]
      by_cases hq : routeB sp o.key = s <;> simp [hq]
    rw [h1, flat_one, if_pos (by have := routeB_le sp o.key; omega)]
/-- What a shard has of ops from index i on. -/
def selG (sp : List (List UInt8)) (s i : Nat) (ops : List DOp) : List (DOp × Int) := (ops.zipIdx i).filterMap (selF sp s)
theorem selG_nil (sp : List (List UInt8)) (s i : Nat) : selG sp s i [] = [] := rfl
theorem selG_yes {sp : List (List UInt8)} {s i : Nat} {o : DOp} {r : List DOp} (h : (pieceB sp s o).2 = true) : selG sp s i (o :: r) = ((pieceB sp s o).1, (i : Int)) :: selG sp s (i + 1) r := by
  unfold selG
  rw [List.zipIdx_cons, List.filterMap_cons]
  simp [selF, h]
theorem selG_no {sp : List (List UInt8)} {s i : Nat} {o : DOp} {r : List DOp} (h : (pieceB sp s o).2 = false) : selG sp s i (o :: r) = selG sp s (i + 1) r := by
  unfold selG
  rw [List.zipIdx_cons, List.filterMap_cons]
  simp [selF, h]
theorem selB_eq (sp : List (List UInt8)) (s : Nat) (ops : List DOp) : selB sp s ops ops.length = selG sp s 0 ops := by
  unfold selB selG
  rw [List.take_of_length_le (by simp)]
theorem selG_idx {sp : List (List UInt8)} {s : Nat} : ∀ {ops : List DOp} {i : Nat} {p : DOp × Int}, p ∈ selG sp s i ops → (i : Int) ≤ p.2 ∧ p.2 < (i : Int) + ops.length
  | [], _, _, h => by simp [selG_nil] at h
  | o :: r, i, p, h => by
    cases hq : (pieceB sp s o).2 with
    | true =>
      rw [selG_yes hq] at h
      rcases List.mem_cons.1 h with rfl | h
      · simp only [List.length_cons]; omega
      · have := selG_idx h
        simp only [List.length_cons]
        omega
    | false =>
      rw [selG_no hq] at h
      have := selG_idx h
      simp only [List.length_cons]
      omega
/-- The rows that an index has among those of a shard. -/
def gatherAt : List Int → List (List DPair) → Int → List DPair
  | at_ :: idx, row :: rows, g => (if at_ = g then row else []) ++ gatherAt idx rows g
  | _, _, _ => []
theorem gatherAt_none : ∀ {idx : List Int} {rows : List (List DPair)} {g : Int}, (∀ a ∈ idx, a ≠ g) → gatherAt idx rows g = []
  | [], _, _, _ => by unfold gatherAt; rfl
  | a :: idx, [], _, _ => by unfold gatherAt; rfl
  | a :: idx, r :: rows, g, h => by
    unfold gatherAt
    rw [if_neg (h a (by simp)), gatherAt_none (fun b hb => h b (by simp [hb]))]
    rfl
/-- How a run ends. -/
theorem runL_cases {P : List DPair} : ∀ {ops : List DOp} {ws : List DWrite} {rows : List (List DPair)} {j : Nat},
    ((runL P ws rows j ops).err = 0 ∧ (runL P ws rows j ops).at_ = 0 ∧ (runL P ws rows j ops).rows.length = rows.length + ops.length) ∨ ∃ k, k < ops.length ∧ runL P ws rows j ops = ⟨12, (j + k : Nat), [], []⟩
  | [], ws, rows, j => .inl ⟨rfl, rfl, by simp [runL]⟩
  | o :: r, ws, rows, j => by
    cases hd : doB P ws o with
    | none => exact .inr ⟨0, by simp, by rw [runL, hd]; rfl⟩
    | some y =>
      obtain ⟨x, ws'⟩ := y
      have he : runL P ws rows j (o :: r) = runL P ws' (rows ++ [x]) (j + 1) r := by rw [runL, hd]
      rw [he]
      rcases runL_cases (P := P) (ops := r) (ws := ws') (rows := rows ++ [x]) (j := j + 1) with ⟨h1, h2, h3⟩ | ⟨k, h1, h2⟩
      · exact .inl ⟨h1, h2, by rw [h3]; simp; omega⟩
      · exact .inr ⟨k + 1, by simp; omega, by rw [h2, show j + 1 + k = j + (k + 1) by omega]⟩
/-- Where all is done, each shard does its part. -/
theorem parts_ok {P : List DPair} (hP : RisP P) {sp : List (List UInt8)} (h : GoodSp sp) : ∀ (ops : List DOp) (ws : List DWrite) (rows : List (List DPair)) (i : Nat), RisW ws → (runL P ws rows i ops).err = 0 →
    ∃ (X : List (List DPair)) (Y : Nat → List (List DPair)) (ws' : List DWrite), runL P ws rows i ops = ⟨0, 0, rows ++ X, ws'⟩ ∧ RisW ws' ∧ X.length = ops.length ∧
      (∀ s, s ≤ sp.length → (∀ rs j, runL (shardB P sp s) (shardW ws sp s) rs j ((selG sp s i ops).map Prod.fst) = ⟨0, 0, rs ++ Y s, shardW ws' sp s⟩) ∧ (Y s).length = (selG sp s i ops).length) ∧
      ∀ g (hg : g < ops.length) (hx : g < X.length), cutB ops[g] ((List.range (sp.length + 1)).flatMap fun s => gatherAt ((selG sp s i ops).map Prod.snd) (Y s) ((i + g : Nat) : Int)) = X[g]
  | [], ws, rows, i, hw, _ => ⟨[], fun _ => [], ws, by simp [runL], hw, rfl, fun s _ => ⟨fun rs j => by simp [selG_nil, runL], by simp [selG_nil]⟩, fun g hg => absurd hg (by simp)⟩
  | o :: r, ws, rows, i, hw, he => by
    cases hd : doB P ws o with
    | none => rw [runL, hd] at he; simp at he
    | some y =>
      obtain ⟨x, ws1⟩ := y
      have hrun : runL P ws rows i (o :: r) = runL P ws1 (rows ++ [x]) (i + 1) r := by rw [runL, hd]
      rw [hrun] at he ⊢
      have hw1 := doB_rising hw hd
      obtain ⟨X, Y, ws', h1, h2, h3, h4, h5⟩ := parts_ok hP h r ws1 (rows ++ [x]) (i + 1) hw1 he
      refine ⟨x :: X, fun s => if (pieceB sp s o).2 = true then shX (overB P ws) sp s o x :: Y s else Y s, ws', by rw [h1]; simp, h2, by simp [h3], fun s hs => ?_, fun g hg hx => ?_⟩
      · obtain ⟨k1, k2⟩ := h4 s hs
        obtain ⟨d1, d2⟩ := do_some hP hw h hs hd
        cases hq : (pieceB sp s o).2 with
        | true =>
          rw [selG_yes hq]
          simp only [hq, if_true]
          refine ⟨fun rs j => ?_, by simp [k2]⟩
          simp only [List.map_cons]
          rw [runL, d1 hq]
          simp only
          rw [k1]
          simp
        | false =>
          rw [selG_no hq]
          simp only [hq, Bool.false_eq_true, if_false]
          refine ⟨fun rs j => ?_, k2⟩
          rw [← d2 hq]
          exact k1 rs j
      · rcases g with _ | g
        · simp only [List.getElem_cons_zero, Nat.add_zero]
          have hj := op_joined hP hw h hd
          rw [← hj]
          congr 1
          refine flat_congr fun s hs => ?_
          have hnone : gatherAt ((selG sp s (i + 1) r).map Prod.snd) (Y s) (i : Int) = [] := gatherAt_none fun a ha => by
            obtain ⟨p, hp, rfl⟩ := List.mem_map.1 ha
            have := (selG_idx hp).1
            omega
          cases hq : (pieceB sp s o).2 with
          | true =>
            rw [selG_yes hq]
            simp only [if_true, List.map_cons, gatherAt, hnone, List.append_nil]
            rw [hj]
          | false =>
            rw [selG_no hq]
            simp only [Bool.false_eq_true, if_false, hnone]
        · simp only [List.getElem_cons_succ]
          rw [← h5 g (by simpa using hg) (by simpa using hx)]
          congr 1
          refine flat_congr fun s hs => ?_
          have e1 : i + (g + 1) = i + 1 + g := by omega
          rw [e1]
          cases hq : (pieceB sp s o).2 with
          | true =>
            rw [selG_yes hq]
            simp only [if_true, List.map_cons, gatherAt]
            rw [if_neg (by omega)]
            rfl
          | false =>
            rw [selG_no hq]
            simp only [Bool.false_eq_true, if_false]
/-- Where a guard does not hold, its shard tells it, and no shard tells an earlier one. -/
theorem parts_bad {P : List DPair} (hP : RisP P) {sp : List (List UInt8)} (h : GoodSp sp) : ∀ (ops : List DOp) (ws : List DWrite) (rows : List (List DPair)) (i : Nat), RisW ws → (runL P ws rows i ops).err ≠ 0 →
    ∃ g r, g < ops.length ∧ r ≤ sp.length ∧ runL P ws rows i ops = ⟨12, (i + g : Nat), [], []⟩ ∧
      (∀ rs j, ∃ k, ∃ hk : k < (selG sp r i ops).length, runL (shardB P sp r) (shardW ws sp r) rs j ((selG sp r i ops).map Prod.fst) = ⟨12, (j + k : Nat), [], []⟩ ∧ (selG sp r i ops)[k].2 = ((i + g : Nat) : Int)) ∧
      ∀ s, s ≤ sp.length → ∀ rs j k (hk : k < (selG sp s i ops).length), runL (shardB P sp s) (shardW ws sp s) rs j ((selG sp s i ops).map Prod.fst) = ⟨12, (j + k : Nat), [], []⟩ → ((i + g : Nat) : Int) ≤ (selG sp s i ops)[k].2
  | [], ws, rows, i, hw, he => by simp [runL] at he
  | o :: r, ws, rows, i, hw, he => by
    cases hd : doB P ws o with
    | none =>
      have hk := do_none hd
      have hrun : runL P ws rows i (o :: r) = ⟨12, i, [], []⟩ := by rw [runL, hd]
      refine ⟨0, routeB sp o.key, by simp, routeB_le _ _, by rw [hrun]; rfl, fun rs j => ?_, fun s hs rs j k hk' _ => ?_⟩
      · have hq : (pieceB sp (routeB sp o.key) o).2 = true := by rw [piece_point_eq h (routeB_le _ _) hk]; exact decide_eq_true rfl
        have hsel := selG_yes (i := i) (r := r) hq
        have hp1 : (pieceB sp (routeB sp o.key) o).1 = o := by rw [piece_point_eq h (routeB_le _ _) hk]
        refine ⟨0, by rw [hsel]; simp, ?_, ?_⟩
        · rw [hsel]
          simp only [List.map_cons, hp1]
          rw [runL, do_point hP hw hk rfl, hd]
          rfl
        · simp only [hsel, List.getElem_cons_zero]
          rfl
      · have := (selG_idx (List.getElem_mem hk')).1
        simpa using this
    | some y =>
      obtain ⟨x, ws1⟩ := y
      have hrun : runL P ws rows i (o :: r) = runL P ws1 (rows ++ [x]) (i + 1) r := by rw [runL, hd]
      rw [hrun] at he ⊢
      have hw1 := doB_rising hw hd
      obtain ⟨g, q, h1, h2, h3, h4, h5⟩ := parts_bad hP h r ws1 (rows ++ [x]) (i + 1) hw1 he
      have e1 : i + 1 + g = i + (g + 1) := by omega
      rw [e1] at h3 h4 h5
      refine ⟨g + 1, q, by simp; omega, h2, h3, fun rs j => ?_, fun s hs rs j k hk hrs => ?_⟩
      · obtain ⟨d1, d2⟩ := do_some hP hw h h2 hd
        cases hq : (pieceB sp q o).2 with
        | true =>
          have hsel := selG_yes (i := i) (r := r) hq
          obtain ⟨k, hk, k1, k2⟩ := h4 (rs ++ [shX (overB P ws) sp q o x]) (j + 1)
          refine ⟨k + 1, by rw [hsel]; simp; omega, ?_, ?_⟩
          · rw [hsel]
            simp only [List.map_cons]
            rw [runL, d1 hq]
            simp only
            rw [k1, show j + 1 + k = j + (k + 1) by omega]
          · simp only [hsel, List.getElem_cons_succ]
            exact k2
        | false =>
          have hsel := selG_no (i := i) (r := r) hq
          rw [hsel, ← d2 hq]
          exact h4 rs j
      · obtain ⟨d1, d2⟩ := do_some hP hw h hs hd
        cases hq : (pieceB sp s o).2 with
        | true =>
          have hsel := selG_yes (i := i) (r := r) hq
          have hrs' := hrs
          rw [hsel] at hrs'
          simp only [List.map_cons] at hrs'
          rw [runL, d1 hq] at hrs'
          simp only at hrs'
          rcases k with _ | k
          · exfalso
            rcases runL_cases (P := shardB P sp s) (ops := (selG sp s (i + 1) r).map Prod.fst) (ws := shardW ws1 sp s) (rows := rs ++ [shX (overB P ws) sp s o x]) (j := j + 1) with ⟨z1, _⟩ | ⟨k', _, z2⟩
            · rw [hrs'] at z1
              simp at z1
            · rw [hrs'] at z2
              simp only [DOutcome.mk.injEq] at z2
              have := z2.2.1
              omega
          · have hk' : k < (selG sp s (i + 1) r).length := by rw [hsel] at hk; simpa using hk
            have := h5 s hs _ (j + 1) k hk' (by rw [hrs', show j + (k + 1) = j + 1 + k by omega])
            simp only [hsel, List.getElem_cons_succ]
            exact this
        | false =>
          have hsel := selG_no (i := i) (r := r) hq
          have hrs' := hrs
          rw [hsel, ← d2 hq] at hrs'
          have := h5 s hs rs j k (by rw [← hsel]; exact hk) hrs'
          simp only [hsel]
          exact this
end Go.Proofs.Ythflkfgiclcdiaa
