/-
  Walk: TwopcTimes.
-/
import Derived.Test.YthflkfgiclcdiaaGreatC19
namespace Go.Proofs.YthflkfgiclcdiaaGreat
open Go.Gr Go.RowKit
set_option linter.unusedSimpArgs false
set_option maxRecDepth 100000 in
set_option maxHeartbeats 8000000 in
theorem times_ {w : World} {M : Nat → Prop} {v1 v2 : Value} {sp : List (List UInt8)} {ops : List DOp} {pt an : Int} (h1 : (Ty.slice Ty.bytes).rep w M [v1] sp) (h2 : (Ty.slice tOp).rep w M [v2] ops) (hpt : I64 pt) (han : I64 an) :
    Calls Tryz.prog 4 #[v1, .agg #[v2, .int .i64 pt], .int .i64 an] w fun e w' => e = .returned (.bool true) ∧ Step w w' := by
  obtain ⟨a1, c1, rfl, _⟩ := Ty.slice_val h1
  obtain ⟨a2, c2, rfl, _⟩ := Ty.slice_val h2
  have H1 := Lib.hid h1
  have H2 := Lib.hid h2
  clear h1 h2
  obtain ⟨qs, hqs⟩ : ∃ qs, qs = ops.take 18 := ⟨_, rfl⟩
  have HQS := Lib.hid hqs
  have hql : Hid (qs.length ≤ 18) := Lib.hid (by rw [hqs, List.length_take]; omega)
  clear hqs
  go_enter Tryz.func4, Tryz.ntmps4
  go_upto_region 3 with (go_at_call 7; refine (awake_ _).mono ?_; rintro e w1 ⟨rfl, hS1⟩; have s1 : ∀ j, w1.cell? ⟨w.heap.size, j, none⟩ = _ := fun j => hS1.cell (by first | assumption | omega | (simp; done) | (simp; omega)) j)
  refine wp_region_held_drew (S := (fun w' => w'.cell? ⟨w.heap.size, 0, none⟩ = some (.slice a2 ops.length c2) ∧ w'.cell? ⟨w.heap.size, 1, none⟩ = some (.int .i64 pt))) (by kernel_rfl) ?_ (fun hHeld => ?_)
  · (go_keep)
  refine wpAnyH_take (i := 0) (v := ?_) rfl (by kernel_rfl) (by kernel_rfl) (by kernel_rfl) (fun _ _ _ h => h) (Or.inl ⟨by rfl, ?_⟩) (by assumption) ?_
  rotate_left 1
  · (intro w hSw; (try dsimp only at hSw); go_simp; (try with_reducible rfl))
  try simp only [Act.put, List.getElem_toArray, List.getElem_cons_succ, List.getElem_cons_zero, List.setIfInBounds_toArray, List.set_cons_zero, List.set_cons_succ]
  refine wpAnyH_take (i := 1) (v := ?_) rfl (by kernel_rfl) (by kernel_rfl) (by kernel_rfl) (fun _ _ _ h => h) (Or.inl ⟨by rfl, ?_⟩) (by assumption) ?_
  rotate_left 1
  · (intro w hSw; (try dsimp only at hSw); go_simp; (try with_reducible rfl))
  try simp only [Act.put, List.getElem_toArray, List.getElem_cons_succ, List.getElem_cons_zero, List.setIfInBounds_toArray, List.set_cons_zero, List.set_cons_succ]
  refine wpAnyH_take (i := 3) (v := ?_) rfl (by kernel_rfl) (by kernel_rfl) (by kernel_rfl) (fun _ _ _ h => h) (Or.inl ⟨by rfl, ?_⟩) (by assumption) ?_
  rotate_left 1
  · (intro w hSw; (try dsimp only at hSw); go_simp; (try with_reducible rfl))
  try simp only [Act.put, List.getElem_toArray, List.getElem_cons_succ, List.getElem_cons_zero, List.setIfInBounds_toArray, List.set_cons_zero, List.set_cons_succ]
  refine wpAnyH_take (i := 4) (v := ?_) rfl (by kernel_rfl) (by kernel_rfl) (by kernel_rfl) (fun _ _ _ h => h) (Or.inl ⟨by rfl, ?_⟩) (by assumption) ?_
  rotate_left 1
  · (intro w hSw; (try dsimp only at hSw); go_simp; (try with_reducible rfl))
  try simp only [Act.put, List.getElem_toArray, List.getElem_cons_succ, List.getElem_cons_zero, List.setIfInBounds_toArray, List.set_cons_zero, List.set_cons_succ]
  refine wpAnyH_ready (rs := [2]) (by kernel_rfl) (by simp) ?_
  refine AllReadyH.cons rfl (fun K hK => ?_) AllReadyH.nil
  try simp only [List.getElem_toArray, List.getElem_cons_succ, List.getElem_cons_zero]
  go_simp
  (go_at_call 19; refine (Few_ (n := 18) (Ty.step _ H2.out (by (repeat (first | exact Step.refl _ | refine Step.alloc ?_ _ | refine Step.drew ?_ | refine Step.drewN ?_ _ | refine Step.setCell ?_ (by first | exact Nat.le_refl _ | assumption | omega | (simp; done) | (simp; omega)) _ | assumption | refine Step.trans ?_ (by assumption : Step _ _))))) (by omega)).mono ?_; rintro e w2 ⟨v2, rfl, hR2, rfl⟩; rw [← HQS.out] at hR2; obtain ⟨d2, e2, rfl, _⟩ := Ty.slice_val hR2; have HR2 := Lib.hid hR2; clear hR2)
  refine hK.out _ _ ?_ (fun hHeld => ?_)
  · (go_keep)
  clear hK K
  try simp only [Act.put, List.getElem_toArray, List.getElem_cons_succ, List.getElem_cons_zero, List.setIfInBounds_toArray, List.set_cons_zero, List.set_cons_succ]
  refine wpAnyH_take (i := 5) (v := ?_) rfl (by kernel_rfl) (by kernel_rfl) (by kernel_rfl) (fun _ _ _ h => h) (Or.inl ⟨by rfl, ?_⟩) (by assumption) ?_
  rotate_left 1
  · (intro w hSw; (try dsimp only at hSw); go_simp; (try with_reducible rfl))
  try simp only [Act.put, List.getElem_toArray, List.getElem_cons_succ, List.getElem_cons_zero, List.setIfInBounds_toArray, List.set_cons_zero, List.set_cons_succ]
  refine wpAnyH_take (i := 6) (v := ?_) rfl (by kernel_rfl) (by kernel_rfl) (by kernel_rfl) (fun _ _ _ h => h) (Or.inl ⟨by rfl, ?_⟩) (by assumption) ?_
  rotate_left 1
  · (intro w hSw; (try dsimp only at hSw); go_simp; (try with_reducible rfl))
  try simp only [Act.put, List.getElem_toArray, List.getElem_cons_succ, List.getElem_cons_zero, List.setIfInBounds_toArray, List.set_cons_zero, List.set_cons_succ]
  refine wpAnyH_done (by kernel_rfl) ?_ _
  have hS1' : Step w w1 := by (repeat (first | exact Step.refl _ | refine Step.alloc ?_ _ | refine Step.drew ?_ | refine Step.drewN ?_ _ | refine Step.setCell ?_ (by first | exact Nat.le_refl _ | assumption | omega | (simp; done) | (simp; omega)) _ | assumption | refine Step.trans ?_ (by assumption : Step _ _)))
  have HR3 := Lib.hid (Ty.kept (w' := w1) _ HR2.out (fun _ _ _ => rfl))
  clear HR2
  by_cases hbs : splitsB sp = 0
  · by_cases hbc : checkRef qs = 0
    · by_cases hbp : pt > 50
      · go_wp2_with (first
          | (go_at_call 20; refine (refSplits_ (Ty.step _ H1.out (by (repeat (first | exact Step.refl _ | refine Step.alloc ?_ _ | refine Step.drew ?_ | refine Step.drewN ?_ _ | refine Step.setCell ?_ (by first | exact Nat.le_refl _ | assumption | omega | (simp; done) | (simp; omega)) _ | assumption | refine Step.trans ?_ (by assumption : Step _ _)))))).mono ?_; rintro e w3 ⟨rfl, k3, rfl⟩; rw [hbs])
          | (go_at_call 21; refine (refCheck_ (Ty.step _ HR3.out ((Step.refl w1).drewN _))).mono ?_; rintro e w4 ⟨rfl, hS4⟩; rw [hbc]))
        go_ret
        exact ⟨rfl, by (repeat (first | exact Step.refl _ | refine Step.alloc ?_ _ | refine Step.drew ?_ | refine Step.drewN ?_ _ | refine Step.setCell ?_ (by first | exact Nat.le_refl _ | assumption | omega | (simp; done) | (simp; omega)) _ | assumption | refine Step.trans ?_ (by assumption : Step _ _)))⟩
      · go_upto_region 7 with (first
          | (go_at_call 20; refine (refSplits_ (Ty.step _ H1.out (by (repeat (first | exact Step.refl _ | refine Step.alloc ?_ _ | refine Step.drew ?_ | refine Step.drewN ?_ _ | refine Step.setCell ?_ (by first | exact Nat.le_refl _ | assumption | omega | (simp; done) | (simp; omega)) _ | assumption | refine Step.trans ?_ (by assumption : Step _ _)))))).mono ?_; rintro e w3 ⟨rfl, k3, rfl⟩; rw [hbs])
          | (go_at_call 21; refine (refCheck_ (Ty.step _ HR3.out ((Step.refl w1).drewN _))).mono ?_; rintro e w4 ⟨rfl, hS4⟩; rw [hbc]))
        have hS04 : Step w w4 := (hS1'.drewN _).trans hS4
        have H1' := Lib.hid (Ty.step _ H1.out hS04)
        have HR4 := Lib.hid (Ty.step _ HR3.out (((Step.refl w1).drewN _).trans hS4))
        have HBS := Lib.hid hbs
        have HBC := Lib.hid hbc
        have HPT := Lib.hid hpt
        clear hbs hbc hpt H1 H2 HR3 hS4 hS1 hS1' s1 hHeld
        refine wp_region_held_drew (S := (fun w' => w'.cell? ⟨w4.heap.size, 0, none⟩ = some (.int .u64 2) ∧ w'.cell? ⟨w4.heap.size, 1, none⟩ = some (.int .u64 0) ∧ w'.cell? ⟨w4.heap.size, 2, none⟩ = some (.int .u64 3))) (by kernel_rfl) ?_ (fun hHeld => ?_)
        · (go_keep)
        refine wpAnyH_take (i := 0) (v := ?_) rfl (by kernel_rfl) (by kernel_rfl) (by kernel_rfl) (fun _ _ _ h => h) (Or.inl ⟨by rfl, ?_⟩) (by assumption) ?_
        rotate_left 1
        · (intro w hSw; (try dsimp only at hSw); go_simp; (try with_reducible rfl))
        try simp only [Act.put, List.getElem_toArray, List.getElem_cons_succ, List.getElem_cons_zero, List.setIfInBounds_toArray, List.set_cons_zero, List.set_cons_succ]
        refine wpAnyH_take (i := 1) (v := ?_) rfl (by kernel_rfl) (by kernel_rfl) (by kernel_rfl) (fun _ _ _ h => h) (Or.inl ⟨by rfl, ?_⟩) (by assumption) ?_
        rotate_left 1
        · (intro w hSw; (try dsimp only at hSw); go_simp; (try with_reducible rfl))
        try simp only [Act.put, List.getElem_toArray, List.getElem_cons_succ, List.getElem_cons_zero, List.setIfInBounds_toArray, List.set_cons_zero, List.set_cons_succ]
        refine wpAnyH_take (i := 2) (v := ?_) rfl (by kernel_rfl) (by kernel_rfl) (by kernel_rfl) (fun _ _ _ h => h) (Or.inl ⟨by rfl, ?_⟩) (by assumption) ?_
        rotate_left 1
        · (intro w hSw; (try dsimp only at hSw); go_simp; (try with_reducible rfl))
        try simp only [Act.put, List.getElem_toArray, List.getElem_cons_succ, List.getElem_cons_zero, List.setIfInBounds_toArray, List.set_cons_zero, List.set_cons_succ]
        refine wpAnyH_take (i := 4) (v := ?_) rfl (by kernel_rfl) (by kernel_rfl) (by kernel_rfl) (fun _ _ _ h => h) (Or.inl ⟨by rfl, ?_⟩) (by assumption) ?_
        rotate_left 1
        · (intro w hSw; (try dsimp only at hSw); go_simp; (try with_reducible rfl))
        try simp only [Act.put, List.getElem_toArray, List.getElem_cons_succ, List.getElem_cons_zero, List.setIfInBounds_toArray, List.set_cons_zero, List.set_cons_succ]
        refine wpAnyH_ready (rs := [3]) (by kernel_rfl) (by simp) ?_
        refine AllReadyH.cons rfl (fun K hK => ?_) AllReadyH.nil
        try simp only [List.getElem_toArray, List.getElem_cons_succ, List.getElem_cons_zero]
        go_simp
        (go_at_call 22; refine (OwnOps_ _ _ _ _ (by refine Ty.step _ (Hid.out (by assumption)) ?_; (repeat (first | exact Step.refl _ | refine Step.alloc ?_ _ | refine Step.drew ?_ | refine Step.drewN ?_ _ | refine Step.setCell ?_ (by first | exact Nat.le_refl _ | assumption | omega | (simp; done) | (simp; omega)) _ | assumption | refine Step.trans ?_ (by assumption : Step _ _))))).mono ?_; rintro e5 w5 ⟨v5, rfl, hA5, hS5⟩; obtain ⟨b5, m5, rfl⟩ := hA5.val; have s5_0 : ∀ j, w5.cell? ⟨w4.heap.size, j, none⟩ = _ := fun j => hS5.cell (by first | assumption | omega | (simp; done) | (simp; omega)) j; have z5_0 : w4.heap.size < w5.heap.size := Nat.lt_of_lt_of_le (by first | assumption | omega | (simp; done) | (simp; omega)) hS5.size; have HA5 := Lib.hid hA5; clear hA5)
        refine hK.out _ _ ?_ (fun hHeld => ?_)
        · (go_keep)
        clear hK K
        try simp only [Act.put, List.getElem_toArray, List.getElem_cons_succ, List.getElem_cons_zero, List.setIfInBounds_toArray, List.set_cons_zero, List.set_cons_succ]
        refine wpAnyH_ready (rs := [5]) (by kernel_rfl) (by simp) ?_
        refine AllReadyH.cons rfl (fun K hK => ?_) AllReadyH.nil
        try simp only [List.getElem_toArray, List.getElem_cons_succ, List.getElem_cons_zero]
        go_simp
        (go_at_call 9; refine (New_B _ (fun _ => False) ⟨2, 0, 3⟩ _ _ sp qs pt ⟨by decide, by decide, by decide⟩ (Ty.less _ (Ty.step _ H1'.out (by (repeat (first | exact Step.refl _ | refine Step.alloc ?_ _ | refine Step.drew ?_ | refine Step.drewN ?_ _ | refine Step.setCell ?_ (by first | exact Nat.le_refl _ | assumption | omega | (simp; done) | (simp; omega)) _ | assumption | refine Step.trans ?_ (by assumption : Step _ _))))) (fun _ _ h => h.elim)) (Own.rep' (OwnG.own (OwnG.of HA5.out) (fun _ _ _ h => h.elim)) (fun _ _ h => h)) (by have := splits_len HBS.out; omega) (by have := hql.out; omega) HPT.out).mono ?_; rintro e w6 ⟨cb, B, rfl, hBl, hB6, hC6, hS6⟩; have s6 : ∀ j, w6.cell? ⟨w4.heap.size, j, none⟩ = _ := fun j => hS6.cell (by first | assumption | omega | (simp; done) | (simp; omega)) j; have HC6 := Lib.hid hC6; clear hC6)
        refine hK.out _ _ ?_ (fun hHeld => ?_)
        · (go_keep)
        clear hK K
        try simp only [Act.put, List.getElem_toArray, List.getElem_cons_succ, List.getElem_cons_zero, List.setIfInBounds_toArray, List.set_cons_zero, List.set_cons_succ]
        refine wpAnyH_take (i := 6) (v := ?_) rfl (by kernel_rfl) (by kernel_rfl) (by kernel_rfl) (fun _ _ _ h => h) (Or.inl ⟨by rfl, ?_⟩) (by assumption) ?_
        rotate_left 1
        · (intro w hSw; (try dsimp only at hSw); go_simp; (try with_reducible rfl))
        try simp only [Act.put, List.getElem_toArray, List.getElem_cons_succ, List.getElem_cons_zero, List.setIfInBounds_toArray, List.set_cons_zero, List.set_cons_succ]
        refine wpAnyH_done (by kernel_rfl) ?_ _
        have hx0 := hHeld.1
        have hx1 := hHeld.2.1
        have hx2 := hHeld.2.2
        obtain ⟨vo, vp, mo, mu, vs, vr, hC⟩ := HC6.out
        have hS46 : Step w4 w6 := Step.trans (by (repeat (first | exact Step.refl _ | refine Step.alloc ?_ _ | refine Step.drew ?_ | refine Step.drewN ?_ _ | refine Step.setCell ?_ (by first | exact Nat.le_refl _ | assumption | omega | (simp; done) | (simp; omega)) _ | assumption | refine Step.trans ?_ (by assumption : Step _ _)))) hS6
        have hS6' : Step w w6 := hS04.trans hS46
        have hBw : w4.heap.size < B := Nat.lt_of_lt_of_le (by have := hS5.size; simp at this ⊢; omega) hBl
        have hcb := hC.base
        have hw4 := hS04.size
        have hw6 : w4.heap.size < w6.heap.size := lt_of_cell hx0
        go_upto_region 8 with fail
        generalize hps : partsB sp qs (sp.length + 1) = ps at *
        obtain ⟨ob, rfl, _⟩ := hC.outs
        have hob := hC.omo ob rfl
        have hinc : (ps.map (fun p : DPart => p.shard)).Pairwise (· < ·) := by rw [← hps]; exact partsB_inc
        have hsm : ∀ s ∈ ps.map (fun p : DPart => p.shard), 0 ≤ s ∧ s < 4 := by
          intro s hs
          rw [← hps] at hs
          have h1 := partsB_small s hs
          have h2 := splits_len HBS.out
          omega
        have hck : checkB qs = 0 := by rw [check_same]; exact HBC.out
        have HINC := Lib.hid hinc
        have HSM := Lib.hid hsm
        have HCK := Lib.hid hck
        have HC6 := Lib.hid hC
        have hS64 := Lib.hid hS6'
        clear hinc hsm hck hC hps hS6 hS5 H1' HR4 hHeld s6 hS46 hS6' hS04
        by_cases hpn : ps = []
        · subst hpn
          go_upto_region 10 with (go_at_call 10; refine (Begin_none HC6.out hB6 rfl HCK.out rfl (by have := hql.out; show qs.length ≤ _; omega)).mono ?_; rintro e w7 ⟨rfl, vr7, hC7, hT7⟩; have HC7 := Lib.hid hC7; have HT7 := Lib.hid hT7; clear hC7 hT7)
          go_upto_region 11 with (first
            | (go_at_call 23; refine (cRecord_decide HC7.out rfl).mono ?_; rintro e w8 ⟨b5, m5, b6, m6, rfl, hR8, hS8⟩; have HR8 := Lib.hid hR8; have HS8 := Lib.hid hS8; clear hR8 hS8)
            | (refine wpList_store_row rfl 63 (.tmp 12) (.tmp 54) rfl w8.heap.size (recCells 6 ⟨2, 0, 3⟩ true (.slice b5 0 m5) (.slice b6 (replyB 0 0 (List.replicate qs.length [])).length m6)) rfl rfl 63 (recCells 0 ⟨0, 0, 0⟩ false (.slice none 0 0) (.slice none 0 0)) (CellsAt.new rfl) (by kernel_rfl) rfl recCells_one ?_))
          refine wp_code (fun W => CellsAt W w8.heap.size (recCells 6 ⟨2, 0, 3⟩ true (.slice b5 0 m5) (.slice b6 (replyB 0 0 (List.replicate qs.length [])).length m6)) 63 ∧ Step w7 W) ?_ ?_
          · exact ⟨CellsAt.row (CellsAt.new rfl) _, Step.setRow (HS8.out.alloc _) HS8.out.size _⟩
          rintro wl ⟨hCl, hSl⟩
          have y0 : wl.cell? ⟨w8.heap.size, 0, none⟩ = some (.int .i64 6) := hCl.cell 0
          have y6 : wl.cell? ⟨w8.heap.size, 6, none⟩ = some (.bool true) := hCl.cell 6
          have y7 : wl.cell? ⟨w8.heap.size, 7, none⟩ = some (.slice b5 0 m5) := hCl.cell 7
          have hy := hCl.lt
          have HCl := Lib.hid (HC7.out.keep (fun b h1 _ => hSl.heap h1))
          clear hCl
          go_wp2_with (go_at_call 24; refine (cWants_ (HCl.out.cells.cell 7)).mono ?_; rintro e w9 ⟨rfl, rfl⟩)
          go_ret
          exact ⟨rfl, (Turn.step hS64.out HT7.out (fun b hb => by omega)).trans hSl⟩
        · obtain ⟨L, hL⟩ : ∃ L, asksOf ⟨2, 0, 3⟩ (ps.map (fun p : DPart => p.shard)) (workAsk ps) = L := ⟨_, rfl⟩
          have hLn : L.length = (ps.map (fun p : DPart => p.shard)).length := by rw [← hL]; exact asksOf_len
          have hLp : 0 < L.length := by rw [hLn, List.length_map]; exact List.length_pos_iff.2 hpn
          have HLn := Lib.hid hLn
          clear hLn
          have HLI : Hid (L.Pairwise (fun p q => p.1 < q.1)) := Lib.hid (by rw [← hL]; exact asks_inc HINC.out)
          have HLK : Hid (∀ p ∈ L, p.2.kind = 2) := Lib.hid (by rw [← hL]; exact asks_kind (fun _ => rfl))
          have hz : ((L.length : Int) == 0) = false := beq_eq_false_iff_ne.2 (by omega)
          go_upto_region 9 with (go_at_call 10; refine (Begin_work HC6.out hB6 HINC.out (List.length_map _) rfl HCK.out hpn).mono ?_; rintro e w7 ⟨v7, mu7, rfl, hA7, hC7, hT7⟩; simp only at hA7 hC7; rw [hL] at hA7 hC7; obtain ⟨fa, fn, fc, rfl, HFN⟩ := hA7.valN; obtain rfl : fn = L.length := HFN.out.trans sends_len; have HA7 := Lib.hid hA7; have HC7 := Lib.hid hC7; have HT7 := Lib.hid hT7; clear hA7 hC7 hT7)
          obtain ⟨nb, rfl, _⟩ := HC7.out.out
          have hnb := HC7.out.omu nb rfl
          have hcb7 := HC7.out.lt
          have hLs : L.length ≤ 1048576 := by rw [HLn.out]; exact HC7.out.few
          have hx67 := HT7.out.size
          have y0 : w7.cell? ⟨w4.heap.size, 0, none⟩ = some (.int .u64 2) := (HT7.out.cell hw6 (by omega) 0).trans hx0
          have y1 : w7.cell? ⟨w4.heap.size, 1, none⟩ = some (.int .u64 0) := (HT7.out.cell hw6 (by omega) 1).trans hx1
          have y2 : w7.cell? ⟨w4.heap.size, 2, none⟩ = some (.int .u64 3) := (HT7.out.cell hw6 (by omega) 2).trans hx2
          clear hx0 hx1 hx2
          go_upto_region 13 with fail
          generalize hn : max pt 1 = n
          have hpb : patB pt = n := by unfold patB; split <;> omega
          have hn1 : 1 ≤ n := by omega
          have hn50 : n ≤ 50 := by omega
          rw [hpb] at HC7
          clear hn hpb hbp
          go_cut [87] (fun s87 wx => ∃ bb : Bool, s87 = .bool bb ∧ (bb = true → 0 ≤ an ∧ an < L.length ∧ 1 < L.length) ∧ w7 = wx)
          case first =>
            by_cases g1 : 0 ≤ an
            · by_cases g2 : an < (L.length : Int)
              · by_cases g3 : (L.length : Int) > 1
                · go_wp2
                  go_meet
                  case rel => exact ⟨true, by simp [g1, g2, g3], fun _ => ⟨g1, g2, by omega⟩, rfl⟩
                · go_wp2
                  go_meet
                  case rel => exact ⟨false, by simp [g1, g2, g3], fun h => by simp at h, rfl⟩
              · go_wp2
                go_meet
                case rel => exact ⟨false, by simp [g1, g2], fun h => by simp at h, rfl⟩
            · go_wp2
              go_meet
              case rel => exact ⟨false, by simp [g1], fun h => by simp at h, rfl⟩
          case rest =>
            obtain ⟨bb, rfl, hbb, rfl⟩ := hcut
            have HBB := Lib.hid hbb
            clear hbb
            refine open_k' (by assumption) ?_
            go_cut [14] (fun _ wx => ∃ (os : Option (List (Int × DOutcome))) (l2 : List (Int × DAsk)), 0 < l2.length ∧ l2.length ≤ L.length ∧ CoordIn wx B cb ⟨⟨2, 0, 3⟩, qs, ps, os, 0, 0, some l2, ps.map (fun p : DPart => p.shard), false, [], false, 0, n⟩ vo vp (.map (some ob)) (.map (some nb)) vs vr ∧ Turn (fun b => b = cb ∨ b = ob ∨ b = nb) w7 wx)
            case first =>
              cases bb
              · go_wp2
                go_meet
                case rel => exact ⟨_, L, hLp, Nat.le_refl _, HC7.out, Turn.refl _ _⟩
              · obtain ⟨g1, g2, g3⟩ := HBB.out rfl
                obtain ⟨i, rfl⟩ : ∃ i : Nat, an = i := ⟨an.toNat, by omega⟩
                have hi : i < L.length := by omega
                have hfil : Hid ((L.filter (fun p => p.1 != L[i].1)).length = L.length - 1) := Lib.hid (inc_filter_len HLI.out hi)
                obtain ⟨fb, fo, fes, hfa, hfb, _, ⟨f8, f10, rfl, hf0, _⟩, hfq⟩ := Ty.slice_at (HA7.out.rep (fun _ h => h)) (k := i) (by rw [sends_len]; exact hi)
                subst hfa
                have fq0 := hfq 0 _ rfl
                simp only [sends_at hi, show tSend.n = 13 from rfl, Nat.add_zero] at fq0 hf0
                obtain ⟨sh, hsh⟩ : ∃ sh, L[i].1 = sh := ⟨_, rfl⟩
                rw [hsh] at fq0 hf0
                have hfil' := hfil.out
                rw [hsh] at hfil'
                have HF0 := Lib.hid hf0
                have HFIL := Lib.hid hfil'
                have HIN : Hid (∃ p ∈ L, p.1 = sh) := Lib.hid ⟨L[i], List.getElem_mem hi, hsh⟩
                have HNE : Hid (L.filter (fun p => p.1 != sh) ≠ []) := Lib.hid (fun h => by rw [h] at hfil'; simp at hfil'; omega)
                clear hfq hf0 hsh hfil hfil'
                go_upto_region 14 with fail
                refine wp_region_cut (S := (fun w' => w'.cell? ⟨w4.heap.size, 0, none⟩ = some (.int .u64 2) ∧ w'.cell? ⟨w4.heap.size, 1, none⟩ = some (.int .u64 0) ∧ w'.cell? ⟨w4.heap.size, 2, none⟩ = some (.int .u64 3) ∧ w'.cell? ⟨fb, fo + i * 13, none⟩ = some (.int .i64 sh))) 8 (by kernel_rfl) ?_ (fun hHeld => ?_)
                · (go_keep)
                refine wpAnyC_take (i := 0) (v := ?_) rfl (by kernel_rfl) (by kernel_rfl) (by kernel_rfl) (by decide) [8, 9] (by kernel_rfl) (fun _ _ _ h => h) (Or.inl ⟨by rfl, ?_⟩) (by assumption) ?_
                rotate_left 1
                · (intro w hSw; (try dsimp only at hSw); go_simp; (try with_reducible rfl))
                try simp only [Act.put, List.getElem_toArray, List.getElem_cons_succ, List.getElem_cons_zero, List.setIfInBounds_toArray, List.set_cons_zero, List.set_cons_succ]
                refine wpAnyC_take (i := 1) (v := ?_) rfl (by kernel_rfl) (by kernel_rfl) (by kernel_rfl) (by decide) [3, 4, 5, 8, 9] (by kernel_rfl) (fun _ _ _ h => h) (Or.inl ⟨by rfl, ?_⟩) (by assumption) ?_
                rotate_left 1
                · (intro w hSw; (try dsimp only at hSw); go_simp; (try with_reducible rfl))
                try simp only [Act.put, List.getElem_toArray, List.getElem_cons_succ, List.getElem_cons_zero, List.setIfInBounds_toArray, List.set_cons_zero, List.set_cons_succ]
                refine wpAnyC_take (i := 2) (v := ?_) rfl (by kernel_rfl) (by kernel_rfl) (by kernel_rfl) (by decide) [3, 4, 5, 8, 9] (by kernel_rfl) (fun _ _ _ h => h) (Or.inl ⟨by rfl, ?_⟩) (by assumption) ?_
                rotate_left 1
                · (intro w hSw; (try dsimp only at hSw); go_simp; (try with_reducible rfl))
                try simp only [Act.put, List.getElem_toArray, List.getElem_cons_succ, List.getElem_cons_zero, List.setIfInBounds_toArray, List.set_cons_zero, List.set_cons_succ]
                refine wpAnyC_take (i := 3) (v := ?_) rfl (by kernel_rfl) (by kernel_rfl) (by kernel_rfl) (by decide) [4, 5, 8, 9] (by kernel_rfl) (fun _ _ _ h => h) (Or.inl ⟨by rfl, ?_⟩) (by assumption) ?_
                rotate_left 1
                · (intro w hSw; (try dsimp only at hSw); go_simp; (try with_reducible rfl))
                try simp only [Act.put, List.getElem_toArray, List.getElem_cons_succ, List.getElem_cons_zero, List.setIfInBounds_toArray, List.set_cons_zero, List.set_cons_succ]
                refine wpAnyC_take (i := 4) (v := ?_) rfl (by kernel_rfl) (by kernel_rfl) (by kernel_rfl) (by decide) [5, 8, 9] (by kernel_rfl) (fun _ _ _ h => h) (Or.inl ⟨by rfl, ?_⟩) (by assumption) ?_
                rotate_left 1
                · (intro w hSw; (try dsimp only at hSw); go_simp; (try with_reducible rfl))
                try simp only [Act.put, List.getElem_toArray, List.getElem_cons_succ, List.getElem_cons_zero, List.setIfInBounds_toArray, List.set_cons_zero, List.set_cons_succ]
                refine wpAnyC_take (i := 5) (v := ?_) rfl (by kernel_rfl) (by kernel_rfl) (by kernel_rfl) (by decide) [8, 9] (by kernel_rfl) (fun _ _ _ h => h) (Or.inl ⟨by rfl, ?_⟩) (by assumption) ?_
                rotate_left 1
                · (intro w hSw; (try dsimp only at hSw); go_simp; (try with_reducible rfl))
                try simp only [Act.put, List.getElem_toArray, List.getElem_cons_succ, List.getElem_cons_zero, List.setIfInBounds_toArray, List.set_cons_zero, List.set_cons_succ]
                refine wpAnyC_take (i := 6) (v := ?_) rfl (by kernel_rfl) (by kernel_rfl) (by kernel_rfl) (by decide) [7, 8, 9] (by kernel_rfl) (fun _ _ _ h => h) (Or.inl ⟨by rfl, ?_⟩) (by assumption) ?_
                rotate_left 1
                · (intro w hSw; (try dsimp only at hSw); go_simp; (try with_reducible rfl))
                try simp only [Act.put, List.getElem_toArray, List.getElem_cons_succ, List.getElem_cons_zero, List.setIfInBounds_toArray, List.set_cons_zero, List.set_cons_succ]
                refine wpAnyC_take (i := 7) (v := ?_) rfl (by kernel_rfl) (by kernel_rfl) (by kernel_rfl) (by decide) [8, 9] (by kernel_rfl) (fun _ _ _ h => h) (Or.inl ⟨by rfl, ?_⟩) (by assumption) ?_
                rotate_left 1
                · (intro w hSw; (try dsimp only at hSw); go_simp; (try with_reducible rfl))
                try simp only [Act.put, List.getElem_toArray, List.getElem_cons_succ, List.getElem_cons_zero, List.setIfInBounds_toArray, List.set_cons_zero, List.set_cons_succ]
                refine wpAnyC_ready (rs := [8]) (by kernel_rfl) (by simp) ?_
                refine AllReadyC.cut rfl (fun K hK => ?_)
                try simp only [List.getElem_toArray, List.getElem_cons_succ, List.getElem_cons_zero]
                go_simp
                (go_at_call 16; refine (cAnswer_work (c := ⟨⟨2, 0, 3⟩, qs, ps, some [], 0, 0, some L, ps.map (fun p : DPart => p.shard), false, [], false, 0, n⟩) (x := ⟨2, 0, 0, ⟨2, 0, 3⟩, 0, 0, ⟨0, 0, [], []⟩, false, [], 0⟩) (HC7.out.keep (fun b h1 _ => Step.heap (by (repeat (first | exact Step.refl _ | refine Step.alloc ?_ _ | refine Step.drew ?_ | refine Step.drewN ?_ _ | refine Step.setCell ?_ (by first | exact Nat.le_refl _ | assumption | omega | (simp; done) | (simp; omega)) _ | assumption | refine Step.trans ?_ (by assumption : Step _ _))) : Step w7 _) h1)) HF0.out HLK.out HIN.out rfl rfl rfl HNE.out).mono ?_; rintro e w8 ⟨rfl, hC8, hT8⟩; have HC8 := Lib.hid hC8; have HT8 := Lib.hid hT8; clear hC8 hT8)
                refine hK.out _ _ trivial (fun hHeld => ?_)
                clear hK K
                try simp only [Act.put, List.getElem_toArray, List.getElem_cons_succ, List.getElem_cons_zero, List.setIfInBounds_toArray, List.set_cons_zero, List.set_cons_succ]
                have hTrue : True := trivial
                refine wpAnyH_take (i := 9) (v := ?_) rfl (by kernel_rfl) (by kernel_rfl) (by kernel_rfl) (fun _ _ _ h => h) (Or.inl ⟨by rfl, ?_⟩) (by assumption) ?_
                rotate_left 1
                · (intro w hSw; (try dsimp only at hSw); go_simp; (try with_reducible rfl))
                try simp only [Act.put, List.getElem_toArray, List.getElem_cons_succ, List.getElem_cons_zero, List.setIfInBounds_toArray, List.set_cons_zero, List.set_cons_succ]
                refine wpAnyH_done (by kernel_rfl) ?_ _
                go_wp2_with (go_at_call 11; refine (Retry_ ⟨_, _, _, _, _, _, HC8.out⟩).mono ?_; rintro e w9 ⟨v9, rfl, hA9, hS9⟩; obtain ⟨ga, gn, gc, rfl, HGN⟩ := hA9.valN; have hgn : (gn : Int) = (L.length : Int) - 1 := (by have h1 := HGN.out; rw [sends_len, HFIL.out] at h1; omega); clear hA9)
                go_meet
                case rel => exact ⟨_, L.filter (fun p => p.1 != sh), List.length_pos_iff.2 HNE.out, List.length_filter_le _ _, HC8.out.keep (fun b h1 _ => hS9.heap h1), (((Turn.of (by (repeat (first | exact Step.refl _ | refine Step.alloc ?_ _ | refine Step.drew ?_ | refine Step.drewN ?_ _ | refine Step.setCell ?_ (by first | exact Nat.le_refl _ | assumption | omega | (simp; done) | (simp; omega)) _ | assumption | refine Step.trans ?_ (by assumption : Step _ _))) : Step w7 _)).trans HT8.out).mono (fun b _ h => .inr h)).then hS9⟩
            case rest =>
              obtain ⟨os, l2, hl2, hl2L, hC, hT⟩ := hcut
              generalize ps.map (fun p : DPart => p.shard) = sh at *
              have hz7 := hT.size
              have x0 := (hT.cell (by omega) (by omega) 0).trans y0
              have x1 := (hT.cell (by omega) (by omega) 1).trans y1
              have x2 := (hT.cell (by omega) (by omega) 2).trans y2
              have hSc : Step w wc := Turn.step hS64.out ((HT7.out.mono (fun b _ h => Or.inl h)).trans hT) (fun b hb => by omega)
              have HCc := Lib.hid hC
              have HSc := Lib.hid hSc
              have hcbc := hC.lt
              clear HA7 HC7 HT7 y0 y1 y2 hC hT hSc HBB HFN HC6 hS64
              go_wp2
              go_loopw [15] (fun i W => ∃ k : Nat, i = .int .i64 k ∧ 1 ≤ k ∧ (k : Int) ≤ n ∧ CoordIn W B cb ⟨⟨2, 0, 3⟩, qs, ps, os, 0, 0, some l2, sh, false, [], false, (k : Int) - 1, n⟩ vo vp (.map (some ob)) (.map (some nb)) vs vr ∧ Turn (fun b => b = cb) wc W) (fun i _ => n.toNat - (Go.RowKit.intOf i).toNat)
              case atStart => exact ⟨1, rfl, Nat.le_refl _, hn1, HCc.out, Turn.refl _ _⟩
              case round =>
                obtain ⟨k, rfl, hk1, hkn, hCr, hTr⟩ := hrel
                have HCr := Lib.hid hCr
                have HTr := Lib.hid hTr
                have hzr := hTr.size
                clear hCr hTr
                by_cases hlt : (k : Int) < n
                · go_wp2_with (first
                    | (go_at_call 25; refine (cTick_quiet (c := ⟨⟨2, 0, 3⟩, qs, ps, os, 0, 0, some l2, sh, false, [], false, (k : Int) - 1, n⟩) HCr.out rfl rfl hl2 (by constructor <;> (show _ ≤ _; simp only; omega)) (by show (k : Int) - 1 + 1 < n; omega)).mono ?_; rintro e w10 ⟨rfl, hC10, hT10⟩; have HC10 := Lib.hid hC10; have HT10 := Lib.hid hT10; clear hC10 hT10)
                    | (go_at_call 24; refine (cWants_ (HC10.out.cells.cell 7)).mono ?_; rintro e w9 ⟨rfl, rfl⟩))
                  go_roundw
                  case rel =>
                    refine ⟨k + 1, by go_num, by omega, by omega, ?_, HTr.out.trans HT10.out⟩
                    have h1 : ((k + 1 : Nat) : Int) - 1 = (k : Int) - 1 + 1 := by omega
                    rw [h1]
                    exact HC10.out
                  case measure => simp [Go.RowKit.intOf]; omega
                · obtain rfl : n = (k : Int) := by omega
                  go_upto_region 24 with (go_at_call 25; refine (cTick_fail (c := ⟨⟨2, 0, 3⟩, qs, ps, os, 0, 0, some l2, sh, false, [], false, (k : Int) - 1, (k : Int)⟩) HCr.out rfl rfl hl2 (by constructor <;> (show _ ≤ _; simp only; omega)) (by show (k : Int) ≤ (k : Int) - 1 + 1; omega) (by omega)).mono ?_; rintro e w10 ⟨rfl, vr10, hC10, hT10⟩; have HC10 := Lib.hid hC10; have HT10 := Lib.hid hT10; clear hC10 hT10)
                  have hz10 := HT10.out.size
                  go_upto_region 25 with (first
                    | (go_at_call 23; refine (cRecord_decide HC10.out rfl).mono ?_; rintro e w11 ⟨b5, m5, b6, m6, rfl, hR11, hS11⟩; simp only at hR11; rw [reply_down] at hR11; simp only [reply_down]; have HR11 := Lib.hid hR11; have HS11 := Lib.hid hS11; clear hR11 hS11)
                    | (refine wpList_store_row rfl 63 (.tmp 16) (.tmp 122) rfl w11.heap.size (recCells 6 ⟨2, 0, 3⟩ false (.slice b5 sh.length m5) (.slice b6 (smallB [[15], [0]]).length m6)) rfl rfl 63 (recCells 0 ⟨0, 0, 0⟩ false (.slice none 0 0) (.slice none 0 0)) (CellsAt.new rfl) (by kernel_rfl) rfl recCells_one ?_))
                  refine wp_code (fun W => CellsAt W w11.heap.size (recCells 6 ⟨2, 0, 3⟩ false (.slice b5 sh.length m5) (.slice b6 (smallB [[15], [0]]).length m6)) 63 ∧ Ty.bytes.rep W (fun b => b = w11.heap.size) [.slice b6 (smallB [[15], [0]]).length m6] (smallB [[15], [0]]) ∧ Step w10 W) ?_ ?_
                  · refine ⟨CellsAt.row (CellsAt.new rfl) _, ?_, Step.setRow (HS11.out.alloc _) HS11.out.size _⟩
                    exact Ty.kept (M := fun b => b = w11.heap.size) _ (Ty.step _ (Ty.keep _ HR11.out (fun b hb _ => ⟨rfl, by omega⟩)) ((Step.refl w11).alloc _)) (fun b _ hb => setRow_other _ _ _ _ hb)
                  rintro wl ⟨hCl, hRl, hSl⟩
                  have q6 : wl.cell? ⟨w11.heap.size, 6, none⟩ = some (.bool false) := hCl.cell 6
                  have q7 : wl.cell? ⟨w11.heap.size, 7, none⟩ = some (.slice b5 sh.length m5) := hCl.cell 7
                  have q8 : wl.cell? ⟨w11.heap.size, 8, none⟩ = some (.slice b6 (smallB [[15], [0]]).length m6) := hCl.cell 8
                  have hyl := hCl.lt
                  have hzl := hSl.size
                  have HRl := Lib.hid hRl
                  have HSl := Lib.hid hSl
                  clear hCl hRl hSl HR11 HS11
                  go_upto_region 26 with (go_at_call 26; refine (ToReply_small (e := 15) (t := 0) (by decide) (by decide) HRl.out).mono ?_; rintro e w12 ⟨rfl, hS12⟩; have s12 : ∀ j, w12.cell? ⟨w11.heap.size, j, none⟩ = wl.cell? ⟨w11.heap.size, j, none⟩ := fun j => hS12.cell hyl j; have z12 : w11.heap.size < w12.heap.size := Nat.lt_of_lt_of_le hyl hS12.size)
                  refine wp_code (fun W => W.cell? ⟨w11.heap.size, 6, none⟩ = some (.bool false) ∧ W.cell? ⟨w11.heap.size, 7, none⟩ = some (.slice b5 sh.length m5) ∧ W.cell? ⟨w12.heap.size, 0, none⟩ = some (.int .i64 15) ∧ Step w10 W) ?_ ?_
                  · have hSa : Step wl (w12.alloc (.cells #[.int .i64 15, .int .i64 0, .slice none 0 0, .slice none 0 0] 49)) := hS12.alloc _
                    exact ⟨(hSa.cell hyl 6).trans q6, (hSa.cell hyl 7).trans q7, cell_of_row _ _ 0 _ _ (0, 0) (heap_alloc_at rfl), HSl.out.trans hSa⟩
                  clear q6 q7 q8 s12 hS12
                  rintro wm ⟨q6, q7, q0, hSm⟩
                  have hSn := hSm.size
                  have HCm := Lib.hid (HC10.out.keep (fun b h1 _ => hSm.heap h1))
                  have HSm := Lib.hid hSm
                  have HTm := Lib.hid (((HTr.out.trans HT10.out)).then hSm)
                  have hLps : (sh.length : Int) = (L.length : Int) := by rw [HLn.out]
                  have hwlm : w11.heap.size < wm.heap.size := lt_of_cell q6
                  have hwlm2 : w12.heap.size < wm.heap.size := lt_of_cell q0
                  clear hSm HC10 HRl HSl HCc HCr
                  go_upto_region 28 with (first
                    | (go_at_call 24; refine (cWants_ (HCm.out.cells.cell 7)).mono ?_; rintro e w13 ⟨rfl, rfl⟩)
                    | (go_at_call 11; refine (Retry_ ⟨_, _, _, _, _, _, HCm.out⟩).mono ?_; rintro e w14 ⟨v14, rfl, hA14, hS14⟩; obtain ⟨ga, gn, gc, rfl, HGN⟩ := hA14.valN; obtain rfl : gn = 0 := HGN.out; have HS14 := Lib.hid hS14; clear hA14 hS14))
                  obtain ⟨A, hA⟩ : ∃ A, asksOf ⟨2, 0, 3⟩ sh (finAsk false) = A := ⟨_, rfl⟩
                  have hAn : A.length = L.length := by rw [HLn.out, ← hA]; exact asksOf_len
                  have HAI : Hid (A.Pairwise (fun p q => p.1 < q.1)) := Lib.hid (by rw [← hA]; exact asks_inc HINC.out)
                  have HAK : Hid (∀ p ∈ A, p.2.kind = 5) := Lib.hid (by rw [← hA]; exact asks_kind (fun _ => rfl))
                  have HAE : Hid (∀ p ∈ A, p.2 = ⟨5, 0, 0, 0, ⟨2, 0, 3⟩, [], false, [], 0, []⟩) := Lib.hid (by
                    intro p hp
                    rw [← hA] at hp
                    obtain ⟨j, hj, rfl⟩ := List.getElem_of_mem hp
                    rw [asksOf_at (by rw [← asksOf_len (x := ⟨2, 0, 3⟩) (f := finAsk false)]; exact hj)]
                    rfl)
                  have hshne : sh ≠ [] := fun h => by rw [h] at hLps; simp at hLps; omega
                  have HSHN := Lib.hid hshne
                  have HAN := Lib.hid hAn
                  clear hshne hAn
                  have hz14 := HS14.out.size
                  have HC14 := Lib.hid (HCm.out.keep (fun b h1 _ => HS14.out.heap h1))
                  go_upto_region 29 with (go_at_call 27; refine (cLogged_decide HC14.out (by omega) rfl HINC.out HSHN.out).mono ?_; rintro e w15 ⟨v15, rfl, hA15, ⟨nb2, hC15⟩, hT15⟩; simp only at hA15 hC15; rw [hA] at hA15 hC15; obtain ⟨ma, mn, mc, rfl, HMN⟩ := hA15.valN; obtain rfl : mn = L.length := HMN.out.trans (sends_len.trans HAN.out); have HA15 := Lib.hid hA15; have HC15 := Lib.hid hC15; have HT15 := Lib.hid hT15; clear hA15 hC15 hT15)
                  go_upto_region 31 with (go_at_call 28; refine (cOver_ (HC15.out.cells.cell 6)).mono ?_; rintro e w16 ⟨rfl, rfl⟩)
                  have hcbm := HCm.out.lt
                  have hz16 := HT15.out.size
                  have hcb16 := HC15.out.lt
                  have HNB := HC15.out.out
                  obtain ⟨nb', hnb', hmap, _⟩ := HNB
                  obtain rfl : nb2 = nb' := by simpa using hnb'
                  obtain ⟨lm, ⟨⟨es, clock, hes, _⟩, _⟩, _⟩ := hmap
                  have hnbB := HC15.out.omu nb2 rfl
                  have HF : Hid ((Ty.slice tSend).rep w16 (fun b => b = cb ∨ b = nb2) [.slice ma L.length mc] (sendsOf (some A))) := Lib.hid (sends_flat (k := w14.heap.size) (HA15.out.rep (fun _ h => h)) (fun s hs => by
                      obtain ⟨p, hp, rfl⟩ := List.mem_map.1 hs
                      have := HAE.out p hp
                      show p.2.ops = [] ∧ p.2.reply = []
                      rw [this]
                      exact ⟨rfl, rfl⟩) (fun b o u hu hb h => by
                      rcases h with h | h
                      · omega
                      · subst h
                        unfold World.cell? at hu
                        rw [show w16.heap[(⟨b, o, none⟩ : Addr).block]? = some (.map es clock) from hes] at hu
                        simp at hu))
                  have hzc := HTm.out.size
                  have X0 := (HT15.out.cell (by omega) (by omega) 0).trans ((HS14.out.cell (by omega) 0).trans ((HTm.out.cell (by omega) (by omega) 0).trans x0))
                  have X1 := (HT15.out.cell (by omega) (by omega) 1).trans ((HS14.out.cell (by omega) 1).trans ((HTm.out.cell (by omega) (by omega) 1).trans x1))
                  have X2 := (HT15.out.cell (by omega) (by omega) 2).trans ((HS14.out.cell (by omega) 2).trans ((HTm.out.cell (by omega) (by omega) 2).trans x2))
                  have hS16 : Step w w16 := Turn.step HSc.out ((HTm.out.then HS14.out).trans HT15.out) (fun b hb => by omega)
                  have HS16 := Lib.hid hS16
                  clear hS16 hnb' hes HA15 HMN HCm HC14 HTm HS14 HSm HT15 x0 x1 x2 q0 q6 q7 HTr HT10
                  go_wp2
                  go_loopw [21, 172] (fun _ i W => ∃ (j : Nat) (kw : Int), i = .int .i64 j ∧ j ≤ L.length ∧ (j < L.length → kw = 0) ∧ (j = L.length → kw = 3) ∧ CoordIn W B cb ⟨⟨2, 0, 3⟩, qs, ps, os, 3, kw, some (A.drop j), sh, false, replyB 15 0 [], true, (k : Int) - 1 + 1, (k : Int)⟩ vo vp (.map (some ob)) (.map (some nb2)) vs vr10 ∧ Turn (fun b => b = cb ∨ b = nb2) w16 W) (fun _ i _ => L.length - (Go.RowKit.intOf i).toNat)
                  case atStart => exact ⟨0, 0, rfl, by omega, fun _ => rfl, fun h => by omega, HC15.out, Turn.refl _ _⟩
                  case round =>
                    obtain ⟨j, kw, rfl, hj, hkw0, hkw3, hCr, hTr⟩ := hrel
                    have HCr := Lib.hid hCr
                    have HTr := Lib.hid hTr
                    have hzr := hTr.size
                    have Y0 := (hTr.cell (by omega) (by omega) 0).trans X0
                    have Y1 := (hTr.cell (by omega) (by omega) 1).trans X1
                    have Y2 := (hTr.cell (by omega) (by omega) 2).trans X2
                    have hx4 : w4.heap.size < wr.heap.size := by omega
                    have hcbr : cb < wr.heap.size := by omega
                    have HFr := Lib.hid (Ty.kept _ HF.out hTr.kept)
                    clear hCr hTr
                    by_cases hlt : j < L.length
                    · obtain rfl : kw = 0 := hkw0 hlt
                      clear hkw0 hkw3
                      have hjA : j < A.length := by rw [HAN.out]; exact hlt
                      have hsk : (sendsOf (some A))[j]'(by rw [sends_len]; exact hjA) = ⟨A[j].1, ⟨5, 0, 0, 0, ⟨2, 0, 3⟩, [], false, [], 0, []⟩⟩ := by rw [sends_at hjA, HAE.out _ (List.getElem_mem hjA)]
                      obtain ⟨mb, mo', mes, hma, hmb, _, hrep, hmq⟩ := Ty.slice_at HFr.out (k := j) (by rw [sends_len]; exact hjA)
                      rw [hsk] at hrep
                      subst hma
                      have hdr : Hid ((A.drop j).filter (fun p => p.1 != A[j].1) = A.drop (j + 1)) := Lib.hid (inc_drop HAI.out hjA)
                      have HIN : Hid (∃ p ∈ A.drop j, p.1 = A[j].1) := Lib.hid ⟨A[j], by rw [List.drop_eq_getElem_cons hjA]; exact List.mem_cons_self, rfl⟩
                      have hdr' := hdr.out
                      have hin' := HIN.out
                      obtain ⟨s, hs⟩ : ∃ s, A[j].1 = s := ⟨_, rfl⟩
                      rw [hs] at hrep hdr' hin'
                      have HDR := Lib.hid hdr'
                      have HIN2 := Lib.hid hin'
                      have HAKd : Hid (∀ p ∈ A.drop j, p.2.kind = 5) := Lib.hid (fun p hp => HAK.out p (List.mem_of_mem_drop hp))
                      obtain ⟨f8, f10, rfl, hs0, _, _, _, _, _, _, _, hf8, hf10, _⟩ := hrep
                      obtain ⟨fa8, fc8, rfl, _⟩ := Ty.slice_val hf8
                      obtain ⟨fa10, fc10, rfl, _⟩ := Ty.slice_val hf10
                      have HS0 := Lib.hid hs0
                      have u0 := hmq 0 _ rfl
                      have u1 := hmq 1 _ rfl
                      have u2 := hmq 2 _ rfl
                      have u3 := hmq 3 _ rfl
                      have u4 := hmq 4 _ rfl
                      have u5 := hmq 5 _ rfl
                      have u6' := hmq 6 _ rfl
                      have u7 := hmq 7 _ rfl
                      have u8 := hmq 8 _ rfl
                      have u9 := hmq 9 _ rfl
                      have u10 := hmq 10 _ rfl
                      have u11 := hmq 11 _ rfl
                      have u12 := hmq 12 _ rfl
                      simp only [show tSend.n = 13 from rfl, Nat.add_zero] at u0 u1 u2 u3 u4 u5 u6' u7 u8 u9 u10 u11 u12
                      clear hmq hsk hdr hdr' HIN hin' hs hf8 hf10 hs0
                      go_upto_region 36 with (go_at_call 24; refine (cWants_ ((HCr.out.keep (fun b h1 _ => Step.heap ((Step.refl wr).alloc _) h1)).cells.cell 7)).mono ?_; rintro e w17 ⟨rfl, hw17⟩; subst hw17)
                      obtain ⟨kw2, hkw2⟩ : ∃ kw2 : Int, kw2 = if (A.drop j).filter (fun p => p.1 != s) = [] then 3 else 0 := ⟨_, rfl⟩
                      have HKW2 := Lib.hid hkw2
                      clear hkw2
                      go_wp2_with (go_at_call 16; refine (cAnswer_fin (c := ⟨⟨2, 0, 3⟩, qs, ps, os, 3, 0, some (A.drop j), sh, false, replyB 15 0 [], true, (k : Int) - 1 + 1, (k : Int)⟩) (l := A.drop j) (x := ⟨5, 0, 0, ⟨2, 0, 3⟩, 0, 0, ⟨0, 0, [], []⟩, false, [], 0⟩) HKW2.out (HCr.out.keep (fun b h1 _ => Step.heap ((Step.refl wr).alloc _) h1)) HS0.out HAKd.out HIN2.out rfl rfl rfl).mono ?_; rintro e w18 ⟨rfl, hC18, hT18⟩; have HC18 := Lib.hid hC18; have HT18 := Lib.hid hT18; clear hC18 hT18)
                      go_roundw
                      case rel =>
                        refine ⟨j + 1, kw2, by go_num, by omega, fun h => ?_, fun h => ?_, ?_, (HTr.out.then ((Step.refl wr).alloc _)).trans HT18.out⟩
                        · rw [HKW2.out, HDR.out, if_neg]
                          intro h1
                          have := congrArg List.length h1
                          simp [HAN.out] at this
                          omega
                        · rw [HKW2.out, HDR.out, if_pos]
                          exact List.drop_eq_nil_of_le (by rw [HAN.out]; omega)
                        · have h1 := HC18.out
                          rw [HDR.out] at h1
                          exact h1
                      case measure => simp [Go.RowKit.intOf]; omega
                    · obtain rfl : j = L.length := by omega
                      obtain rfl : kw = 3 := hkw3 rfl
                      clear hkw0 hkw3
                      have hfd : ∀ w, (Instr.field 63 (.agg (recCells 9 ⟨2, 0, 3⟩ false (.slice none 0 0) (.slice none 0 0))) 0).run Tryz.prog w = .ok (.int .i64 9) w := fun _ => by kernel_rfl
                      go_upto_region 40 with (first
                        | (go_at_call 24; refine (cWants_ (HCr.out.cells.cell 7)).mono ?_; rintro e w17 ⟨rfl, rfl⟩)
                        | (go_at_call 23; refine (cRecord_end HCr.out rfl).mono ?_; rintro e w18 ⟨rfl, hS18⟩; have HS18 := Lib.hid hS18; clear hS18))
                      have HC18 := Lib.hid (HCr.out.keep (fun b h1 _ => HS18.out.heap h1))
                      go_wp2_with (first
                        | (go_at_call 27; refine (cLogged_end HC18.out rfl).mono ?_; rintro e w19 ⟨rfl, hC19, hT19⟩; have HC19 := Lib.hid hC19; have HT19 := Lib.hid hT19; clear hC19 hT19)
                        | (go_at_call 28; refine (cOver_ (HC19.out.cells.cell 6)).mono ?_; rintro e w20 ⟨rfl, rfl⟩)
                        | (go_at_call 24; refine (cWants_ (HC19.out.cells.cell 7)).mono ?_; rintro e w21 ⟨rfl, rfl⟩))
                      go_ret
                      refine ⟨rfl, Turn.step HS16.out ((HTr.out.then HS18.out).trans (HT19.out.mono (fun b _ h => Or.inl h))) (fun b hb => by omega)⟩
    · go_wp2_with (first
        | (go_at_call 20; refine (refSplits_ (Ty.step _ H1.out (by (repeat (first | exact Step.refl _ | refine Step.alloc ?_ _ | refine Step.drew ?_ | refine Step.drewN ?_ _ | refine Step.setCell ?_ (by first | exact Nat.le_refl _ | assumption | omega | (simp; done) | (simp; omega)) _ | assumption | refine Step.trans ?_ (by assumption : Step _ _)))))).mono ?_; rintro e w3 ⟨rfl, k3, rfl⟩; rw [hbs])
        | (go_at_call 21; refine (refCheck_ (Ty.step _ HR3.out ((Step.refl w1).drewN _))).mono ?_; rintro e w4 ⟨rfl, hS4⟩))
      go_ret
      exact ⟨rfl, by (repeat (first | exact Step.refl _ | refine Step.alloc ?_ _ | refine Step.drew ?_ | refine Step.drewN ?_ _ | refine Step.setCell ?_ (by first | exact Nat.le_refl _ | assumption | omega | (simp; done) | (simp; omega)) _ | assumption | refine Step.trans ?_ (by assumption : Step _ _)))⟩
  · go_wp2_with (go_at_call 20; refine (refSplits_ (Ty.step _ H1.out (by (repeat (first | exact Step.refl _ | refine Step.alloc ?_ _ | refine Step.drew ?_ | refine Step.drewN ?_ _ | refine Step.setCell ?_ (by first | exact Nat.le_refl _ | assumption | omega | (simp; done) | (simp; omega)) _ | assumption | refine Step.trans ?_ (by assumption : Step _ _)))))).mono ?_; rintro e w3 ⟨rfl, k3, rfl⟩)
    go_ret
    exact ⟨rfl, by (repeat (first | exact Step.refl _ | refine Step.alloc ?_ _ | refine Step.drew ?_ | refine Step.drewN ?_ _ | refine Step.setCell ?_ (by first | exact Nat.le_refl _ | assumption | omega | (simp; done) | (simp; omega)) _ | assumption | refine Step.trans ?_ (by assumption : Step _ _)))⟩
end Go.Proofs.YthflkfgiclcdiaaGreat
