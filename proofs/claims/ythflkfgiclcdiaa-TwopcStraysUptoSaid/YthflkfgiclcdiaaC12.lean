/-
  Walk: TwopcStrays.
-/
import Derived.Test.YthflkfgiclcdiaaC11
namespace Go.Proofs.Ythflkfgiclcdiaa
open Go.Gr Go.RowKit
set_option linter.unusedSimpArgs false
theorem sends_kind {c : DCoord} {x : DTxn} (h : StrayOk c x) : ∀ s ∈ sendsOf c.out, s.ask.kind = 2 := by
  intro s hs
  obtain ⟨p, hp, rfl⟩ := List.mem_map.1 hs
  exact (h.outs p hp).2.2
theorem open_k {P : Program} {c : Code} {Q : Exit → Act → World → Prop} {K : Act → World → Prop} {a : Act} {w : World} (h : ∀ a w, Code.wp P c Q a w → K a w) (h2 : Code.wp P c Q a w) : K a w := h a w h2
set_option maxRecDepth 100000 in
set_option maxHeartbeats 8000000 in
theorem strays_ {w : World} {M : Nat → Prop} {v1 v2 v3 : Value} {sp : List (List UInt8)} {ops : List DOp} {xs : List DAnswer} (h1 : (Ty.slice Ty.bytes).rep w M [v1] sp) (h2 : (Ty.slice tOp).rep w M [v2] ops) (h3 : (Ty.slice tAnswer).rep w M [v3] xs) :
    Calls Try.prog 3 #[v1, v2, v3] w fun e w' => e = .returned (.bool true) ∧ Step w w' := by
  obtain ⟨a1, c1, rfl, _⟩ := Ty.slice_val h1
  obtain ⟨a2, c2, rfl, _⟩ := Ty.slice_val h2
  obtain ⟨a3, c3, rfl, _, _, hl3⟩ := Ty.slice_val h3
  rw [lim_eq] at hl3
  have H1 := Lib.hid h1
  have H2 := Lib.hid h2
  have H3 := Lib.hid h3
  clear h1 h2 h3
  obtain ⟨qs, hqs⟩ : ∃ qs, qs = ops.take 18 := ⟨_, rfl⟩
  have HQS := Lib.hid hqs
  have hql : Hid (qs.length ≤ 18) := Lib.hid (by rw [hqs, List.length_take]; omega)
  clear hqs
  by_cases hbs : splitsB sp = 0
  · by_cases hbc : checkRef qs = 0
    · go_enter Try.func3, Try.ntmps3
      go_upto_region 7 with (first
        | (go_at_call 9; refine (awake_ _).mono ?_; rintro e w1 ⟨rfl, hS1⟩)
        | (go_at_call 10; refine (Few_ (n := 18) (Ty.step _ H2.out (by (repeat (first | exact Step.refl _ | refine Step.alloc ?_ _ | refine Step.drew ?_ | refine Step.drewN ?_ _ | refine Step.setCell ?_ (by first | exact Nat.le_refl _ | assumption | omega | (simp; done) | (simp; omega)) _ | assumption | refine Step.trans ?_ (by assumption : Step _ _))))) (by omega)).mono ?_; rintro e w2 ⟨v2, rfl, hR2, rfl⟩; rw [← HQS.out] at hR2; obtain ⟨d2, e2, rfl, _⟩ := Ty.slice_val hR2; have HR2 := Lib.hid hR2; clear hR2)
        | (go_at_call 11; refine (refSplits_ (Ty.step _ H1.out (by (repeat (first | exact Step.refl _ | refine Step.alloc ?_ _ | refine Step.drew ?_ | refine Step.drewN ?_ _ | refine Step.setCell ?_ (by first | exact Nat.le_refl _ | assumption | omega | (simp; done) | (simp; omega)) _ | assumption | refine Step.trans ?_ (by assumption : Step _ _)))))).mono ?_; rintro e w3 ⟨rfl, k3, rfl⟩)
        | (go_at_call 12; refine (refCheck_ (Ty.step _ HR2.out (by (repeat (first | exact Step.refl _ | refine Step.alloc ?_ _ | refine Step.drew ?_ | refine Step.drewN ?_ _ | refine Step.setCell ?_ (by first | exact Nat.le_refl _ | assumption | omega | (simp; done) | (simp; omega)) _ | assumption | refine Step.trans ?_ (by assumption : Step _ _)))))).mono ?_; rintro e w4 ⟨rfl, hS4⟩))
      have hxc : w4.heap.size = w4.heap.size := rfl
      have H1' := Lib.hid (Ty.step (w' := w4) _ H1.out (by (repeat (first | exact Step.refl _ | refine Step.alloc ?_ _ | refine Step.drew ?_ | refine Step.drewN ?_ _ | refine Step.setCell ?_ (by first | exact Nat.le_refl _ | assumption | omega | (simp; done) | (simp; omega)) _ | assumption | refine Step.trans ?_ (by assumption : Step _ _)))))
      have H3' := Lib.hid (Ty.step (w' := w4) _ H3.out (by (repeat (first | exact Step.refl _ | refine Step.alloc ?_ _ | refine Step.drew ?_ | refine Step.drewN ?_ _ | refine Step.setCell ?_ (by first | exact Nat.le_refl _ | assumption | omega | (simp; done) | (simp; omega)) _ | assumption | refine Step.trans ?_ (by assumption : Step _ _)))))
      have HR2' := Lib.hid (Ty.step (w' := w4) _ HR2.out (by (repeat (first | exact Step.refl _ | refine Step.alloc ?_ _ | refine Step.drew ?_ | refine Step.drewN ?_ _ | refine Step.setCell ?_ (by first | exact Nat.le_refl _ | assumption | omega | (simp; done) | (simp; omega)) _ | assumption | refine Step.trans ?_ (by assumption : Step _ _)))))
      have hS04 : Step w w4 := by (repeat (first | exact Step.refl _ | refine Step.alloc ?_ _ | refine Step.drew ?_ | refine Step.drewN ?_ _ | refine Step.setCell ?_ (by first | exact Nat.le_refl _ | assumption | omega | (simp; done) | (simp; omega)) _ | assumption | refine Step.trans ?_ (by assumption : Step _ _)))
      have HBS := Lib.hid hbs
      have HBC := Lib.hid hbc
      clear hbs hbc H1 H3 HR2 hS4 hxc
      refine wp_region_held_drew (S := (fun w' => w'.cell? ⟨w4.heap.size, 0, none⟩ = some (.int .u64 7) ∧ w'.cell? ⟨w4.heap.size, 1, none⟩ = some (.int .u64 8) ∧ w'.cell? ⟨w4.heap.size, 2, none⟩ = some (.int .u64 9))) (by kernel_rfl) ?_ (fun hHeld => ?_)
      · (go_keep)
      refine wpAnyH_take (i := 0) (v := ?_) rfl (by kernel_rfl) (by kernel_rfl) (by kernel_rfl) (fun _ _ _ h => h) (Or.inl ⟨by rfl, ?_⟩) (by assumption) ?_
      rotate_left 1
      · (intro w hSw; (try dsimp only at hSw); go_simp; (try with_reducible rfl))
      try simp only [Act.put, List.getElem_toArray, List.getElem_cons_succ, List.getElem_cons_zero, List.setIfInBounds_toArray, List.set_cons_zero, List.set_cons_succ]
      refine wpAnyH_take (i := 1) (v := ?_) rfl (by kernel_rfl) (by kernel_rfl) (by kernel_rfl) (fun _ _ _ h => h) (Or.inl ⟨by rfl, ?_⟩) (by assumption) ?_
      rotate_left 1
      · (intro w hSw; (try dsimp only at hSw); go_simp; (try with_reducible rfl))
      try simp only [Act.put, List.getElem_toArray, List.getElem_cons_succ, List.getElem_cons_zero, List.setIfInBounds_toArray, List.set_cons_zero, List.set_cons_succ]
      refine wpAnyH_take (i := 2) (v := ?_) rfl (by kernel_rfl) (by kernel_rfl) (by kernel_rfl) (fun _ _ _ h => h) (Or.inl ⟨by rfl, ?_⟩) (by assumption) ?_
      rotate_left 1
      · (intro w hSw; (try dsimp only at hSw); go_simp; (try with_reducible rfl))
      try simp only [Act.put, List.getElem_toArray, List.getElem_cons_succ, List.getElem_cons_zero, List.setIfInBounds_toArray, List.set_cons_zero, List.set_cons_succ]
      refine wpAnyH_ready (rs := [3]) (by kernel_rfl) (by simp) ?_
      refine AllReadyH.cons rfl (fun K hK => ?_) AllReadyH.nil
      try simp only [List.getElem_toArray, List.getElem_cons_succ, List.getElem_cons_zero]
      go_simp
      (go_at_call 14; refine (OwnOps_ _ _ _ _ (by refine Ty.step _ (Hid.out (by assumption)) ?_; (repeat (first | exact Step.refl _ | refine Step.alloc ?_ _ | refine Step.drew ?_ | refine Step.drewN ?_ _ | refine Step.setCell ?_ (by first | exact Nat.le_refl _ | assumption | omega | (simp; done) | (simp; omega)) _ | assumption | refine Step.trans ?_ (by assumption : Step _ _))))).mono ?_; rintro e5 w5 ⟨v5, rfl, hA5, hS5⟩; obtain ⟨b5, m5, rfl⟩ := hA5.val; have s5_0 : ∀ j, w5.cell? ⟨w4.heap.size, j, none⟩ = _ := fun j => hS5.cell (by first | assumption | omega | (simp; done) | (simp; omega)) j; have z5_0 : w4.heap.size < w5.heap.size := Nat.lt_of_lt_of_le (by first | assumption | omega | (simp; done) | (simp; omega)) hS5.size; have HA5 := Lib.hid hA5; clear hA5)
      refine hK.out _ _ ?_ (fun hHeld => ?_)
      · (go_keep)
      clear hK K
      try simp only [Act.put, List.getElem_toArray, List.getElem_cons_succ, List.getElem_cons_zero, List.setIfInBounds_toArray, List.set_cons_zero, List.set_cons_succ]
      refine wpAnyH_ready (rs := [4]) (by kernel_rfl) (by simp) ?_
      refine AllReadyH.cons rfl (fun K hK => ?_) AllReadyH.nil
      try simp only [List.getElem_toArray, List.getElem_cons_succ, List.getElem_cons_zero]
      go_simp
      (go_at_call 13; refine (New_ _ (fun _ => False) ⟨7, 8, 9⟩ _ _ sp qs 50 ⟨by decide, by decide, by decide⟩ (Ty.less _ (Ty.step _ H1'.out (by (repeat (first | exact Step.refl _ | refine Step.alloc ?_ _ | refine Step.drew ?_ | refine Step.drewN ?_ _ | refine Step.setCell ?_ (by first | exact Nat.le_refl _ | assumption | omega | (simp; done) | (simp; omega)) _ | assumption | refine Step.trans ?_ (by assumption : Step _ _))))) (fun _ _ h => h.elim)) (Own.rep' (OwnG.own (OwnG.of HA5.out) (fun _ _ _ h => h.elim)) (fun _ _ h => h)) (by have := splits_len HBS.out; omega) (by have := hql.out; omega) (by simp [I64])).mono ?_; rintro e w6 ⟨cb, rfl, hC6, hS6⟩; have s6 : ∀ j, w6.cell? ⟨w4.heap.size, j, none⟩ = _ := fun j => hS6.cell (by first | assumption | omega | (simp; done) | (simp; omega)) j; have HC6 := Lib.hid hC6; clear hC6)
      refine hK.out _ _ ?_ (fun hHeld => ?_)
      · (go_keep)
      clear hK K
      try simp only [Act.put, List.getElem_toArray, List.getElem_cons_succ, List.getElem_cons_zero, List.setIfInBounds_toArray, List.set_cons_zero, List.set_cons_succ]
      refine wpAnyH_take (i := 5) (v := ?_) rfl (by kernel_rfl) (by kernel_rfl) (by kernel_rfl) (fun _ _ _ h => h) (Or.inl ⟨by rfl, ?_⟩) (by assumption) ?_
      rotate_left 1
      · (intro w hSw; (try dsimp only at hSw); go_simp; (try with_reducible rfl))
      try simp only [Act.put, List.getElem_toArray, List.getElem_cons_succ, List.getElem_cons_zero, List.setIfInBounds_toArray, List.set_cons_zero, List.set_cons_succ]
      refine wpAnyH_done (by kernel_rfl) ?_ _
      have hx0 := hHeld.1
      have hx1 := hHeld.2.1
      have hx2 := hHeld.2.2
      obtain ⟨vo, vp, mo, mu, vs, vr, hC⟩ := HC6.out
      have hS46 : Step w4 w6 := Step.trans (by (repeat (first | exact Step.refl _ | refine Step.alloc ?_ _ | refine Step.drew ?_ | refine Step.drewN ?_ _ | refine Step.setCell ?_ (by first | exact Nat.le_refl _ | assumption | omega | (simp; done) | (simp; omega)) _ | assumption | refine Step.trans ?_ (by assumption : Step _ _)))) hS6
      have hS6' : Step w w6 := hS04.trans hS46
      have hB6 := hS6.size
      have hcb : w4.heap.size < cb := Nat.lt_of_lt_of_le (by have := hS5.size; simp at this ⊢; omega) hC.base
      have hw4 := hS04.size
      go_upto_region 8 with fail
      go_wp2_with (go_at_call 15; refine (Begin_any hC hB6 rfl partsB_inc (fun s hs => by have h1 := partsB_small s hs; have h2 := splits_len HBS.out; omega) rfl (by rw [check_same]; exact HBC.out) (by have := hql.out; show qs.length ≤ _; omega) rfl rfl).mono ?_; rintro e w7 ⟨v7, mu7, vr7, cc, rfl, hA7, hC7, hT7, hO7⟩; obtain ⟨fa, fn, fc, rfl, HFN⟩ := hA7.valN; have HA7 := Lib.hid hA7; have HC7 := Lib.hid hC7; have HT7 := Lib.hid hT7; have HO7 := Lib.hid hO7; clear hA7 hC7 hT7 hO7)
      have hz7 := HT7.out.size
      have hcb7 := HC7.out.lt
      have hw6 : w4.heap.size < w6.heap.size := lt_of_cell hx0
      have y0 : w7.cell? ⟨w4.heap.size, 0, none⟩ = some (.int .u64 7) := (HT7.out.cell hw6 (by omega) 0).trans hx0
      have y1 : w7.cell? ⟨w4.heap.size, 1, none⟩ = some (.int .u64 8) := (HT7.out.cell hw6 (by omega) 1).trans hx1
      have y2 : w7.cell? ⟨w4.heap.size, 2, none⟩ = some (.int .u64 9) := (HT7.out.cell hw6 (by omega) 2).trans hx2
      have hS7 : Step w w7 := Turn.step hS6' HT7.out (fun b hb => by omega)
      have HS7 := Lib.hid hS7
      have hS47 : Step w4 w7 := Turn.step hS46 HT7.out (fun b hb => by omega)
      have H3 := Lib.hid (Ty.step _ H3'.out hS47)
      clear hx0 hx1 hx2 hHeld hS6 hS5 H3' hS47 hS46 hS04 HR2' H1' hS1
      go_loopw [10, 11, 12, 13, 14] (fun i _ _ _ _ w' => ∃ k : Nat, i = .int .i64 k ∧ k ≤ xs.length ∧ k ≤ 30 ∧ Step w7 w') (fun i _ _ _ _ _ => xs.length - (Go.RowKit.intOf i).toNat)
      case atStart => exact ⟨0, rfl, by omega, by omega, Step.refl _⟩
      case round =>
        obtain ⟨k, rfl, hk, hk30, hB⟩ := hrel
        have hszr := hB.size
        have q0 := (hB.cell (by omega) 0).trans y0
        have q1 := (hB.cell (by omega) 1).trans y1
        have q2 := (hB.cell (by omega) 2).trans y2
        by_cases hlt : k < xs.length
        · by_cases hlt30 : k < 30
          · obtain ⟨ob, oo, oes, rfl, ohb, _, ou, ocu⟩ := Ty.slice_at H3.out hlt
            obtain ⟨oc10, oc11, oc13, rfl, oh0, oh1, oh2, oh3, oh4, oh5, oh6, oh7, oh8, oh9, oh10, oh11, oh13, oh14⟩ := ou
            have oq0 := (Step.cell (w' := wr) (by (repeat (first | exact Step.refl _ | refine Step.alloc ?_ _ | refine Step.drew ?_ | refine Step.drewN ?_ _ | refine Step.setCell ?_ (by first | exact Nat.le_refl _ | assumption | omega | (simp; done) | (simp; omega)) _ | assumption | refine Step.trans ?_ (by assumption : Step _ _)))) ohb _).trans (ocu 0 _ rfl)
            have oq1 := (Step.cell (w' := wr) (by (repeat (first | exact Step.refl _ | refine Step.alloc ?_ _ | refine Step.drew ?_ | refine Step.drewN ?_ _ | refine Step.setCell ?_ (by first | exact Nat.le_refl _ | assumption | omega | (simp; done) | (simp; omega)) _ | assumption | refine Step.trans ?_ (by assumption : Step _ _)))) ohb _).trans (ocu 1 _ rfl)
            have oq2 := (Step.cell (w' := wr) (by (repeat (first | exact Step.refl _ | refine Step.alloc ?_ _ | refine Step.drew ?_ | refine Step.drewN ?_ _ | refine Step.setCell ?_ (by first | exact Nat.le_refl _ | assumption | omega | (simp; done) | (simp; omega)) _ | assumption | refine Step.trans ?_ (by assumption : Step _ _)))) ohb _).trans (ocu 2 _ rfl)
            have oq3 := (Step.cell (w' := wr) (by (repeat (first | exact Step.refl _ | refine Step.alloc ?_ _ | refine Step.drew ?_ | refine Step.drewN ?_ _ | refine Step.setCell ?_ (by first | exact Nat.le_refl _ | assumption | omega | (simp; done) | (simp; omega)) _ | assumption | refine Step.trans ?_ (by assumption : Step _ _)))) ohb _).trans (ocu 3 _ rfl)
            have oq4 := (Step.cell (w' := wr) (by (repeat (first | exact Step.refl _ | refine Step.alloc ?_ _ | refine Step.drew ?_ | refine Step.drewN ?_ _ | refine Step.setCell ?_ (by first | exact Nat.le_refl _ | assumption | omega | (simp; done) | (simp; omega)) _ | assumption | refine Step.trans ?_ (by assumption : Step _ _)))) ohb _).trans (ocu 4 _ rfl)
            have oq5 := (Step.cell (w' := wr) (by (repeat (first | exact Step.refl _ | refine Step.alloc ?_ _ | refine Step.drew ?_ | refine Step.drewN ?_ _ | refine Step.setCell ?_ (by first | exact Nat.le_refl _ | assumption | omega | (simp; done) | (simp; omega)) _ | assumption | refine Step.trans ?_ (by assumption : Step _ _)))) ohb _).trans (ocu 5 _ rfl)
            have oq6 := (Step.cell (w' := wr) (by (repeat (first | exact Step.refl _ | refine Step.alloc ?_ _ | refine Step.drew ?_ | refine Step.drewN ?_ _ | refine Step.setCell ?_ (by first | exact Nat.le_refl _ | assumption | omega | (simp; done) | (simp; omega)) _ | assumption | refine Step.trans ?_ (by assumption : Step _ _)))) ohb _).trans (ocu 6 _ rfl)
            have oq7 := (Step.cell (w' := wr) (by (repeat (first | exact Step.refl _ | refine Step.alloc ?_ _ | refine Step.drew ?_ | refine Step.drewN ?_ _ | refine Step.setCell ?_ (by first | exact Nat.le_refl _ | assumption | omega | (simp; done) | (simp; omega)) _ | assumption | refine Step.trans ?_ (by assumption : Step _ _)))) ohb _).trans (ocu 7 _ rfl)
            have oq8 := (Step.cell (w' := wr) (by (repeat (first | exact Step.refl _ | refine Step.alloc ?_ _ | refine Step.drew ?_ | refine Step.drewN ?_ _ | refine Step.setCell ?_ (by first | exact Nat.le_refl _ | assumption | omega | (simp; done) | (simp; omega)) _ | assumption | refine Step.trans ?_ (by assumption : Step _ _)))) ohb _).trans (ocu 8 _ rfl)
            have oq9 := (Step.cell (w' := wr) (by (repeat (first | exact Step.refl _ | refine Step.alloc ?_ _ | refine Step.drew ?_ | refine Step.drewN ?_ _ | refine Step.setCell ?_ (by first | exact Nat.le_refl _ | assumption | omega | (simp; done) | (simp; omega)) _ | assumption | refine Step.trans ?_ (by assumption : Step _ _)))) ohb _).trans (ocu 9 _ rfl)
            have oq10 := (Step.cell (w' := wr) (by (repeat (first | exact Step.refl _ | refine Step.alloc ?_ _ | refine Step.drew ?_ | refine Step.drewN ?_ _ | refine Step.setCell ?_ (by first | exact Nat.le_refl _ | assumption | omega | (simp; done) | (simp; omega)) _ | assumption | refine Step.trans ?_ (by assumption : Step _ _)))) ohb _).trans (ocu 10 _ rfl)
            have oq11 := (Step.cell (w' := wr) (by (repeat (first | exact Step.refl _ | refine Step.alloc ?_ _ | refine Step.drew ?_ | refine Step.drewN ?_ _ | refine Step.setCell ?_ (by first | exact Nat.le_refl _ | assumption | omega | (simp; done) | (simp; omega)) _ | assumption | refine Step.trans ?_ (by assumption : Step _ _)))) ohb _).trans (ocu 11 _ rfl)
            have oq12 := (Step.cell (w' := wr) (by (repeat (first | exact Step.refl _ | refine Step.alloc ?_ _ | refine Step.drew ?_ | refine Step.drewN ?_ _ | refine Step.setCell ?_ (by first | exact Nat.le_refl _ | assumption | omega | (simp; done) | (simp; omega)) _ | assumption | refine Step.trans ?_ (by assumption : Step _ _)))) ohb _).trans (ocu 12 _ rfl)
            have oq13 := (Step.cell (w' := wr) (by (repeat (first | exact Step.refl _ | refine Step.alloc ?_ _ | refine Step.drew ?_ | refine Step.drewN ?_ _ | refine Step.setCell ?_ (by first | exact Nat.le_refl _ | assumption | omega | (simp; done) | (simp; omega)) _ | assumption | refine Step.trans ?_ (by assumption : Step _ _)))) ohb _).trans (ocu 13 _ rfl)
            have oq14 := (Step.cell (w' := wr) (by (repeat (first | exact Step.refl _ | refine Step.alloc ?_ _ | refine Step.drew ?_ | refine Step.drewN ?_ _ | refine Step.setCell ?_ (by first | exact Nat.le_refl _ | assumption | omega | (simp; done) | (simp; omega)) _ | assumption | refine Step.trans ?_ (by assumption : Step _ _)))) ohb _).trans (ocu 14 _ rfl)
            simp only [show tAnswer.n = 15 from rfl, Nat.add_zero] at oq0 oq1 oq2 oq3 oq4 oq5 oq6 oq7 oq8 oq9 oq10 oq11 oq12 oq13 oq14
            obtain ⟨oa10, on10, rfl, _⟩ := Ty.slice_val oh10
            obtain ⟨oa11, on11, rfl, _⟩ := Ty.slice_val oh11
            obtain ⟨oa13, on13, rfl, _⟩ := Ty.slice_val oh13
            have oH0 := Lib.hid oh0
            have oH1 := Lib.hid oh1
            have oH2 := Lib.hid oh2
            have oH3 := Lib.hid oh3
            have oH4 := Lib.hid oh4
            have oH5 := Lib.hid oh5
            have oH6 := Lib.hid oh6
            have oH7 := Lib.hid oh7
            have oH8 := Lib.hid oh8
            have oH9 := Lib.hid oh9
            have oH10 := Lib.hid oh10
            have oH11 := Lib.hid oh11
            have oH13 := Lib.hid oh13
            have oH14 := Lib.hid oh14
            clear ocu oh0 oh1 oh2 oh3 oh4 oh5 oh6 oh7 oh8 oh9 oh10 oh11 oh13 oh14
            generalize xs[k] = x at *
            go_upto_region 13 with (go_at_call 16; refine (conv_ (x := x) (Ty.step _ oH10.out hB) (Ty.step _ oH11.out hB) (Ty.step _ oH13.out hB)).mono ?_; rintro e w8 ⟨b1, n1, k1, b2, n2, k2, b3, n3, k3, rfl, hS8⟩; simp only [ansCells])
            have p0 := (hS8.cell (by omega) 0).trans q0
            have p1 := (hS8.cell (by omega) 1).trans q1
            have p2 := (hS8.cell (by omega) 2).trans q2
            have hz8 := hS8.size
            have hb8 : w4.heap.size < w8.heap.size := by omega
            clear q0 q1 q2
            have hcase : ((x.txn.boot : Int) == 7) = false ∨ (((x.txn.boot : Int) == 7) = true ∧ ((x.txn.session : Int) == 8) = false) ∨ (((x.txn.boot : Int) == 7) = true ∧ ((x.txn.session : Int) == 8) = true ∧ ((x.txn.seq : Int) == 9) = false) ∨
                (((x.txn.boot : Int) == 7) = true ∧ ((x.txn.session : Int) == 8) = true ∧ ((x.txn.seq : Int) == 9) = true ∧ (x.kind == 2) = false) ∨ (((x.txn.boot : Int) == 7) = true ∧ ((x.txn.session : Int) == 8) = true ∧ ((x.txn.seq : Int) == 9) = true ∧ (x.kind == 2) = true) := by
              cases ((x.txn.boot : Int) == 7) <;> cases ((x.txn.session : Int) == 8) <;> cases ((x.txn.seq : Int) == 9) <;> cases (x.kind == 2) <;> simp
            have HCA := Lib.hid hcase
            clear hcase
            go_cut [11, 62] (fun s11 s62 wx => ∃ (ab : Nat) (bb : Bool), s11 = .pointer (some ⟨ab, 0, none⟩) ∧ s62 = .bool bb ∧ CellsAt wx ab (ansCells x x.out.err x.out.at_ (.slice b1 n1 k1) (.slice b2 n2 k2) (.slice b3 n3 k3)) 44 ∧ w8.heap.size ≤ ab ∧ (bb = false → x.txn = ⟨7, 8, 9⟩ → x.kind ≠ 2) ∧ Step w8 wx)
            case first =>
              rcases HCA.out with h1 | ⟨h1, h2⟩ | ⟨h1, h2, h3⟩ | ⟨h1, h2, h3, h4⟩ | ⟨h1, h2, h3, h4⟩
              · go_wp2
                go_meet
                case rel => exact ⟨_, _, rfl, rfl, CellsAt.new rfl, Nat.le_refl _, fun hb ht => by first | (simp at hb; done) | (rw [ht] at h1; simp at h1; done) | (rw [ht] at h2; simp at h2; done) | (rw [ht] at h3; simp at h3; done) | (exact beq_eq_false_iff_ne.1 h4), by (repeat (first | exact Step.refl _ | refine Step.alloc ?_ _ | refine Step.drew ?_ | refine Step.drewN ?_ _ | refine Step.setCell ?_ (by first | exact Nat.le_refl _ | assumption | omega | (simp; done) | (simp; omega)) _ | assumption | refine Step.trans ?_ (by assumption : Step _ _)))⟩
              · go_wp2
                go_meet
                case rel => exact ⟨_, _, rfl, rfl, CellsAt.new rfl, Nat.le_refl _, fun hb ht => by first | (simp at hb; done) | (rw [ht] at h1; simp at h1; done) | (rw [ht] at h2; simp at h2; done) | (rw [ht] at h3; simp at h3; done) | (exact beq_eq_false_iff_ne.1 h4), by (repeat (first | exact Step.refl _ | refine Step.alloc ?_ _ | refine Step.drew ?_ | refine Step.drewN ?_ _ | refine Step.setCell ?_ (by first | exact Nat.le_refl _ | assumption | omega | (simp; done) | (simp; omega)) _ | assumption | refine Step.trans ?_ (by assumption : Step _ _)))⟩
              · go_wp2
                go_meet
                case rel => exact ⟨_, _, rfl, rfl, CellsAt.new rfl, Nat.le_refl _, fun hb ht => by first | (simp at hb; done) | (rw [ht] at h1; simp at h1; done) | (rw [ht] at h2; simp at h2; done) | (rw [ht] at h3; simp at h3; done) | (exact beq_eq_false_iff_ne.1 h4), by (repeat (first | exact Step.refl _ | refine Step.alloc ?_ _ | refine Step.drew ?_ | refine Step.drewN ?_ _ | refine Step.setCell ?_ (by first | exact Nat.le_refl _ | assumption | omega | (simp; done) | (simp; omega)) _ | assumption | refine Step.trans ?_ (by assumption : Step _ _)))⟩
              · go_wp2
                go_meet
                case rel => exact ⟨_, _, rfl, rfl, CellsAt.new rfl, Nat.le_refl _, fun hb ht => by first | (simp at hb; done) | (rw [ht] at h1; simp at h1; done) | (rw [ht] at h2; simp at h2; done) | (rw [ht] at h3; simp at h3; done) | (exact beq_eq_false_iff_ne.1 h4), by (repeat (first | exact Step.refl _ | refine Step.alloc ?_ _ | refine Step.drew ?_ | refine Step.drewN ?_ _ | refine Step.setCell ?_ (by first | exact Nat.le_refl _ | assumption | omega | (simp; done) | (simp; omega)) _ | assumption | refine Step.trans ?_ (by assumption : Step _ _)))⟩
              · go_wp2
                go_meet
                case rel => exact ⟨_, _, rfl, rfl, CellsAt.new rfl, Nat.le_refl _, fun hb ht => by first | (simp at hb; done) | (rw [ht] at h1; simp at h1; done) | (rw [ht] at h2; simp at h2; done) | (rw [ht] at h3; simp at h3; done) | (exact beq_eq_false_iff_ne.1 h4), by (repeat (first | exact Step.refl _ | refine Step.alloc ?_ _ | refine Step.drew ?_ | refine Step.drewN ?_ _ | refine Step.setCell ?_ (by first | exact Nat.le_refl _ | assumption | omega | (simp; done) | (simp; omega)) _ | assumption | refine Step.trans ?_ (by assumption : Step _ _)))⟩
            case rest =>
              obtain ⟨ab, bb, rfl, rfl, hCA, hab, hbb, hS9⟩ := hcut
              have HCA9 := Lib.hid hCA
              have HBB := Lib.hid hbb
              have c0 : wc.cell? ⟨ab, 0, none⟩ = some (.int .i64 x.kind) := hCA.cell 0
              have f0 : wc.frozen? ⟨ab, 0, none⟩ = false := hCA.frozen 0
              clear hCA hbb
              refine open_k (by assumption) ?_
              go_cut [11] (fun s11 wx => ∃ (kk : Int), s11 = .pointer (some ⟨ab, 0, none⟩) ∧ CellsAt wx ab (ansCells { x with kind := kk } x.out.err x.out.at_ (.slice b1 n1 k1) (.slice b2 n2 k2) (.slice b3 n3 k3)) 44 ∧ (x.txn = ⟨7, 8, 9⟩ → kk ≠ 2) ∧ Step w8 wx)
              case first =>
                cases bb
                · go_wp2
                  go_meet
                  case rel => exact ⟨x.kind, rfl, HCA9.out, HBB.out (by simp), hS9⟩
                · go_wp2
                  go_meet
                  case rel => exact ⟨3, rfl, HCA9.out.set 0 _, fun _ => by decide, hS9.setCell hab _⟩
              case rest =>
                obtain ⟨kk, rfl, hCA, hkk, hS10⟩ := hcut
                clear c0 f0 HCA9 HBB hS9
                have d0 : wc.cell? ⟨ab, 0, none⟩ = some (.int .i64 kk) := hCA.cell 0
                have d1 : wc.cell? ⟨ab, 1, none⟩ = some (.int .u64 (x.inc : Int)) := hCA.cell 1
                have d2 : wc.cell? ⟨ab, 2, none⟩ = some (.int .u64 (x.boot : Int)) := hCA.cell 2
                have d3 : wc.cell? ⟨ab, 3, none⟩ = some (.int .u64 (x.txn.boot : Int)) := hCA.cell 3
                have d4 : wc.cell? ⟨ab, 4, none⟩ = some (.int .u64 (x.txn.session : Int)) := hCA.cell 4
                have d5 : wc.cell? ⟨ab, 5, none⟩ = some (.int .u64 (x.txn.seq : Int)) := hCA.cell 5
                have d6 : wc.cell? ⟨ab, 6, none⟩ = some (.int .u64 (x.id : Int)) := hCA.cell 6
                have d7 : wc.cell? ⟨ab, 7, none⟩ = some (.int .i64 x.err) := hCA.cell 7
                have d8 : wc.cell? ⟨ab, 8, none⟩ = some (.int .i64 x.out.err) := hCA.cell 8
                have d9 : wc.cell? ⟨ab, 9, none⟩ = some (.int .i64 x.out.at_) := hCA.cell 9
                have d10 : wc.cell? ⟨ab, 10, none⟩ = some (.slice b1 n1 k1) := hCA.cell 10
                have d11 : wc.cell? ⟨ab, 11, none⟩ = some (.slice b2 n2 k2) := hCA.cell 11
                have d12 : wc.cell? ⟨ab, 12, none⟩ = some (.bool x.commit) := hCA.cell 12
                have d13 : wc.cell? ⟨ab, 13, none⟩ = some (.slice b3 n3 k3) := hCA.cell 13
                have d14 : wc.cell? ⟨ab, 14, none⟩ = some (.int .u64 (x.at_ : Int)) := hCA.cell 14
                have r0 := (hS10.cell hb8 0).trans p0
                have r1 := (hS10.cell hb8 1).trans p1
                have r2 := (hS10.cell hb8 2).trans p2
                have hz10 := hS10.size
                have HCA2 := Lib.hid hCA
                have HKK := Lib.hid hkk
                have hlab := hCA.lt
                clear hCA hkk p0 p1 p2
                refine open_k (by assumption) ?_
                have hS7c : Step w7 wc := hB.trans (hS8.trans hS10)
                have HC7c := Lib.hid (HC7.out.keep (fun b h1 _ => hS7c.heap h1))
                go_upto_region 19 with (go_at_call 17; refine (cAnswer_stray (x := { x with kind := kk }) (oe := x.out.err) (oa := x.out.at_) HC7c.out (by constructor <;> omega) (fun p hp hpe => ⟨(HO7.out.outs p hp).2.2, fun ht => HKK.out (ht.trans HO7.out.txn)⟩)).mono ?_; rintro e w9 ⟨rfl, hS11⟩; have e0 : ∀ j, w9.cell? ⟨ab, j, none⟩ = wc.cell? ⟨ab, j, none⟩ := fun j => hS11.cell hlab j; have e1 : ∀ j, w9.cell? ⟨w4.heap.size, j, none⟩ = wc.cell? ⟨w4.heap.size, j, none⟩ := fun j => hS11.cell (by omega) j)
                have HCA3 := Lib.hid (HCA2.out.step hS11)
                have g0 : w9.frozen? ⟨ab, 0, none⟩ = false := HCA3.out.frozen 0
                have g3 : w9.frozen? ⟨ab, 3, none⟩ = false := HCA3.out.frozen 3
                have g4 : w9.frozen? ⟨ab, 4, none⟩ = false := HCA3.out.frozen 4
                have g5 : w9.frozen? ⟨ab, 5, none⟩ = false := HCA3.out.frozen 5
                have hne : ¬ ab = w4.heap.size := by omega
                have hne' : ¬ w4.heap.size = ab := by omega
                have hz11 := hS11.size
                refine wp_region_held_drew (S := (fun w' => w'.cell? ⟨w4.heap.size, 0, none⟩ = some (.int .u64 7) ∧ w'.cell? ⟨w4.heap.size, 1, none⟩ = some (.int .u64 8) ∧ w'.cell? ⟨w4.heap.size, 2, none⟩ = some (.int .u64 9))) (by kernel_rfl) ?_ (fun hHeld => ?_)
                · (go_keep)
                refine wpAnyH_take (i := 0) (v := ?_) rfl (by kernel_rfl) (by kernel_rfl) (by kernel_rfl) (fun _ _ _ h => h) (Or.inl ⟨by rfl, ?_⟩) (by assumption) ?_
                rotate_left 1
                · (intro w hSw; (try dsimp only at hSw); go_simp; (try with_reducible rfl))
                try simp only [Act.put, List.getElem_toArray, List.getElem_cons_succ, List.getElem_cons_zero, List.setIfInBounds_toArray, List.set_cons_zero, List.set_cons_succ]
                refine wpAnyH_take (i := 1) (v := ?_) rfl (by kernel_rfl) (by kernel_rfl) (by kernel_rfl) (fun _ _ _ h => h) (Or.inl ⟨by rfl, ?_⟩) (by assumption) ?_
                rotate_left 1
                · (intro w hSw; (try dsimp only at hSw); go_simp; (try with_reducible rfl))
                try simp only [Act.put, List.getElem_toArray, List.getElem_cons_succ, List.getElem_cons_zero, List.setIfInBounds_toArray, List.set_cons_zero, List.set_cons_succ]
                refine wpAnyH_ready (rs := [2]) (by kernel_rfl) (by simp) ?_
                refine AllReadyH.cons rfl (fun K hK => ?_) AllReadyH.nil
                try simp only [List.getElem_toArray, List.getElem_cons_succ, List.getElem_cons_zero]
                go_simp
                refine hK.out _ _ ?_ (fun hHeld => ?_)
                · (go_keep)
                clear hK K
                try simp only [Act.put, List.getElem_toArray, List.getElem_cons_succ, List.getElem_cons_zero, List.setIfInBounds_toArray, List.set_cons_zero, List.set_cons_succ]
                refine wpAnyH_take (i := 3) (v := ?_) rfl (by kernel_rfl) (by kernel_rfl) (by kernel_rfl) (fun _ _ _ h => h) (Or.inl ⟨by rfl, ?_⟩) (by assumption) ?_
                rotate_left 1
                · (intro w hSw; (try dsimp only at hSw); go_simp; (try with_reducible rfl))
                try simp only [Act.put, List.getElem_toArray, List.getElem_cons_succ, List.getElem_cons_zero, List.setIfInBounds_toArray, List.set_cons_zero, List.set_cons_succ]
                refine wpAnyH_ready (rs := [4]) (by kernel_rfl) (by simp) ?_
                refine AllReadyH.cons rfl (fun K hK => ?_) AllReadyH.nil
                try simp only [List.getElem_toArray, List.getElem_cons_succ, List.getElem_cons_zero]
                go_simp
                refine hK.out _ _ ?_ (fun hHeld => ?_)
                · (go_keep)
                clear hK K
                try simp only [Act.put, List.getElem_toArray, List.getElem_cons_succ, List.getElem_cons_zero, List.setIfInBounds_toArray, List.set_cons_zero, List.set_cons_succ]
                refine wpAnyH_done (by kernel_rfl) ?_ _
                refine wp_at (fun W => CellsAt W ab (ansCells { x with kind := 2, txn := ⟨7, 8, 9⟩ } x.out.err x.out.at_ (.slice b1 n1 k1) (.slice b2 n2 k2) (.slice b3 n3 k3)) 44 ∧ Step w7 W) ⟨(((HCA3.out.set 0 (.int .i64 2)).set 3 (.int .u64 7)).set 4 (.int .u64 8)).set 5 (.int .u64 9), Step.drew (((((hS7c.trans hS11).setCell (by show w7.heap.size ≤ ab; omega) _).setCell (by show w7.heap.size ≤ ab; omega) _).setCell (by show w7.heap.size ≤ ab; omega) _).setCell (by show w7.heap.size ≤ ab; omega) _)⟩ ?_
                clear d0 d1 d2 d3 d4 d5 d6 d7 d8 d9 d10 d11 d12 d13 d14 e0 e1 g0 g3 g4 g5 r0 r1 r2
                rintro wd ⟨hCA, hSd⟩
                have d0 : wd.cell? ⟨ab, 0, none⟩ = some (.int .i64 2) := hCA.cell 0
                have d1 : wd.cell? ⟨ab, 1, none⟩ = some (.int .u64 (x.inc : Int)) := hCA.cell 1
                have d2 : wd.cell? ⟨ab, 2, none⟩ = some (.int .u64 (x.boot : Int)) := hCA.cell 2
                have d3 : wd.cell? ⟨ab, 3, none⟩ = some (.int .u64 7) := hCA.cell 3
                have d4 : wd.cell? ⟨ab, 4, none⟩ = some (.int .u64 8) := hCA.cell 4
                have d5 : wd.cell? ⟨ab, 5, none⟩ = some (.int .u64 9) := hCA.cell 5
                have d6 : wd.cell? ⟨ab, 6, none⟩ = some (.int .u64 (x.id : Int)) := hCA.cell 6
                have d7 : wd.cell? ⟨ab, 7, none⟩ = some (.int .i64 x.err) := hCA.cell 7
                have d8 : wd.cell? ⟨ab, 8, none⟩ = some (.int .i64 x.out.err) := hCA.cell 8
                have d9 : wd.cell? ⟨ab, 9, none⟩ = some (.int .i64 x.out.at_) := hCA.cell 9
                have d10 : wd.cell? ⟨ab, 10, none⟩ = some (.slice b1 n1 k1) := hCA.cell 10
                have d11 : wd.cell? ⟨ab, 11, none⟩ = some (.slice b2 n2 k2) := hCA.cell 11
                have d12 : wd.cell? ⟨ab, 12, none⟩ = some (.bool x.commit) := hCA.cell 12
                have d13 : wd.cell? ⟨ab, 13, none⟩ = some (.slice b3 n3 k3) := hCA.cell 13
                have d14 : wd.cell? ⟨ab, 14, none⟩ = some (.int .u64 (x.at_ : Int)) := hCA.cell 14
                have hlab' := hCA.lt
                clear hCA
                have HC7d := Lib.hid (HC7.out.keep (fun b h1 _ => hSd.heap h1))
                go_wp2_with (go_at_call 17; refine (cAnswer_out (x := { x with kind := 2, txn := ⟨7, 8, 9⟩ }) (oe := x.out.err) (oa := x.out.at_) HC7d.out (by constructor <;> omega) (fun p hp => by have := HO7.out.outs p hp; omega)).mono ?_; rintro e w12 ⟨rfl, hS12⟩)
                go_roundw
                case rel => exact ⟨k + 1, by go_num, by omega, by omega, hSd.trans hS12⟩
                case measure => simp [Go.RowKit.intOf]; omega
          · have hge : decide ((k : Int) < 30) = false := decide_eq_false (by omega)
            have c6 : wr.cell? ⟨cb, 6, none⟩ = some (.int .i64 0) := (hB.cell hcb7 6).trans ((HC7.out.cells.cell 6).trans (by show some (Value.int .i64 cc.phase) = _; rw [HO7.out.phase]))
            have c7 : wr.cell? ⟨cb, 7, none⟩ = some (.int .i64 cc.wants) := (hB.cell hcb7 7).trans (HC7.out.cells.cell 7)
            have c12 : wr.cell? ⟨cb, 12, none⟩ = some (.bool false) := (hB.cell hcb7 12).trans ((HC7.out.cells.cell 12).trans (by show some (Value.bool cc.certain) = _; rw [HO7.out.certain]))
            have hcbr : cb < wr.heap.size := by omega
            have HCr := Lib.hid (HC7.out.keep (fun b h1 _ => hB.heap h1))
            clear q0 q1 q2
            go_upto_region 26 with (first
              | (go_at_call 18; refine (Retry_ ⟨_, _, _, _, _, _, HCr.out⟩).mono ?_; rintro e w13 ⟨v13, rfl, hA13, hS13⟩; obtain ⟨ga, gn, gc, rfl, HGN⟩ := hA13.valN; obtain rfl : gn = fn := (by rw [HGN.out, HFN.out]); have HA13 := Lib.hid hA13; have s13 : ∀ j, w13.cell? ⟨cb, j, none⟩ = wr.cell? ⟨cb, j, none⟩ := fun j => hS13.cell hcbr j; clear hA13)
              | (go_at_call 19; refine (cOver_ (n := 0) (by rw [s13, c6])).mono ?_; rintro e w14 ⟨rfl, rfl⟩)
              | (go_at_call 20; refine (cDoubt_no (n := 0) (by rw [s13, c6]) (by decide) (by decide)).mono ?_; rintro e w15 ⟨rfl, k15, rfl⟩))
            have d7 := (s13 7).trans c7
            have d12 := (s13 12).trans c12
            have hcb14 : cb < w14.heap.size := lt_of_cell d12
            have HF := Lib.hid (Ty.step _ (Ty.step _ (HA7.out.rep (fun _ h => h)) hB) hS13)
            have HG := Lib.hid (HA13.out.rep (fun _ h => h))
            have HK2 := Lib.hid (sends_kind HO7.out)
            have HW := Lib.hid HO7.out.wants
            have hSo : Step w w14 := (hS7.trans hB).trans hS13
            have HSo := Lib.hid hSo
            have hgl : gn ≤ 68719476736 := by have := HA13.out.le; rw [← HGN.out, lim_eq] at this; exact this
            generalize sendsOf cc.out = ss at *
            clear c6 c7 c12 s13 HCr hB hszr hSo
            go_wp2
            go_loopw [16, 101] (fun _ i w' => ∃ m : Nat, i = .int .i64 m ∧ m ≤ gn ∧ Step w14 w') (fun _ i _ => gn - (Go.RowKit.intOf i).toNat)
            case atStart => exact ⟨0, rfl, by omega, (Step.refl _).drewN _⟩
            case round =>
              obtain ⟨m, rfl, hm, hSm⟩ := hrel
              by_cases hlm : m < gn
              · have hlm' : Hid (m < ss.length) := Lib.hid (by rw [← HGN.out]; exact hlm)
                obtain ⟨fb, fo, fes, rfl, hfb, _, ⟨f8, f10, rfl, _⟩, hfq⟩ := Ty.slice_at HF.out hlm'.out
                obtain ⟨gb, go', ges, rfl, hgb, _, ⟨g8, g10, rfl, _⟩, hgq⟩ := Ty.slice_at HG.out hlm'.out
                have fq0 := (hSm.cell hfb _).trans (hfq 0 _ rfl)
                have gq0 := (hSm.cell hgb _).trans (hgq 0 _ rfl)
                have gq1 := (hSm.cell hgb _).trans (hgq 1 _ rfl)
                rw [HK2.out _ (List.getElem_mem hlm'.out)] at gq1
                simp only [show tSend.n = 13 from rfl, Nat.add_zero] at fq0 gq0 gq1
                generalize ss[m].shard = sh at *
                clear hfq hgq
                go_wp2
                go_quiet (fail)
                go_wp2
                go_roundw
                case rel => exact ⟨m + 1, by go_num, by omega, hSm.drewN _⟩
                case measure => simp [Go.RowKit.intOf]; omega
              · obtain rfl : m = gn := by omega
                have e7 := (hSm.cell hcb14 7).trans d7
                have e12 := (hSm.cell hcb14 12).trans d12
                have hfin := HSo.out.trans hSm
                rcases HW.out with ⟨hw, hne⟩ | ⟨hw, he⟩
                · rw [hw] at e7
                  have hg0 : ((m : Int) == 0) = false := beq_eq_false_iff_ne.2 (by
                    have : ss.length ≠ 0 := fun h => hne (List.length_eq_zero_iff.1 h)
                    have := HGN.out
                    omega)
                  clear hw hne
                  go_wp2_with (first
                    | (go_at_call 21; refine (cReply_no e12).mono ?_; rintro e w16 ⟨rfl, rfl⟩)
                    | (go_at_call 22; refine (cWants_ e7).mono ?_; rintro e w17 ⟨rfl, rfl⟩))
                  go_ret
                  exact ⟨rfl, hfin⟩
                · rw [hw] at e7
                  obtain rfl : m = 0 := by rw [HGN.out, he]; rfl
                  clear hw he
                  go_wp2_with (first
                    | (go_at_call 21; refine (cReply_no e12).mono ?_; rintro e w16 ⟨rfl, rfl⟩)
                    | (go_at_call 22; refine (cWants_ e7).mono ?_; rintro e w17 ⟨rfl, rfl⟩))
                  go_ret
                  exact ⟨rfl, hfin⟩
        · obtain rfl : k = xs.length := by omega
          have c6 : wr.cell? ⟨cb, 6, none⟩ = some (.int .i64 0) := (hB.cell hcb7 6).trans ((HC7.out.cells.cell 6).trans (by show some (Value.int .i64 cc.phase) = _; rw [HO7.out.phase]))
          have c7 : wr.cell? ⟨cb, 7, none⟩ = some (.int .i64 cc.wants) := (hB.cell hcb7 7).trans (HC7.out.cells.cell 7)
          have c12 : wr.cell? ⟨cb, 12, none⟩ = some (.bool false) := (hB.cell hcb7 12).trans ((HC7.out.cells.cell 12).trans (by show some (Value.bool cc.certain) = _; rw [HO7.out.certain]))
          have hcbr : cb < wr.heap.size := by omega
          have HCr := Lib.hid (HC7.out.keep (fun b h1 _ => hB.heap h1))
          clear q0 q1 q2
          go_upto_region 26 with (first
            | (go_at_call 18; refine (Retry_ ⟨_, _, _, _, _, _, HCr.out⟩).mono ?_; rintro e w13 ⟨v13, rfl, hA13, hS13⟩; obtain ⟨ga, gn, gc, rfl, HGN⟩ := hA13.valN; obtain rfl : gn = fn := (by rw [HGN.out, HFN.out]); have HA13 := Lib.hid hA13; have s13 : ∀ j, w13.cell? ⟨cb, j, none⟩ = wr.cell? ⟨cb, j, none⟩ := fun j => hS13.cell hcbr j; clear hA13)
            | (go_at_call 19; refine (cOver_ (n := 0) (by rw [s13, c6])).mono ?_; rintro e w14 ⟨rfl, rfl⟩)
            | (go_at_call 20; refine (cDoubt_no (n := 0) (by rw [s13, c6]) (by decide) (by decide)).mono ?_; rintro e w15 ⟨rfl, k15, rfl⟩))
          have d7 := (s13 7).trans c7
          have d12 := (s13 12).trans c12
          have hcb14 : cb < w14.heap.size := lt_of_cell d12
          have HF := Lib.hid (Ty.step _ (Ty.step _ (HA7.out.rep (fun _ h => h)) hB) hS13)
          have HG := Lib.hid (HA13.out.rep (fun _ h => h))
          have HK2 := Lib.hid (sends_kind HO7.out)
          have HW := Lib.hid HO7.out.wants
          have hSo : Step w w14 := (hS7.trans hB).trans hS13
          have HSo := Lib.hid hSo
          have hgl : gn ≤ 68719476736 := by have := HA13.out.le; rw [← HGN.out, lim_eq] at this; exact this
          generalize sendsOf cc.out = ss at *
          clear c6 c7 c12 s13 HCr hB hszr hSo
          go_wp2
          go_loopw [16, 101] (fun _ i w' => ∃ m : Nat, i = .int .i64 m ∧ m ≤ gn ∧ Step w14 w') (fun _ i _ => gn - (Go.RowKit.intOf i).toNat)
          case atStart => exact ⟨0, rfl, by omega, (Step.refl _).drewN _⟩
          case round =>
            obtain ⟨m, rfl, hm, hSm⟩ := hrel
            by_cases hlm : m < gn
            · have hlm' : Hid (m < ss.length) := Lib.hid (by rw [← HGN.out]; exact hlm)
              obtain ⟨fb, fo, fes, rfl, hfb, _, ⟨f8, f10, rfl, _⟩, hfq⟩ := Ty.slice_at HF.out hlm'.out
              obtain ⟨gb, go', ges, rfl, hgb, _, ⟨g8, g10, rfl, _⟩, hgq⟩ := Ty.slice_at HG.out hlm'.out
              have fq0 := (hSm.cell hfb _).trans (hfq 0 _ rfl)
              have gq0 := (hSm.cell hgb _).trans (hgq 0 _ rfl)
              have gq1 := (hSm.cell hgb _).trans (hgq 1 _ rfl)
              rw [HK2.out _ (List.getElem_mem hlm'.out)] at gq1
              simp only [show tSend.n = 13 from rfl, Nat.add_zero] at fq0 gq0 gq1
              generalize ss[m].shard = sh at *
              clear hfq hgq
              go_wp2
              go_quiet (fail)
              go_wp2
              go_roundw
              case rel => exact ⟨m + 1, by go_num, by omega, hSm.drewN _⟩
              case measure => simp [Go.RowKit.intOf]; omega
            · obtain rfl : m = gn := by omega
              have e7 := (hSm.cell hcb14 7).trans d7
              have e12 := (hSm.cell hcb14 12).trans d12
              have hfin := HSo.out.trans hSm
              rcases HW.out with ⟨hw, hne⟩ | ⟨hw, he⟩
              · rw [hw] at e7
                have hg0 : ((m : Int) == 0) = false := beq_eq_false_iff_ne.2 (by
                  have : ss.length ≠ 0 := fun h => hne (List.length_eq_zero_iff.1 h)
                  have := HGN.out
                  omega)
                clear hw hne
                go_wp2_with (first
                  | (go_at_call 21; refine (cReply_no e12).mono ?_; rintro e w16 ⟨rfl, rfl⟩)
                  | (go_at_call 22; refine (cWants_ e7).mono ?_; rintro e w17 ⟨rfl, rfl⟩))
                go_ret
                exact ⟨rfl, hfin⟩
              · rw [hw] at e7
                obtain rfl : m = 0 := by rw [HGN.out, he]; rfl
                clear hw he
                go_wp2_with (first
                  | (go_at_call 21; refine (cReply_no e12).mono ?_; rintro e w16 ⟨rfl, rfl⟩)
                  | (go_at_call 22; refine (cWants_ e7).mono ?_; rintro e w17 ⟨rfl, rfl⟩))
                go_ret
                exact ⟨rfl, hfin⟩
    · have hbc' : (checkRef qs != 0) = true := by simpa using hbc
      clear hbc
      go_enter Try.func3, Try.ntmps3
      go_wp2_with (first
        | (go_at_call 9; refine (awake_ _).mono ?_; rintro e w1 ⟨rfl, hS1⟩)
        | (go_at_call 10; refine (Few_ (n := 18) (Ty.step _ H2.out (by (repeat (first | exact Step.refl _ | refine Step.alloc ?_ _ | refine Step.drew ?_ | refine Step.drewN ?_ _ | refine Step.setCell ?_ (by first | exact Nat.le_refl _ | assumption | omega | (simp; done) | (simp; omega)) _ | assumption | refine Step.trans ?_ (by assumption : Step _ _))))) (by omega)).mono ?_; rintro e w2 ⟨v2, rfl, hR2, rfl⟩; rw [← HQS.out] at hR2; obtain ⟨d2, e2, rfl, _⟩ := Ty.slice_val hR2; have HR2 := Lib.hid hR2; clear hR2)
        | (go_at_call 11; refine (refSplits_ (Ty.step _ H1.out (by (repeat (first | exact Step.refl _ | refine Step.alloc ?_ _ | refine Step.drew ?_ | refine Step.drewN ?_ _ | refine Step.setCell ?_ (by first | exact Nat.le_refl _ | assumption | omega | (simp; done) | (simp; omega)) _ | assumption | refine Step.trans ?_ (by assumption : Step _ _)))))).mono ?_; rintro e w3 ⟨rfl, k3, rfl⟩)
        | (go_at_call 12; refine (refCheck_ (Ty.step _ HR2.out (by (repeat (first | exact Step.refl _ | refine Step.alloc ?_ _ | refine Step.drew ?_ | refine Step.drewN ?_ _ | refine Step.setCell ?_ (by first | exact Nat.le_refl _ | assumption | omega | (simp; done) | (simp; omega)) _ | assumption | refine Step.trans ?_ (by assumption : Step _ _)))))).mono ?_; rintro e w4 ⟨rfl, hS4⟩))
      go_ret
      exact ⟨rfl, by (repeat (first | exact Step.refl _ | refine Step.alloc ?_ _ | refine Step.drew ?_ | refine Step.drewN ?_ _ | refine Step.setCell ?_ (by first | exact Nat.le_refl _ | assumption | omega | (simp; done) | (simp; omega)) _ | assumption | refine Step.trans ?_ (by assumption : Step _ _)))⟩
  · have hbs' : (splitsB sp != 0) = true := by simpa using hbs
    clear hbs
    go_enter Try.func3, Try.ntmps3
    go_wp2_with (first
      | (go_at_call 9; refine (awake_ _).mono ?_; rintro e w1 ⟨rfl, hS1⟩)
      | (go_at_call 10; refine (Few_ (n := 18) (Ty.step _ H2.out (by (repeat (first | exact Step.refl _ | refine Step.alloc ?_ _ | refine Step.drew ?_ | refine Step.drewN ?_ _ | refine Step.setCell ?_ (by first | exact Nat.le_refl _ | assumption | omega | (simp; done) | (simp; omega)) _ | assumption | refine Step.trans ?_ (by assumption : Step _ _))))) (by omega)).mono ?_; rintro e w2 ⟨v2, rfl, hR2, rfl⟩; rw [← HQS.out] at hR2; obtain ⟨d2, e2, rfl, _⟩ := Ty.slice_val hR2; have HR2 := Lib.hid hR2; clear hR2)
      | (go_at_call 11; refine (refSplits_ (Ty.step _ H1.out (by (repeat (first | exact Step.refl _ | refine Step.alloc ?_ _ | refine Step.drew ?_ | refine Step.drewN ?_ _ | refine Step.setCell ?_ (by first | exact Nat.le_refl _ | assumption | omega | (simp; done) | (simp; omega)) _ | assumption | refine Step.trans ?_ (by assumption : Step _ _)))))).mono ?_; rintro e w3 ⟨rfl, k3, rfl⟩))
    go_ret
    exact ⟨rfl, by (repeat (first | exact Step.refl _ | refine Step.alloc ?_ _ | refine Step.drew ?_ | refine Step.drewN ?_ _ | refine Step.setCell ?_ (by first | exact Nat.le_refl _ | assumption | omega | (simp; done) | (simp; omega)) _ | assumption | refine Step.trans ?_ (by assumption : Step _ _)))⟩
end Go.Proofs.Ythflkfgiclcdiaa
