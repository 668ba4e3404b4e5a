/-
  Walk: more shards come to the same as fewer (BranchFiner).
-/
import Derived.Test.YthflkfgiclcdiaaZB34
set_option linter.unusedVariables false
set_option linter.unusedSimpArgs false
namespace Go.Proofs.Ythflkfgiclcdiaa
open Go.RowKit Go.Gr Go.Sort
set_option linter.unusedSimpArgs false
set_option linter.unusedVariables false
set_option maxRecDepth 100000 in
set_option maxHeartbeats 8000000 in
theorem branchFiner_ {w : World} {M M' M'' : Nat → Prop} {wv sv ov : Value} {ws : List DWrite} {sp : List (List UInt8)} {ops : List DOp} (hw : (Ty.slice tWrite).rep w M [wv] ws) (hs : (Ty.slice Ty.bytes).rep w M' [sv] sp) (ho : (Ty.slice tOp).rep w M'' [ov] ops) :
    Calls Try.prog 5 #[wv, sv, ov] w fun e w' => e = .returned (.bool true) ∧ Step w w' := by
  obtain ⟨wa, wc0, rfl, _⟩ := Ty.slice_val hw
  obtain ⟨sa, sc, rfl, _, _, hsl⟩ := Ty.slice_val hs
  obtain ⟨oa, oc, rfl, _⟩ := Ty.slice_val ho
  rw [lim_eq] at hsl
  have HWS := Lib.hid hw
  have HSP := Lib.hid hs
  have HOP := Lib.hid ho
  clear hw hs ho
  obtain ⟨q, hq⟩ : ∃ q, q = ops.take 16 := ⟨_, rfl⟩
  have hql : q.length ≤ 16 := by rw [hq, List.length_take]; omega
  have HQ := Lib.hid hq
  clear hq
  by_cases hsp : splitsB sp = 0
  · by_cases hck : checkRef q = 0
    · have hG := GoodSp.of hsp
      have hsp3 := hG.len
      have HGS := Lib.hid hG
      have HS0 := Lib.hid hsp
      have HC0 := Lib.hid hck
      have HCB := Lib.hid ((check_same q).trans hck)
      obtain ⟨P, hPe⟩ : ∃ P, P = storedB ws := ⟨_, rfl⟩
      have HP := Lib.hid (hPe ▸ stored_rising ws : RisP P)
      have hPl : P.length ≤ 60 := hPe ▸ stored_len ws
      have HPE := Lib.hid hPe
      obtain ⟨D, hD⟩ : ∃ D, runB P q = D := ⟨_, rfl⟩
      have HD := Lib.hid hD
      clear hG hsp hck hPe hD
      go_enter Try.func5, Try.ntmps5
      go_upto_region 6 with (first
        | (go_at_call 23; refine (lawAwake_ w).mono ?_; rintro e w1 ⟨rfl, hS1⟩)
        | (go_at_call 10; refine (Few_ (n := 16) (Ty.step _ HOP.out (by (repeat (first | exact Step.refl _ | refine Step.alloc ?_ _ | refine Step.drew ?_ | refine Step.drewN ?_ _ | refine Step.setCell ?_ (by first | exact Nat.le_refl _ | assumption | omega | (simp; done) | (simp; omega)) _ | assumption | refine Step.trans ?_ (by assumption : Step _ _))))) (by omega)).mono ?_; rintro e w3 ⟨v3, rfl, h3, rfl⟩; rw [← HQ.out] at h3; obtain ⟨qa, qc, rfl, _⟩ := Ty.slice_val h3; have HQR := Lib.hid h3; clear h3)
        | (go_at_call 11; refine (refSplits_ (Ty.step _ HSP.out (by (repeat (first | exact Step.refl _ | refine Step.alloc ?_ _ | refine Step.drew ?_ | refine Step.drewN ?_ _ | refine Step.setCell ?_ (by first | exact Nat.le_refl _ | assumption | omega | (simp; done) | (simp; omega)) _ | assumption | refine Step.trans ?_ (by assumption : Step _ _)))))).mono ?_; rintro e w4 ⟨rfl, n4, rfl⟩; rw [HS0.out])
        | (go_at_call 12; refine (refCheck_ (Ty.step _ HQR.out (by (repeat (first | exact Step.refl _ | refine Step.alloc ?_ _ | refine Step.drew ?_ | refine Step.drewN ?_ _ | refine Step.setCell ?_ (by first | exact Nat.le_refl _ | assumption | omega | (simp; done) | (simp; omega)) _ | assumption | refine Step.trans ?_ (by assumption : Step _ _)))))).mono ?_; rintro e w5 ⟨rfl, hS5⟩; rw [HC0.out]))
      go_upto_region 7 with (go_at_call 24; refine (stored_ (Ty.step _ HWS.out (by (repeat (first | exact Step.refl _ | refine Step.alloc ?_ _ | refine Step.drew ?_ | refine Step.drewN ?_ _ | refine Step.setCell ?_ (by first | exact Nat.le_refl _ | assumption | omega | (simp; done) | (simp; omega)) _ | assumption | refine Step.trans ?_ (by assumption : Step _ _)))))).mono ?_; rintro e w2 ⟨v2, rfl, h2, hS2⟩; rw [← HPE.out] at h2; obtain ⟨la, lc, rfl, _⟩ := Ty.slice_val h2; have HL := Lib.hid h2; clear h2)
      have hw32 : Step w3 w2 := by clear hS1; (repeat (first | exact Step.refl _ | refine Step.alloc ?_ _ | refine Step.drew ?_ | refine Step.drewN ?_ _ | refine Step.setCell ?_ (by first | exact Nat.le_refl _ | assumption | omega | (simp; done) | (simp; omega)) _ | assumption | refine Step.trans ?_ (by assumption : Step _ _)))
      have hw2 : Step w w2 := hS1.trans hw32
      have HW2 := Lib.hid hw2
      have HQ2 := Lib.hid (Ty.step _ HQR.out hw32)
      have HS2 := Lib.hid (Ty.step _ HSP.out hw2)
      clear hw2 hw32 hS1 hS5 hS2 HQR HSP HOP HWS
      go_wp2
      go_loopw [9] (fun i w' => ∃ (n : Nat) (er ak : Int) (rv xv : Value), i = .int .i64 n ∧ n ≤ sp.length + 1 ∧ CellsAt w' w2.heap.size (outC er ak rv xv) 41 ∧ (0 < n → er = D.err ∧ ak = D.at_ ∧ (Ty.slice (Ty.slice tPair)).rep w' (fun b => b = w2.heap.size) [rv] D.rows ∧ (Ty.slice tWrite).rep w' (fun b => b = w2.heap.size) [xv] D.writes) ∧ Step w2 w') (fun i _ => sp.length + 1 - (Go.RowKit.intOf i).toNat)
      case atStart => exact ⟨0, 0, 0, _, _, rfl, by omega, CellsAt.new rfl, fun h => absurd h (by omega), by (repeat (first | exact Step.refl _ | refine Step.alloc ?_ _ | refine Step.drew ?_ | refine Step.drewN ?_ _ | refine Step.setCell ?_ (by first | exact Nat.le_refl _ | assumption | omega | (simp; done) | (simp; omega)) _ | assumption | refine Step.trans ?_ (by assumption : Step _ _)))⟩
      case round =>
        obtain ⟨n, er, ak, rv, xv, rfl, hn, hC, hF, hB⟩ := hrel
        have HC := Lib.hid hC
        have HF := Lib.hid hF
        have HB := Lib.hid hB
        clear hC hF hB
        have hz2r : w2.heap.size < wr.heap.size := HC.out.lt
        by_cases hlt : n ≤ sp.length
        · obtain ⟨m, hm⟩ : ∃ m, m = sp.length - n := ⟨_, rfl⟩
          by_cases h0 : sp.length = 0
          · have hn00 : n ≤ 0 := by omega
            obtain ⟨sm, hsm⟩ : ∃ s, s = sp := ⟨_, rfl⟩
            have hdr : (Ty.slice Ty.bytes).rep w2 M' [.slice sa 0 sc] sm := by
              have h := HS2.out
              rw [h0, ← hsm] at h
              exact h
            have HSM := Lib.hid hdr
            have HGD : Hid (GoodSp sm) := Lib.hid (by rw [hsm]; exact HGS.out)
            have hdl : sm.length ≤ 3 := by rw [hsm]; omega
            clear hdr hsm hm
            go_upto_region 12 with fail
            rename n = 0 => hnz
            have HNZ := Lib.hid hnz
            clear hnz h0 hn00
            go_upto_region 13 with (first
              | (go_at_call 33; refine (Copies_ _ _ _ sm (Ty.step _ HSM.out HB.out)).mono ?_; rintro e w7 ⟨v7, rfl, h7, hS7⟩; have h7' := (Own.less (M' := fun _ => False) h7 (fun _ _ h => h.elim)).rep' (fun _ _ h => h); obtain ⟨ca, cc, rfl, _⟩ := Ty.slice_val h7'; have HC7 := Lib.hid h7'; clear h7 h7')
              | (go_at_call 14; refine (OwnOps_ _ _ _ q (Ty.step _ HQ2.out (HB.out.trans (by (repeat (first | exact Step.refl _ | refine Step.alloc ?_ _ | refine Step.drew ?_ | refine Step.drewN ?_ _ | refine Step.setCell ?_ (by first | exact Nat.le_refl _ | assumption | omega | (simp; done) | (simp; omega)) _ | assumption | refine Step.trans ?_ (by assumption : Step _ _))))))).mono ?_; rintro e w8 ⟨v8, rfl, h8, hS8⟩; have h8' := (Own.less (M' := fun _ => False) h8 (fun _ _ h => h.elim)).rep' (fun _ _ h => h); obtain ⟨ga, gc, rfl, _⟩ := Ty.slice_val h8'; have HG8 := Lib.hid h8'; clear h8 h8')
              | (go_at_call 32; refine (Parts_ _ (fun _ => False) _ _ sm q (Ty.step _ HC7.out (by (repeat (first | exact Step.refl _ | refine Step.alloc ?_ _ | refine Step.drew ?_ | refine Step.drewN ?_ _ | refine Step.setCell ?_ (by first | exact Nat.le_refl _ | assumption | omega | (simp; done) | (simp; omega)) _ | assumption | refine Step.trans ?_ (by assumption : Step _ _))))) (Ty.step _ HG8.out (by (repeat (first | exact Step.refl _ | refine Step.alloc ?_ _ | refine Step.drew ?_ | refine Step.drewN ?_ _ | refine Step.setCell ?_ (by first | exact Nat.le_refl _ | assumption | omega | (simp; done) | (simp; omega)) _ | assumption | refine Step.trans ?_ (by assumption : Step _ _))))) (by omega) (by omega)).mono ?_; rintro e w9 ⟨v9, rfl, h9, hS9⟩; have h9' := (Own.less (M' := fun b => b = w2.heap.size) h9 (fun b _ h => (by have h' : b = w2.heap.size := h; have q1 := hS7.size; have q2 := hS8.size; (try simp only [World.size_alloc, World.size_drewN] at q1 q2); omega))).rep' (fun b hb h => (by have h' : b = w2.heap.size := h; have q0 := (h9.lt hb).1; have q1 := hS7.size; have q2 := hS8.size; (try simp only [World.size_alloc, World.size_drewN] at q0 q1 q2); omega)); obtain ⟨pa, pc, rfl, _⟩ := Ty.slice_val h9'; have HP9 := Lib.hid h9'; clear h9 h9'))
            have hw9 : Step wr w9 := by (repeat (first | exact Step.refl _ | refine Step.alloc ?_ _ | refine Step.drew ?_ | refine Step.drewN ?_ _ | refine Step.setCell ?_ (by first | exact Nat.le_refl _ | assumption | omega | (simp; done) | (simp; omega)) _ | assumption | refine Step.trans ?_ (by assumption : Step _ _)))
            have HW9 := Lib.hid hw9
            clear hw9 hS7 hS8 hS9
            obtain ⟨wo, hwo⟩ : ∃ x, x = wr := ⟨_, rfl⟩
            subst hwo
            go_wp2
            go_loopw [12, 49] (fun o i w' => ∃ k : Nat, i = .int .i64 k ∧ k ≤ (partsB sm q (sm.length + 1)).length ∧ Gr.Own tOutcome 41 w' (fun b => b = w2.heap.size) w9.heap.size o ((outsB P sm q).take k) ∧ Step w9 w') (fun _ i _ => (partsB sm q (sm.length + 1)).length - (Go.RowKit.intOf i).toNat)
            case atStart => exact ⟨0, rfl, by omega, Gr.Own.nil, Step.refl _⟩
            case round =>
              obtain ⟨k, rfl, hk, hA, hS⟩ := hrel
              obtain ⟨ra, rn, rc, rfl, HRN⟩ := hA.valN
              have HA := Lib.hid hA
              clear hA
              by_cases hlt2 : k < (partsB sm q (sm.length + 1)).length
              · have hB := hS
                obtain ⟨pb, po, pes, rfl, phb, _, pu, pcu⟩ := Ty.slice_at HP9.out hlt2
                obtain ⟨pc1, pc2, rfl, ph0, ph1, ph2⟩ := pu
                have pq0 := (Step.cell (w' := wr) (by (repeat (first | exact Step.refl _ | refine Step.alloc ?_ _ | refine Step.drew ?_ | refine Step.drewN ?_ _ | refine Step.setCell ?_ (by first | exact Nat.le_refl _ | assumption | omega | (simp; done) | (simp; omega)) _ | assumption | refine Step.trans ?_ (by assumption : Step _ _)))) phb _).trans (pcu 0 _ rfl)
                have pq1 := (Step.cell (w' := wr) (by (repeat (first | exact Step.refl _ | refine Step.alloc ?_ _ | refine Step.drew ?_ | refine Step.drewN ?_ _ | refine Step.setCell ?_ (by first | exact Nat.le_refl _ | assumption | omega | (simp; done) | (simp; omega)) _ | assumption | refine Step.trans ?_ (by assumption : Step _ _)))) phb _).trans (pcu 1 _ rfl)
                have pq2 := (Step.cell (w' := wr) (by (repeat (first | exact Step.refl _ | refine Step.alloc ?_ _ | refine Step.drew ?_ | refine Step.drewN ?_ _ | refine Step.setCell ?_ (by first | exact Nat.le_refl _ | assumption | omega | (simp; done) | (simp; omega)) _ | assumption | refine Step.trans ?_ (by assumption : Step _ _)))) phb _).trans (pcu 2 _ rfl)
                simp only [show tPart.n = 3 from rfl, Nat.add_zero] at pq0 pq1 pq2
                obtain ⟨pa1, pn1, rfl, _⟩ := Ty.slice_val ph1
                obtain ⟨pa2, pn2, rfl, _⟩ := Ty.slice_val ph2
                have pH0 := Lib.hid ph0
                have pH1 := Lib.hid ph1
                have pH2 := Lib.hid ph2
                clear pcu ph0 ph1 ph2
                obtain ⟨s, hs1, hps⟩ := partsB_at hlt2
                have hsh : (partsB sm q (sm.length + 1))[k].shard = (s : Int) := by rw [hps]; rfl
                rw [hsh] at pq0
                have hok2 : k < (outsB P sm q).length := by rw [outsB_len]; exact hlt2
                have hat := outsB_at (P := P) hlt2 hok2
                have hir := outs_range HGD.out ((check_same q).trans HC0.out) (by omega) _ (List.getElem_mem (l := outsB P sm q) hok2)
                have htk := List.take_succ_eq_append_getElem hok2
                rw [hsh, Int.toNat_natCast] at hat
                obtain ⟨O, hO⟩ : ∃ O, (outsB P sm q)[k] = O := ⟨_, rfl⟩
                rw [hO] at hat hir htk
                obtain ⟨pt, hpt⟩ : ∃ pt, (partsB sm q (sm.length + 1))[k] = pt := ⟨_, rfl⟩
                rw [hpt] at hat
                have HP1 := pH1.out
                rw [hpt] at HP1
                rw [hpt] at pq1 pq2
                have HIR := Lib.hid hir
                have HTK := Lib.hid htk
                have hpl16 : (partsB sm q (sm.length + 1)).length ≤ 16 := Nat.le_trans partsB_le (by omega)
                have z9r := hS.size
                have z29 := HW9.out.size
                have z2o := HB.out.size
                have z2w := hz2r
                have hlim : ((outsB P sm q).take k).length + 1 ≤ lim := by
                  have h1 := partsPO_len (P := P) (sp := sm) (ops := q)
                  have h2 : (outsB P sm q).length ≤ 16 := by unfold outsB; rw [List.length_map]; omega
                  rw [List.length_take, lim_eq]
                  omega
                obtain ⟨Y, hYe⟩ : ∃ Y : Nat → Prop, Y = fun b => b = w2.heap.size ∨ (Value.slice ra rn rc).ownBlock = some b := ⟨_, rfl⟩
                have hYb : ∀ b, Y b → w2.heap.size ≤ b ∧ b < wr.heap.size := fun b hb => by
                  rw [hYe] at hb
                  rcases hb with hb | hb
                  · have h' : b = w2.heap.size := hb
                    omega
                  · have := HA.out.lt hb
                    omega
                have hY9 : ∀ b, Y b → b < w9.heap.size → b = w2.heap.size := fun b hb h => by
                  rw [hYe] at hb
                  rcases hb with hb | hb
                  · exact hb
                  · have := (HA.out.lt hb).1
                    omega
                have hLY : (Ty.slice tPair).rep wr Y [.slice la P.length lc] P := Ty.young HL.out ((HB.out.trans HW9.out).trans hS) (fun b hb => (hYb b hb).1)
                have hSY := Ty.young (Y := Y) HSM.out (HB.out.trans (HW9.out.trans hS)) (fun b hb => (hYb b hb).1)
                have hOY : (Ty.slice tOp).rep wr Y [.slice pa1 pt.ops.length pn1] pt.ops := Ty.keep _ HP1 (fun b hb hm => ⟨hS.heap hb, fun hy => hm (hY9 b hy hb)⟩)
                have HSH := Lib.hid (fun (V : World) (hV : Step wr V) => refShard_ (s := s) (Ty.step _ hLY hV) (Ty.step _ hSY hV))
                have hbr : ∀ (V : World) (lv : Value), Step wr V → (Ty.slice tPair).rep V Y [lv] (shardB P sm s) →
                    Calls Try.prog 25 #[.iface 62 (.pointer (some ⟨V.heap.size, 0, none⟩)), .slice pa1 pt.ops.length pn1] (V.alloc (.cells #[lv, .slice none 0 0, .int .i64 0] 65)) fun e w' => ∃ rv xv, e = .returned (.agg (outC O.err O.at_ rv xv)) ∧
                      (Ty.slice (Ty.slice tPair)).rep w' Y [rv] O.rows ∧ (Ty.slice tWrite).rep w' Y [xv] O.writes ∧ Step V w' := fun V lv hV hl => by
                  have h := brPart_ (Y := Y) (W := V) (fun b hb => by have := (hYb b hb).2; have := hV.size; omega) hl (Ty.step _ hOY hV) (shardB_rising HP.out sm s) (by have := shardB_len P sm s; omega)
                  rw [← hat] at h
                  exact h
                have HBR := Lib.hid hbr
                have HYB := Lib.hid hYb
                have HYE := Lib.hid hYe
                clear hLY hSY hOY hbr hYb hYe hY9 hat hps hsh hO hir htk hpt HP1
                go_upto_region 17 with fail
                refine wp_region_held_drew (S := (fun w' => w'.cell? ⟨wr.heap.size, 0, none⟩ = some (.int .i64 (s : Int)) ∧ w'.cell? ⟨wr.heap.size, 1, none⟩ = some (.slice pa1 pt.ops.length pn1))) (by kernel_rfl) ?_ (fun hHeld => ?_)
                · (go_keep)
                refine wpAnyH_take (i := 0) (v := ?_) rfl (by kernel_rfl) (by kernel_rfl) (by kernel_rfl) (fun _ _ _ h => h) (Or.inl ⟨by rfl, ?_⟩) (by assumption) ?_
                rotate_left 1
                · (intro w hSw; (try dsimp only at hSw); go_simp; (try with_reducible rfl))
                try simp only [Act.put, List.getElem_toArray, List.getElem_cons_succ, List.getElem_cons_zero, List.setIfInBounds_toArray, List.set_cons_zero, List.set_cons_succ]
                refine wpAnyH_take (i := 1) (v := ?_) rfl (by kernel_rfl) (by kernel_rfl) (by kernel_rfl) (fun _ _ _ h => h) (Or.inl ⟨by rfl, ?_⟩) (by assumption) ?_
                rotate_left 1
                · (intro w hSw; (try dsimp only at hSw); go_simp; (try with_reducible rfl))
                try simp only [Act.put, List.getElem_toArray, List.getElem_cons_succ, List.getElem_cons_zero, List.setIfInBounds_toArray, List.set_cons_zero, List.set_cons_succ]
                refine wpAnyH_take (i := 2) (v := ?_) rfl (by kernel_rfl) (by kernel_rfl) (by kernel_rfl) (fun _ _ _ h => h) (Or.inl ⟨by rfl, ?_⟩) (by assumption) ?_
                rotate_left 1
                · (intro w hSw; (try dsimp only at hSw); go_simp; (try with_reducible rfl))
                try simp only [Act.put, List.getElem_toArray, List.getElem_cons_succ, List.getElem_cons_zero, List.setIfInBounds_toArray, List.set_cons_zero, List.set_cons_succ]
                refine wpAnyH_take (i := 3) (v := ?_) rfl (by kernel_rfl) (by kernel_rfl) (by kernel_rfl) (fun _ _ _ h => h) (Or.inl ⟨by rfl, ?_⟩) (by assumption) ?_
                rotate_left 1
                · (intro w hSw; (try dsimp only at hSw); go_simp; (try with_reducible rfl))
                try simp only [Act.put, List.getElem_toArray, List.getElem_cons_succ, List.getElem_cons_zero, List.setIfInBounds_toArray, List.set_cons_zero, List.set_cons_succ]
                refine wpAnyH_take (i := 4) (v := ?_) rfl (by kernel_rfl) (by kernel_rfl) (by kernel_rfl) (fun _ _ _ h => h) (Or.inl ⟨by rfl, ?_⟩) (by assumption) ?_
                rotate_left 1
                · (intro w hSw; (try dsimp only at hSw); go_simp; (try with_reducible rfl))
                try simp only [Act.put, List.getElem_toArray, List.getElem_cons_succ, List.getElem_cons_zero, List.setIfInBounds_toArray, List.set_cons_zero, List.set_cons_succ]
                refine wpAnyH_take (i := 9) (v := ?_) rfl (by kernel_rfl) (by kernel_rfl) (by kernel_rfl) (fun _ _ _ h => h) (Or.inl ⟨by rfl, ?_⟩) (by assumption) ?_
                rotate_left 1
                · (intro w hSw; (try dsimp only at hSw); go_simp; (try with_reducible rfl))
                try simp only [Act.put, List.getElem_toArray, List.getElem_cons_succ, List.getElem_cons_zero, List.setIfInBounds_toArray, List.set_cons_zero, List.set_cons_succ]
                refine wpAnyH_take (i := 10) (v := ?_) rfl (by kernel_rfl) (by kernel_rfl) (by kernel_rfl) (fun _ _ _ h => h) (Or.inl ⟨by rfl, ?_⟩) (by assumption) ?_
                rotate_left 1
                · (intro w hSw; (try dsimp only at hSw); go_simp; (try with_reducible rfl))
                try simp only [Act.put, List.getElem_toArray, List.getElem_cons_succ, List.getElem_cons_zero, List.setIfInBounds_toArray, List.set_cons_zero, List.set_cons_succ]
                refine wpAnyH_ready (rs := [5]) (by kernel_rfl) (by simp) ?_
                refine AllReadyH.cons rfl (fun K hK => ?_) AllReadyH.nil
                try simp only [List.getElem_toArray, List.getElem_cons_succ, List.getElem_cons_zero]
                go_simp
                (go_at_call 34; refine (HSH.out _ (by (repeat (first | exact Step.refl _ | refine Step.alloc ?_ _ | refine Step.drew ?_ | refine Step.drewN ?_ _ | refine Step.setCell ?_ (by first | exact Nat.le_refl _ | assumption | omega | (simp; done) | (simp; omega)) _ | assumption | refine Step.trans ?_ (by assumption : Step _ _))))).mono ?_; rintro e w10 ⟨v10, rfl, hA10, hS10⟩; obtain ⟨a10, n10, c10, rfl, HN10⟩ := hA10.valN; have HR10 := Lib.hid (hA10.rep' (fun b hb hy => (by have h1 := (hA10.lt hb).1; have h2 := (HYB.out b hy).2; (try simp only [World.size_alloc, World.size_drew] at h1); omega))); clear hA10; have z10 : wr.heap.size < w10.heap.size := Nat.lt_of_lt_of_le (by first | assumption | omega | (simp; done) | (simp; omega)) hS10.size; have s10 : ∀ j, w10.cell? ⟨wr.heap.size, j, none⟩ = _ := fun j => hS10.cell (by first | assumption | omega | (simp; done) | (simp; omega)) j)
                refine hK.out _ _ ?_ (fun hHeld => ?_)
                · (go_keep)
                clear hK K
                try simp only [Act.put, List.getElem_toArray, List.getElem_cons_succ, List.getElem_cons_zero, List.setIfInBounds_toArray, List.set_cons_zero, List.set_cons_succ]
                refine wpAnyH_take (i := 6) (v := ?_) rfl (by kernel_rfl) (by kernel_rfl) (by kernel_rfl) (fun _ _ _ h => h) (Or.inl ⟨by rfl, ?_⟩) (by assumption) ?_
                rotate_left 1
                · (intro w hSw; (try dsimp only at hSw); go_simp; (try with_reducible rfl))
                try simp only [Act.put, List.getElem_toArray, List.getElem_cons_succ, List.getElem_cons_zero, List.setIfInBounds_toArray, List.set_cons_zero, List.set_cons_succ]
                refine wpAnyH_ready (rs := [7]) (by kernel_rfl) (by simp) ?_
                refine AllReadyH.cons rfl (fun K hK => ?_) AllReadyH.nil
                try simp only [List.getElem_toArray, List.getElem_cons_succ, List.getElem_cons_zero]
                go_simp
                refine hK.out _ _ ?_ (fun hHeld => ?_)
                · (go_keep)
                clear hK K
                try simp only [Act.put, List.getElem_toArray, List.getElem_cons_succ, List.getElem_cons_zero, List.setIfInBounds_toArray, List.set_cons_zero, List.set_cons_succ]
                refine wpAnyH_ready (rs := [8]) (by kernel_rfl) (by simp) ?_
                refine AllReadyH.cons rfl (fun K hK => ?_) AllReadyH.nil
                try simp only [List.getElem_toArray, List.getElem_cons_succ, List.getElem_cons_zero]
                go_simp
                refine hK.out _ _ ?_ (fun hHeld => ?_)
                · (go_keep)
                clear hK K
                try simp only [Act.put, List.getElem_toArray, List.getElem_cons_succ, List.getElem_cons_zero, List.setIfInBounds_toArray, List.set_cons_zero, List.set_cons_succ]
                refine wpAnyH_ready (rs := [11]) (by kernel_rfl) (by simp) ?_
                refine AllReadyH.cons rfl (fun K hK => ?_) AllReadyH.nil
                try simp only [List.getElem_toArray, List.getElem_cons_succ, List.getElem_cons_zero]
                go_simp
                (go_at_call 25; refine (HBR.out w10 _ (by (repeat (first | exact Step.refl _ | refine Step.alloc ?_ _ | refine Step.drew ?_ | refine Step.drewN ?_ _ | refine Step.setCell ?_ (by first | exact Nat.le_refl _ | assumption | omega | (simp; done) | (simp; omega)) _ | assumption | refine Step.trans ?_ (by assumption : Step _ _)))) HR10.out).mono ?_; rintro e w11 ⟨rv1, xv1, rfl, hr11, hx11, hS11⟩; obtain ⟨ra11, rc11, rfl, _⟩ := Ty.slice_val hr11; obtain ⟨xa11, xc11, rfl, _⟩ := Ty.slice_val hx11; have HR11 := Lib.hid hr11; have HX11 := Lib.hid hx11; clear hr11 hx11; have z11 : wr.heap.size < w11.heap.size := Nat.lt_of_lt_of_le (by first | assumption | omega | (simp; done) | (simp; omega)) hS11.size; have s11 : ∀ j, w11.cell? ⟨wr.heap.size, j, none⟩ = _ := fun j => hS11.cell (by first | assumption | omega | (simp; done) | (simp; omega)) j)
                refine hK.out _ _ ?_ (fun hHeld => ?_)
                · (go_keep)
                clear hK K
                try simp only [Act.put, List.getElem_toArray, List.getElem_cons_succ, List.getElem_cons_zero, List.setIfInBounds_toArray, List.set_cons_zero, List.set_cons_succ]
                refine wpAnyH_ready (rs := [12]) (by kernel_rfl) (by simp) ?_
                refine AllReadyH.cons rfl (fun K hK => ?_) AllReadyH.nil
                try simp only [List.getElem_toArray, List.getElem_cons_succ, List.getElem_cons_zero]
                go_simp
                refine hK.out _ _ ?_ (fun hHeld => ?_)
                · (go_keep)
                clear hK K
                try simp only [Act.put, List.getElem_toArray, List.getElem_cons_succ, List.getElem_cons_zero, List.setIfInBounds_toArray, List.set_cons_zero, List.set_cons_succ]
                refine wpAnyH_ready (rs := [13]) (by kernel_rfl) (by simp) ?_
                refine AllReadyH.cons rfl (fun K hK => ?_) AllReadyH.nil
                try simp only [List.getElem_toArray, List.getElem_cons_succ, List.getElem_cons_zero]
                refine ite_then rfl ?_; refine wp_append_gen (E := tOutcome) (B := w9.heap.size) (M := fun b => b = w2.heap.size) (ys := [O]) (.tmp 53) (.tmp 65) rfl stOuts (Own.step HA.out (by (repeat (first | exact Step.refl _ | refine Step.alloc ?_ _ | refine Step.drew ?_ | refine Step.drewN ?_ _ | refine Step.setCell ?_ (by first | exact Nat.le_refl _ | assumption | omega | (simp; done) | (simp; omega)) _ | assumption | refine Step.trans ?_ (by assumption : Step _ _))))) (Src.oneAt (E := tOutcome) (by simp) ⟨_, _, rfl, HIR.out.1, HIR.out.2, Ty.step _ (HYE.out ▸ HR11.out) (by (repeat (first | exact Step.refl _ | refine Step.alloc ?_ _ | refine Step.drew ?_ | refine Step.drewN ?_ _ | refine Step.setCell ?_ (by first | exact Nat.le_refl _ | assumption | omega | (simp; done) | (simp; omega)) _ | assumption | refine Step.trans ?_ (by assumption : Step _ _)))), Ty.step _ (HYE.out ▸ HX11.out) (by (repeat (first | exact Step.refl _ | refine Step.alloc ?_ _ | refine Step.drew ?_ | refine Step.drewN ?_ _ | refine Step.setCell ?_ (by first | exact Nat.le_refl _ | assumption | omega | (simp; done) | (simp; omega)) _ | assumption | refine Step.trans ?_ (by assumption : Step _ _))))⟩) hlim (by first | assumption | omega | (simp; done) | (simp; omega)) rfl rfl ?_; intro v12 w12 hA12 hG12 hn12; have s12 : ∀ j, w12.cell? ⟨wr.heap.size, j, none⟩ = _ := fun j => grown_cell hG12 (by first | assumption | omega | (simp; done) | (simp; omega)) (fun e => (by have := (HA.out.lt e).2; omega)) j; have HA12 := Lib.hid hA12; have HS12 := Lib.hid (Own.grown (w0 := w9) (Own.step HA.out (by (repeat (first | exact Step.refl _ | refine Step.alloc ?_ _ | refine Step.drew ?_ | refine Step.drewN ?_ _ | refine Step.setCell ?_ (by first | exact Nat.le_refl _ | assumption | omega | (simp; done) | (simp; omega)) _ | assumption | refine Step.trans ?_ (by assumption : Step _ _))))) (by (repeat (first | exact Step.refl _ | refine Step.alloc ?_ _ | refine Step.drew ?_ | refine Step.drewN ?_ _ | refine Step.setCell ?_ (by first | exact Nat.le_refl _ | assumption | omega | (simp; done) | (simp; omega)) _ | assumption | refine Step.trans ?_ (by assumption : Step _ _)))) hG12); clear hA12 hG12 hn12
                refine hK.out _ _ ?_ (fun hHeld => ?_)
                · (go_keep)
                clear hK K
                try simp only [Act.put, List.getElem_toArray, List.getElem_cons_succ, List.getElem_cons_zero, List.setIfInBounds_toArray, List.set_cons_zero, List.set_cons_succ]
                refine wpAnyH_take (i := 14) (v := ?_) rfl (by kernel_rfl) (by kernel_rfl) (by kernel_rfl) (fun _ _ _ h => h) (Or.inl ⟨by rfl, ?_⟩) (by assumption) ?_
                rotate_left 1
                · (intro w hSw; (try dsimp only at hSw); go_simp; (try with_reducible rfl))
                try simp only [Act.put, List.getElem_toArray, List.getElem_cons_succ, List.getElem_cons_zero, List.setIfInBounds_toArray, List.set_cons_zero, List.set_cons_succ]
                refine wpAnyH_done (by kernel_rfl) ?_ _
                go_wp2
                go_roundw
                case rel => exact ⟨k + 1, by go_num, by omega, by rw [HTK.out]; exact HA12.out, HS12.out⟩
                case measure => ((try simp [Go.RowKit.intOf]); omega)
              · obtain rfl : k = (partsB sm q (sm.length + 1)).length := by omega
                have hfull : (outsB P sm q).take (partsB sm q (sm.length + 1)).length = outsB P sm q := List.take_of_length_le (by rw [outsB_len]; exact Nat.le_refl _)
                rw [hfull] at HA
                obtain ⟨np, hnp⟩ : ∃ n, (partsB sm q (sm.length + 1)).length = n := ⟨_, rfl⟩
                have hj : ∀ (V : World) (ov : Value), Step wr V → (Ty.slice tOp).rep V (fun _ => False) [ov] q →
                    Calls Try.prog 35 #[ov, .slice pa np pc, .slice ra rn rc] V fun x w' => ∃ rv xv, x = .returned (.agg (jC D.err D.at_ rv xv)) ∧ (Ty.slice (Ty.slice tPair)).rep w' (fun b => b = w2.heap.size) [rv] D.rows ∧ (Ty.slice tWrite).rep w' (fun b => b = w2.heap.size) [xv] D.writes ∧ Step V w' := fun V ov hV ho => by
                  have h := joinParts_ (w := V) (Z := fun b => b = w2.heap.size) HP.out HGD.out ((check_same q).trans HC0.out) ho (Ty.step _ HP9.out (hS.trans hV)) (Ty.step _ (HA.out.rep' (fun b hb h => by have h' : b = w2.heap.size := h; have := (HA.out.lt hb).1; have := HW9.out.size; omega)) hV) (fun b h => by have h' : b = w2.heap.size := h; have := HW9.out.size; have := hS.size; have := hV.size; omega)
                  rw [HD.out, hnp] at h
                  exact h
                have HJ := Lib.hid hj
                have HWR := Lib.hid (HW9.out.trans hS)
                rw [hnp] at hk
                have hCr := HC.out.step (HW9.out.trans hS)
                have HCR := Lib.hid hCr
                have hz2w : w2.heap.size < wr.heap.size := hCr.lt
                clear hj hfull hS hCr
                simp only [hnp]
                go_upto_region 20 with (first
                  | (go_at_call 14; refine (OwnOps_ _ _ _ q (Ty.step _ HQ2.out (HB.out.trans (HWR.out.trans (by (repeat (first | exact Step.refl _ | refine Step.alloc ?_ _ | refine Step.drew ?_ | refine Step.drewN ?_ _ | refine Step.setCell ?_ (by first | exact Nat.le_refl _ | assumption | omega | (simp; done) | (simp; omega)) _ | assumption | refine Step.trans ?_ (by assumption : Step _ _)))))))).mono ?_; rintro e w13 ⟨v13, rfl, h13, hS13⟩; have h13' := (Own.less (M' := fun _ => False) h13 (fun _ _ h => h.elim)).rep' (fun _ _ h => h); obtain ⟨a13, c13, rfl, _⟩ := Ty.slice_val h13'; have HG13 := Lib.hid h13'; clear h13 h13')
                  | (go_at_call 35; refine (HJ.out _ _ (by (repeat (first | exact Step.refl _ | refine Step.alloc ?_ _ | refine Step.drew ?_ | refine Step.drewN ?_ _ | refine Step.setCell ?_ (by first | exact Nat.le_refl _ | assumption | omega | (simp; done) | (simp; omega)) _ | assumption | refine Step.trans ?_ (by assumption : Step _ _)))) HG13.out).mono ?_; rintro e w14 ⟨rv14, xv14, rfl, hr14, hx14, hS14⟩; obtain ⟨ra14, rc14, rfl, _⟩ := Ty.slice_val hr14; obtain ⟨xa14, xc14, rfl, _⟩ := Ty.slice_val hx14; have HR14 := Lib.hid hr14; have HX14 := Lib.hid hx14; clear hr14 hx14))
                have hS4 : Step wr w14 := by (repeat (first | exact Step.refl _ | refine Step.alloc ?_ _ | refine Step.drew ?_ | refine Step.drewN ?_ _ | refine Step.setCell ?_ (by first | exact Nat.le_refl _ | assumption | omega | (simp; done) | (simp; omega)) _ | assumption | refine Step.trans ?_ (by assumption : Step _ _)))
                have hC14 := HCR.out.step hS4
                have k0 := hC14.cell 0
                have k1 := hC14.cell 1
                have k2 := hC14.cell 2
                have k3 := hC14.cell 3
                have f0 := hC14.frozen 0
                have f1 := hC14.frozen 1
                have f2 := hC14.frozen 2
                have f3 := hC14.frozen 3
                have hz24 : w2.heap.size < w14.heap.size := hC14.lt
                have HC14 := Lib.hid hC14
                have HS4 := Lib.hid hS4
                clear hC14 hS4 hS13 hS14
                by_cases hn0 : n = 0
                · subst hn0
                  go_wp2
                  go_roundw
                  case rel => exact ⟨1, D.err, D.at_, _, _, by first | rfl | go_num, by omega, CellsAt.step (CellsAt.set (CellsAt.set (CellsAt.set (CellsAt.set HC14.out 0 _) 1 _) 2 _) 3 _) ((Step.refl _).alloc _), fun _ => ⟨rfl, rfl, Ty.step _ (Ty.kept _ (Ty.kept _ (Ty.kept _ (Ty.kept _ HR14.out (Kept.setCell _ _ _ rfl)) (Kept.setCell _ _ _ rfl)) (Kept.setCell _ _ _ rfl)) (Kept.setCell _ _ _ rfl)) ((Step.refl _).alloc _), Ty.step _ (Ty.kept _ (Ty.kept _ (Ty.kept _ (Ty.kept _ HX14.out (Kept.setCell _ _ _ rfl)) (Kept.setCell _ _ _ rfl)) (Kept.setCell _ _ _ rfl)) (Kept.setCell _ _ _ rfl)) ((Step.refl _).alloc _)⟩, Step.alloc (Step.setCell (Step.setCell (Step.setCell (Step.setCell (HB.out.trans (HWR.out.trans HS4.out)) (Nat.le_refl _) _) (Nat.le_refl _) _) (Nat.le_refl _) _) (Nat.le_refl _) _) _⟩
                  case measure => first | (simp [Go.RowKit.intOf]; done) | ((try simp [Go.RowKit.intOf]); omega)
                · obtain ⟨he, ha, hr, hx⟩ := HF.out (by omega)
                  subst he ha
                  obtain ⟨fa, fc, rfl, _⟩ := Ty.slice_val hr
                  obtain ⟨ga0, gc0, rfl, _⟩ := Ty.slice_val hx
                  have HFR := Lib.hid (Ty.step _ hr (HWR.out.trans HS4.out))
                  have HFX := Lib.hid (Ty.step _ hx (HWR.out.trans HS4.out))
                  clear hr hx
                  have hn1 : ((n : Int) == 0) = false := beq_eq_false_iff_ne.2 (by omega)
                  go_wp2_with (go_at_call 28; refine (OutcomeIs_ (Ty.step _ HR14.out (by (repeat (first | exact Step.refl _ | refine Step.alloc ?_ _ | refine Step.drew ?_ | refine Step.drewN ?_ _ | refine Step.setCell ?_ (by first | exact Nat.le_refl _ | assumption | omega | (simp; done) | (simp; omega)) _ | assumption | refine Step.trans ?_ (by assumption : Step _ _))))) (Ty.step _ HX14.out (by (repeat (first | exact Step.refl _ | refine Step.alloc ?_ _ | refine Step.drew ?_ | refine Step.drewN ?_ _ | refine Step.setCell ?_ (by first | exact Nat.le_refl _ | assumption | omega | (simp; done) | (simp; omega)) _ | assumption | refine Step.trans ?_ (by assumption : Step _ _))))) (Ty.step _ HFR.out (by (repeat (first | exact Step.refl _ | refine Step.alloc ?_ _ | refine Step.drew ?_ | refine Step.drewN ?_ _ | refine Step.setCell ?_ (by first | exact Nat.le_refl _ | assumption | omega | (simp; done) | (simp; omega)) _ | assumption | refine Step.trans ?_ (by assumption : Step _ _))))) (Ty.step _ HFX.out (by (repeat (first | exact Step.refl _ | refine Step.alloc ?_ _ | refine Step.drew ?_ | refine Step.drewN ?_ _ | refine Step.setCell ?_ (by first | exact Nat.le_refl _ | assumption | omega | (simp; done) | (simp; omega)) _ | assumption | refine Step.trans ?_ (by assumption : Step _ _)))))).mono ?_; rintro e w15 ⟨rfl, hS15⟩)
                  go_roundw
                  case rel => exact ⟨n + 1, D.err, D.at_, _, _, by go_num, by omega, HC14.out.step (by (repeat (first | exact Step.refl _ | refine Step.alloc ?_ _ | refine Step.drew ?_ | refine Step.drewN ?_ _ | refine Step.setCell ?_ (by first | exact Nat.le_refl _ | assumption | omega | (simp; done) | (simp; omega)) _ | assumption | refine Step.trans ?_ (by assumption : Step _ _)))), fun _ => ⟨rfl, rfl, Ty.step _ HFR.out (by (repeat (first | exact Step.refl _ | refine Step.alloc ?_ _ | refine Step.drew ?_ | refine Step.drewN ?_ _ | refine Step.setCell ?_ (by first | exact Nat.le_refl _ | assumption | omega | (simp; done) | (simp; omega)) _ | assumption | refine Step.trans ?_ (by assumption : Step _ _)))), Ty.step _ HFX.out (by (repeat (first | exact Step.refl _ | refine Step.alloc ?_ _ | refine Step.drew ?_ | refine Step.drewN ?_ _ | refine Step.setCell ?_ (by first | exact Nat.le_refl _ | assumption | omega | (simp; done) | (simp; omega)) _ | assumption | refine Step.trans ?_ (by assumption : Step _ _))))⟩, HB.out.trans (HWR.out.trans (HS4.out.trans (by (repeat (first | exact Step.refl _ | refine Step.alloc ?_ _ | refine Step.drew ?_ | refine Step.drewN ?_ _ | refine Step.setCell ?_ (by first | exact Nat.le_refl _ | assumption | omega | (simp; done) | (simp; omega)) _ | assumption | refine Step.trans ?_ (by assumption : Step _ _))))))⟩
                  case measure => ((try simp [Go.RowKit.intOf]); omega)

          · obtain ⟨b, off, es, hsa, _⟩ := Ty.slice_at HS2.out (by omega : 0 < sp.length)
            subst hsa
            obtain ⟨X, hX⟩ : ∃ X : Option Addr, X = (if sc = sp.length - n then (some ⟨b, off, none⟩ : Option Addr) else some ⟨b, off + (sp.length - n), none⟩) := ⟨_, rfl⟩
            have hdr := Ty.slice_drop (k := sp.length - n) rfl HS2.out (by omega)
            rw [← hX] at hdr
            have hgd := HGS.out.drop (sp.length - n)
            have hdl := hgd.len
            obtain ⟨sm, hsm⟩ : ∃ s, s = sp.drop (sp.length - n) := ⟨_, rfl⟩
            have hsl2 : sp.length - (sp.length - n) = sm.length := by rw [hsm, List.length_drop]
            rw [← hsm] at hdr hgd hdl
            rw [hsl2] at hdr
            have HSM := Lib.hid hdr
            have HGD := Lib.hid hgd
            clear hdr hgd hsm
            go_upto_region 12 with fail
            rw [← hX]
            clear hX
            go_upto_region 13 with (first
              | (go_at_call 33; refine (Copies_ _ _ _ sm (Ty.step _ HSM.out HB.out)).mono ?_; rintro e w7 ⟨v7, rfl, h7, hS7⟩; have h7' := (Own.less (M' := fun _ => False) h7 (fun _ _ h => h.elim)).rep' (fun _ _ h => h); obtain ⟨ca, cc, rfl, _⟩ := Ty.slice_val h7'; have HC7 := Lib.hid h7'; clear h7 h7')
              | (go_at_call 14; refine (OwnOps_ _ _ _ q (Ty.step _ HQ2.out (HB.out.trans (by (repeat (first | exact Step.refl _ | refine Step.alloc ?_ _ | refine Step.drew ?_ | refine Step.drewN ?_ _ | refine Step.setCell ?_ (by first | exact Nat.le_refl _ | assumption | omega | (simp; done) | (simp; omega)) _ | assumption | refine Step.trans ?_ (by assumption : Step _ _))))))).mono ?_; rintro e w8 ⟨v8, rfl, h8, hS8⟩; have h8' := (Own.less (M' := fun _ => False) h8 (fun _ _ h => h.elim)).rep' (fun _ _ h => h); obtain ⟨ga, gc, rfl, _⟩ := Ty.slice_val h8'; have HG8 := Lib.hid h8'; clear h8 h8')
              | (go_at_call 32; refine (Parts_ _ (fun _ => False) _ _ sm q (Ty.step _ HC7.out (by (repeat (first | exact Step.refl _ | refine Step.alloc ?_ _ | refine Step.drew ?_ | refine Step.drewN ?_ _ | refine Step.setCell ?_ (by first | exact Nat.le_refl _ | assumption | omega | (simp; done) | (simp; omega)) _ | assumption | refine Step.trans ?_ (by assumption : Step _ _))))) (Ty.step _ HG8.out (by (repeat (first | exact Step.refl _ | refine Step.alloc ?_ _ | refine Step.drew ?_ | refine Step.drewN ?_ _ | refine Step.setCell ?_ (by first | exact Nat.le_refl _ | assumption | omega | (simp; done) | (simp; omega)) _ | assumption | refine Step.trans ?_ (by assumption : Step _ _))))) (by omega) (by omega)).mono ?_; rintro e w9 ⟨v9, rfl, h9, hS9⟩; have h9' := (Own.less (M' := fun b => b = w2.heap.size) h9 (fun b _ h => (by have h' : b = w2.heap.size := h; have q1 := hS7.size; have q2 := hS8.size; (try simp only [World.size_alloc, World.size_drewN] at q1 q2); omega))).rep' (fun b hb h => (by have h' : b = w2.heap.size := h; have q0 := (h9.lt hb).1; have q1 := hS7.size; have q2 := hS8.size; (try simp only [World.size_alloc, World.size_drewN] at q0 q1 q2); omega)); obtain ⟨pa, pc, rfl, _⟩ := Ty.slice_val h9'; have HP9 := Lib.hid h9'; clear h9 h9'))
            have hw9 : Step wr w9 := by (repeat (first | exact Step.refl _ | refine Step.alloc ?_ _ | refine Step.drew ?_ | refine Step.drewN ?_ _ | refine Step.setCell ?_ (by first | exact Nat.le_refl _ | assumption | omega | (simp; done) | (simp; omega)) _ | assumption | refine Step.trans ?_ (by assumption : Step _ _)))
            have HW9 := Lib.hid hw9
            clear hw9 hS7 hS8 hS9
            obtain ⟨wo, hwo⟩ : ∃ x, x = wr := ⟨_, rfl⟩
            subst hwo
            go_wp2
            go_loopw [12, 49] (fun o i w' => ∃ k : Nat, i = .int .i64 k ∧ k ≤ (partsB sm q (sm.length + 1)).length ∧ Gr.Own tOutcome 41 w' (fun b => b = w2.heap.size) w9.heap.size o ((outsB P sm q).take k) ∧ Step w9 w') (fun _ i _ => (partsB sm q (sm.length + 1)).length - (Go.RowKit.intOf i).toNat)
            case atStart => exact ⟨0, rfl, by omega, Gr.Own.nil, Step.refl _⟩
            case round =>
              obtain ⟨k, rfl, hk, hA, hS⟩ := hrel
              obtain ⟨ra, rn, rc, rfl, HRN⟩ := hA.valN
              have HA := Lib.hid hA
              clear hA
              by_cases hlt2 : k < (partsB sm q (sm.length + 1)).length
              · have hB := hS
                obtain ⟨pb, po, pes, rfl, phb, _, pu, pcu⟩ := Ty.slice_at HP9.out hlt2
                obtain ⟨pc1, pc2, rfl, ph0, ph1, ph2⟩ := pu
                have pq0 := (Step.cell (w' := wr) (by (repeat (first | exact Step.refl _ | refine Step.alloc ?_ _ | refine Step.drew ?_ | refine Step.drewN ?_ _ | refine Step.setCell ?_ (by first | exact Nat.le_refl _ | assumption | omega | (simp; done) | (simp; omega)) _ | assumption | refine Step.trans ?_ (by assumption : Step _ _)))) phb _).trans (pcu 0 _ rfl)
                have pq1 := (Step.cell (w' := wr) (by (repeat (first | exact Step.refl _ | refine Step.alloc ?_ _ | refine Step.drew ?_ | refine Step.drewN ?_ _ | refine Step.setCell ?_ (by first | exact Nat.le_refl _ | assumption | omega | (simp; done) | (simp; omega)) _ | assumption | refine Step.trans ?_ (by assumption : Step _ _)))) phb _).trans (pcu 1 _ rfl)
                have pq2 := (Step.cell (w' := wr) (by (repeat (first | exact Step.refl _ | refine Step.alloc ?_ _ | refine Step.drew ?_ | refine Step.drewN ?_ _ | refine Step.setCell ?_ (by first | exact Nat.le_refl _ | assumption | omega | (simp; done) | (simp; omega)) _ | assumption | refine Step.trans ?_ (by assumption : Step _ _)))) phb _).trans (pcu 2 _ rfl)
                simp only [show tPart.n = 3 from rfl, Nat.add_zero] at pq0 pq1 pq2
                obtain ⟨pa1, pn1, rfl, _⟩ := Ty.slice_val ph1
                obtain ⟨pa2, pn2, rfl, _⟩ := Ty.slice_val ph2
                have pH0 := Lib.hid ph0
                have pH1 := Lib.hid ph1
                have pH2 := Lib.hid ph2
                clear pcu ph0 ph1 ph2
                obtain ⟨s, hs1, hps⟩ := partsB_at hlt2
                have hsh : (partsB sm q (sm.length + 1))[k].shard = (s : Int) := by rw [hps]; rfl
                rw [hsh] at pq0
                have hok2 : k < (outsB P sm q).length := by rw [outsB_len]; exact hlt2
                have hat := outsB_at (P := P) hlt2 hok2
                have hir := outs_range HGD.out ((check_same q).trans HC0.out) (by omega) _ (List.getElem_mem (l := outsB P sm q) hok2)
                have htk := List.take_succ_eq_append_getElem hok2
                rw [hsh, Int.toNat_natCast] at hat
                obtain ⟨O, hO⟩ : ∃ O, (outsB P sm q)[k] = O := ⟨_, rfl⟩
                rw [hO] at hat hir htk
                obtain ⟨pt, hpt⟩ : ∃ pt, (partsB sm q (sm.length + 1))[k] = pt := ⟨_, rfl⟩
                rw [hpt] at hat
                have HP1 := pH1.out
                rw [hpt] at HP1
                rw [hpt] at pq1 pq2
                have HIR := Lib.hid hir
                have HTK := Lib.hid htk
                have hpl16 : (partsB sm q (sm.length + 1)).length ≤ 16 := Nat.le_trans partsB_le (by omega)
                have z9r := hS.size
                have z29 := HW9.out.size
                have z2o := HB.out.size
                have z2w := hz2r
                have hlim : ((outsB P sm q).take k).length + 1 ≤ lim := by
                  have h1 := partsPO_len (P := P) (sp := sm) (ops := q)
                  have h2 : (outsB P sm q).length ≤ 16 := by unfold outsB; rw [List.length_map]; omega
                  rw [List.length_take, lim_eq]
                  omega
                obtain ⟨Y, hYe⟩ : ∃ Y : Nat → Prop, Y = fun b => b = w2.heap.size ∨ (Value.slice ra rn rc).ownBlock = some b := ⟨_, rfl⟩
                have hYb : ∀ b, Y b → w2.heap.size ≤ b ∧ b < wr.heap.size := fun b hb => by
                  rw [hYe] at hb
                  rcases hb with hb | hb
                  · have h' : b = w2.heap.size := hb
                    omega
                  · have := HA.out.lt hb
                    omega
                have hY9 : ∀ b, Y b → b < w9.heap.size → b = w2.heap.size := fun b hb h => by
                  rw [hYe] at hb
                  rcases hb with hb | hb
                  · exact hb
                  · have := (HA.out.lt hb).1
                    omega
                have hLY : (Ty.slice tPair).rep wr Y [.slice la P.length lc] P := Ty.young HL.out ((HB.out.trans HW9.out).trans hS) (fun b hb => (hYb b hb).1)
                have hSY := Ty.young (Y := Y) HSM.out (HB.out.trans (HW9.out.trans hS)) (fun b hb => (hYb b hb).1)
                have hOY : (Ty.slice tOp).rep wr Y [.slice pa1 pt.ops.length pn1] pt.ops := Ty.keep _ HP1 (fun b hb hm => ⟨hS.heap hb, fun hy => hm (hY9 b hy hb)⟩)
                have HSH := Lib.hid (fun (V : World) (hV : Step wr V) => refShard_ (s := s) (Ty.step _ hLY hV) (Ty.step _ hSY hV))
                have hbr : ∀ (V : World) (lv : Value), Step wr V → (Ty.slice tPair).rep V Y [lv] (shardB P sm s) →
                    Calls Try.prog 25 #[.iface 62 (.pointer (some ⟨V.heap.size, 0, none⟩)), .slice pa1 pt.ops.length pn1] (V.alloc (.cells #[lv, .slice none 0 0, .int .i64 0] 65)) fun e w' => ∃ rv xv, e = .returned (.agg (outC O.err O.at_ rv xv)) ∧
                      (Ty.slice (Ty.slice tPair)).rep w' Y [rv] O.rows ∧ (Ty.slice tWrite).rep w' Y [xv] O.writes ∧ Step V w' := fun V lv hV hl => by
                  have h := brPart_ (Y := Y) (W := V) (fun b hb => by have := (hYb b hb).2; have := hV.size; omega) hl (Ty.step _ hOY hV) (shardB_rising HP.out sm s) (by have := shardB_len P sm s; omega)
                  rw [← hat] at h
                  exact h
                have HBR := Lib.hid hbr
                have HYB := Lib.hid hYb
                have HYE := Lib.hid hYe
                clear hLY hSY hOY hbr hYb hYe hY9 hat hps hsh hO hir htk hpt HP1
                go_upto_region 17 with fail
                refine wp_region_held_drew (S := (fun w' => w'.cell? ⟨wr.heap.size, 0, none⟩ = some (.int .i64 (s : Int)) ∧ w'.cell? ⟨wr.heap.size, 1, none⟩ = some (.slice pa1 pt.ops.length pn1))) (by kernel_rfl) ?_ (fun hHeld => ?_)
                · (go_keep)
                refine wpAnyH_take (i := 0) (v := ?_) rfl (by kernel_rfl) (by kernel_rfl) (by kernel_rfl) (fun _ _ _ h => h) (Or.inl ⟨by rfl, ?_⟩) (by assumption) ?_
                rotate_left 1
                · (intro w hSw; (try dsimp only at hSw); go_simp; (try with_reducible rfl))
                try simp only [Act.put, List.getElem_toArray, List.getElem_cons_succ, List.getElem_cons_zero, List.setIfInBounds_toArray, List.set_cons_zero, List.set_cons_succ]
                refine wpAnyH_take (i := 1) (v := ?_) rfl (by kernel_rfl) (by kernel_rfl) (by kernel_rfl) (fun _ _ _ h => h) (Or.inl ⟨by rfl, ?_⟩) (by assumption) ?_
                rotate_left 1
                · (intro w hSw; (try dsimp only at hSw); go_simp; (try with_reducible rfl))
                try simp only [Act.put, List.getElem_toArray, List.getElem_cons_succ, List.getElem_cons_zero, List.setIfInBounds_toArray, List.set_cons_zero, List.set_cons_succ]
                refine wpAnyH_take (i := 2) (v := ?_) rfl (by kernel_rfl) (by kernel_rfl) (by kernel_rfl) (fun _ _ _ h => h) (Or.inl ⟨by rfl, ?_⟩) (by assumption) ?_
                rotate_left 1
                · (intro w hSw; (try dsimp only at hSw); go_simp; (try with_reducible rfl))
                try simp only [Act.put, List.getElem_toArray, List.getElem_cons_succ, List.getElem_cons_zero, List.setIfInBounds_toArray, List.set_cons_zero, List.set_cons_succ]
                refine wpAnyH_take (i := 3) (v := ?_) rfl (by kernel_rfl) (by kernel_rfl) (by kernel_rfl) (fun _ _ _ h => h) (Or.inl ⟨by rfl, ?_⟩) (by assumption) ?_
                rotate_left 1
                · (intro w hSw; (try dsimp only at hSw); go_simp; (try with_reducible rfl))
                try simp only [Act.put, List.getElem_toArray, List.getElem_cons_succ, List.getElem_cons_zero, List.setIfInBounds_toArray, List.set_cons_zero, List.set_cons_succ]
                refine wpAnyH_take (i := 4) (v := ?_) rfl (by kernel_rfl) (by kernel_rfl) (by kernel_rfl) (fun _ _ _ h => h) (Or.inl ⟨by rfl, ?_⟩) (by assumption) ?_
                rotate_left 1
                · (intro w hSw; (try dsimp only at hSw); go_simp; (try with_reducible rfl))
                try simp only [Act.put, List.getElem_toArray, List.getElem_cons_succ, List.getElem_cons_zero, List.setIfInBounds_toArray, List.set_cons_zero, List.set_cons_succ]
                refine wpAnyH_take (i := 9) (v := ?_) rfl (by kernel_rfl) (by kernel_rfl) (by kernel_rfl) (fun _ _ _ h => h) (Or.inl ⟨by rfl, ?_⟩) (by assumption) ?_
                rotate_left 1
                · (intro w hSw; (try dsimp only at hSw); go_simp; (try with_reducible rfl))
                try simp only [Act.put, List.getElem_toArray, List.getElem_cons_succ, List.getElem_cons_zero, List.setIfInBounds_toArray, List.set_cons_zero, List.set_cons_succ]
                refine wpAnyH_take (i := 10) (v := ?_) rfl (by kernel_rfl) (by kernel_rfl) (by kernel_rfl) (fun _ _ _ h => h) (Or.inl ⟨by rfl, ?_⟩) (by assumption) ?_
                rotate_left 1
                · (intro w hSw; (try dsimp only at hSw); go_simp; (try with_reducible rfl))
                try simp only [Act.put, List.getElem_toArray, List.getElem_cons_succ, List.getElem_cons_zero, List.setIfInBounds_toArray, List.set_cons_zero, List.set_cons_succ]
                refine wpAnyH_ready (rs := [5]) (by kernel_rfl) (by simp) ?_
                refine AllReadyH.cons rfl (fun K hK => ?_) AllReadyH.nil
                try simp only [List.getElem_toArray, List.getElem_cons_succ, List.getElem_cons_zero]
                go_simp
                (go_at_call 34; refine (HSH.out _ (by (repeat (first | exact Step.refl _ | refine Step.alloc ?_ _ | refine Step.drew ?_ | refine Step.drewN ?_ _ | refine Step.setCell ?_ (by first | exact Nat.le_refl _ | assumption | omega | (simp; done) | (simp; omega)) _ | assumption | refine Step.trans ?_ (by assumption : Step _ _))))).mono ?_; rintro e w10 ⟨v10, rfl, hA10, hS10⟩; obtain ⟨a10, n10, c10, rfl, HN10⟩ := hA10.valN; have HR10 := Lib.hid (hA10.rep' (fun b hb hy => (by have h1 := (hA10.lt hb).1; have h2 := (HYB.out b hy).2; (try simp only [World.size_alloc, World.size_drew] at h1); omega))); clear hA10; have z10 : wr.heap.size < w10.heap.size := Nat.lt_of_lt_of_le (by first | assumption | omega | (simp; done) | (simp; omega)) hS10.size; have s10 : ∀ j, w10.cell? ⟨wr.heap.size, j, none⟩ = _ := fun j => hS10.cell (by first | assumption | omega | (simp; done) | (simp; omega)) j)
                refine hK.out _ _ ?_ (fun hHeld => ?_)
                · (go_keep)
                clear hK K
                try simp only [Act.put, List.getElem_toArray, List.getElem_cons_succ, List.getElem_cons_zero, List.setIfInBounds_toArray, List.set_cons_zero, List.set_cons_succ]
                refine wpAnyH_take (i := 6) (v := ?_) rfl (by kernel_rfl) (by kernel_rfl) (by kernel_rfl) (fun _ _ _ h => h) (Or.inl ⟨by rfl, ?_⟩) (by assumption) ?_
                rotate_left 1
                · (intro w hSw; (try dsimp only at hSw); go_simp; (try with_reducible rfl))
                try simp only [Act.put, List.getElem_toArray, List.getElem_cons_succ, List.getElem_cons_zero, List.setIfInBounds_toArray, List.set_cons_zero, List.set_cons_succ]
                refine wpAnyH_ready (rs := [7]) (by kernel_rfl) (by simp) ?_
                refine AllReadyH.cons rfl (fun K hK => ?_) AllReadyH.nil
                try simp only [List.getElem_toArray, List.getElem_cons_succ, List.getElem_cons_zero]
                go_simp
                refine hK.out _ _ ?_ (fun hHeld => ?_)
                · (go_keep)
                clear hK K
                try simp only [Act.put, List.getElem_toArray, List.getElem_cons_succ, List.getElem_cons_zero, List.setIfInBounds_toArray, List.set_cons_zero, List.set_cons_succ]
                refine wpAnyH_ready (rs := [8]) (by kernel_rfl) (by simp) ?_
                refine AllReadyH.cons rfl (fun K hK => ?_) AllReadyH.nil
                try simp only [List.getElem_toArray, List.getElem_cons_succ, List.getElem_cons_zero]
                go_simp
                refine hK.out _ _ ?_ (fun hHeld => ?_)
                · (go_keep)
                clear hK K
                try simp only [Act.put, List.getElem_toArray, List.getElem_cons_succ, List.getElem_cons_zero, List.setIfInBounds_toArray, List.set_cons_zero, List.set_cons_succ]
                refine wpAnyH_ready (rs := [11]) (by kernel_rfl) (by simp) ?_
                refine AllReadyH.cons rfl (fun K hK => ?_) AllReadyH.nil
                try simp only [List.getElem_toArray, List.getElem_cons_succ, List.getElem_cons_zero]
                go_simp
                (go_at_call 25; refine (HBR.out w10 _ (by (repeat (first | exact Step.refl _ | refine Step.alloc ?_ _ | refine Step.drew ?_ | refine Step.drewN ?_ _ | refine Step.setCell ?_ (by first | exact Nat.le_refl _ | assumption | omega | (simp; done) | (simp; omega)) _ | assumption | refine Step.trans ?_ (by assumption : Step _ _)))) HR10.out).mono ?_; rintro e w11 ⟨rv1, xv1, rfl, hr11, hx11, hS11⟩; obtain ⟨ra11, rc11, rfl, _⟩ := Ty.slice_val hr11; obtain ⟨xa11, xc11, rfl, _⟩ := Ty.slice_val hx11; have HR11 := Lib.hid hr11; have HX11 := Lib.hid hx11; clear hr11 hx11; have z11 : wr.heap.size < w11.heap.size := Nat.lt_of_lt_of_le (by first | assumption | omega | (simp; done) | (simp; omega)) hS11.size; have s11 : ∀ j, w11.cell? ⟨wr.heap.size, j, none⟩ = _ := fun j => hS11.cell (by first | assumption | omega | (simp; done) | (simp; omega)) j)
                refine hK.out _ _ ?_ (fun hHeld => ?_)
                · (go_keep)
                clear hK K
                try simp only [Act.put, List.getElem_toArray, List.getElem_cons_succ, List.getElem_cons_zero, List.setIfInBounds_toArray, List.set_cons_zero, List.set_cons_succ]
                refine wpAnyH_ready (rs := [12]) (by kernel_rfl) (by simp) ?_
                refine AllReadyH.cons rfl (fun K hK => ?_) AllReadyH.nil
                try simp only [List.getElem_toArray, List.getElem_cons_succ, List.getElem_cons_zero]
                go_simp
                refine hK.out _ _ ?_ (fun hHeld => ?_)
                · (go_keep)
                clear hK K
                try simp only [Act.put, List.getElem_toArray, List.getElem_cons_succ, List.getElem_cons_zero, List.setIfInBounds_toArray, List.set_cons_zero, List.set_cons_succ]
                refine wpAnyH_ready (rs := [13]) (by kernel_rfl) (by simp) ?_
                refine AllReadyH.cons rfl (fun K hK => ?_) AllReadyH.nil
                try simp only [List.getElem_toArray, List.getElem_cons_succ, List.getElem_cons_zero]
                refine ite_then rfl ?_; refine wp_append_gen (E := tOutcome) (B := w9.heap.size) (M := fun b => b = w2.heap.size) (ys := [O]) (.tmp 53) (.tmp 65) rfl stOuts (Own.step HA.out (by (repeat (first | exact Step.refl _ | refine Step.alloc ?_ _ | refine Step.drew ?_ | refine Step.drewN ?_ _ | refine Step.setCell ?_ (by first | exact Nat.le_refl _ | assumption | omega | (simp; done) | (simp; omega)) _ | assumption | refine Step.trans ?_ (by assumption : Step _ _))))) (Src.oneAt (E := tOutcome) (by simp) ⟨_, _, rfl, HIR.out.1, HIR.out.2, Ty.step _ (HYE.out ▸ HR11.out) (by (repeat (first | exact Step.refl _ | refine Step.alloc ?_ _ | refine Step.drew ?_ | refine Step.drewN ?_ _ | refine Step.setCell ?_ (by first | exact Nat.le_refl _ | assumption | omega | (simp; done) | (simp; omega)) _ | assumption | refine Step.trans ?_ (by assumption : Step _ _)))), Ty.step _ (HYE.out ▸ HX11.out) (by (repeat (first | exact Step.refl _ | refine Step.alloc ?_ _ | refine Step.drew ?_ | refine Step.drewN ?_ _ | refine Step.setCell ?_ (by first | exact Nat.le_refl _ | assumption | omega | (simp; done) | (simp; omega)) _ | assumption | refine Step.trans ?_ (by assumption : Step _ _))))⟩) hlim (by first | assumption | omega | (simp; done) | (simp; omega)) rfl rfl ?_; intro v12 w12 hA12 hG12 hn12; have s12 : ∀ j, w12.cell? ⟨wr.heap.size, j, none⟩ = _ := fun j => grown_cell hG12 (by first | assumption | omega | (simp; done) | (simp; omega)) (fun e => (by have := (HA.out.lt e).2; omega)) j; have HA12 := Lib.hid hA12; have HS12 := Lib.hid (Own.grown (w0 := w9) (Own.step HA.out (by (repeat (first | exact Step.refl _ | refine Step.alloc ?_ _ | refine Step.drew ?_ | refine Step.drewN ?_ _ | refine Step.setCell ?_ (by first | exact Nat.le_refl _ | assumption | omega | (simp; done) | (simp; omega)) _ | assumption | refine Step.trans ?_ (by assumption : Step _ _))))) (by (repeat (first | exact Step.refl _ | refine Step.alloc ?_ _ | refine Step.drew ?_ | refine Step.drewN ?_ _ | refine Step.setCell ?_ (by first | exact Nat.le_refl _ | assumption | omega | (simp; done) | (simp; omega)) _ | assumption | refine Step.trans ?_ (by assumption : Step _ _)))) hG12); clear hA12 hG12 hn12
                refine hK.out _ _ ?_ (fun hHeld => ?_)
                · (go_keep)
                clear hK K
                try simp only [Act.put, List.getElem_toArray, List.getElem_cons_succ, List.getElem_cons_zero, List.setIfInBounds_toArray, List.set_cons_zero, List.set_cons_succ]
                refine wpAnyH_take (i := 14) (v := ?_) rfl (by kernel_rfl) (by kernel_rfl) (by kernel_rfl) (fun _ _ _ h => h) (Or.inl ⟨by rfl, ?_⟩) (by assumption) ?_
                rotate_left 1
                · (intro w hSw; (try dsimp only at hSw); go_simp; (try with_reducible rfl))
                try simp only [Act.put, List.getElem_toArray, List.getElem_cons_succ, List.getElem_cons_zero, List.setIfInBounds_toArray, List.set_cons_zero, List.set_cons_succ]
                refine wpAnyH_done (by kernel_rfl) ?_ _
                go_wp2
                go_roundw
                case rel => exact ⟨k + 1, by go_num, by omega, by rw [HTK.out]; exact HA12.out, HS12.out⟩
                case measure => ((try simp [Go.RowKit.intOf]); omega)
              · obtain rfl : k = (partsB sm q (sm.length + 1)).length := by omega
                have hfull : (outsB P sm q).take (partsB sm q (sm.length + 1)).length = outsB P sm q := List.take_of_length_le (by rw [outsB_len]; exact Nat.le_refl _)
                rw [hfull] at HA
                obtain ⟨np, hnp⟩ : ∃ n, (partsB sm q (sm.length + 1)).length = n := ⟨_, rfl⟩
                have hj : ∀ (V : World) (ov : Value), Step wr V → (Ty.slice tOp).rep V (fun _ => False) [ov] q →
                    Calls Try.prog 35 #[ov, .slice pa np pc, .slice ra rn rc] V fun x w' => ∃ rv xv, x = .returned (.agg (jC D.err D.at_ rv xv)) ∧ (Ty.slice (Ty.slice tPair)).rep w' (fun b => b = w2.heap.size) [rv] D.rows ∧ (Ty.slice tWrite).rep w' (fun b => b = w2.heap.size) [xv] D.writes ∧ Step V w' := fun V ov hV ho => by
                  have h := joinParts_ (w := V) (Z := fun b => b = w2.heap.size) HP.out HGD.out ((check_same q).trans HC0.out) ho (Ty.step _ HP9.out (hS.trans hV)) (Ty.step _ (HA.out.rep' (fun b hb h => by have h' : b = w2.heap.size := h; have := (HA.out.lt hb).1; have := HW9.out.size; omega)) hV) (fun b h => by have h' : b = w2.heap.size := h; have := HW9.out.size; have := hS.size; have := hV.size; omega)
                  rw [HD.out, hnp] at h
                  exact h
                have HJ := Lib.hid hj
                have HWR := Lib.hid (HW9.out.trans hS)
                rw [hnp] at hk
                have hCr := HC.out.step (HW9.out.trans hS)
                have HCR := Lib.hid hCr
                have hz2w : w2.heap.size < wr.heap.size := hCr.lt
                clear hj hfull hS hCr
                simp only [hnp]
                go_upto_region 20 with (first
                  | (go_at_call 14; refine (OwnOps_ _ _ _ q (Ty.step _ HQ2.out (HB.out.trans (HWR.out.trans (by (repeat (first | exact Step.refl _ | refine Step.alloc ?_ _ | refine Step.drew ?_ | refine Step.drewN ?_ _ | refine Step.setCell ?_ (by first | exact Nat.le_refl _ | assumption | omega | (simp; done) | (simp; omega)) _ | assumption | refine Step.trans ?_ (by assumption : Step _ _)))))))).mono ?_; rintro e w13 ⟨v13, rfl, h13, hS13⟩; have h13' := (Own.less (M' := fun _ => False) h13 (fun _ _ h => h.elim)).rep' (fun _ _ h => h); obtain ⟨a13, c13, rfl, _⟩ := Ty.slice_val h13'; have HG13 := Lib.hid h13'; clear h13 h13')
                  | (go_at_call 35; refine (HJ.out _ _ (by (repeat (first | exact Step.refl _ | refine Step.alloc ?_ _ | refine Step.drew ?_ | refine Step.drewN ?_ _ | refine Step.setCell ?_ (by first | exact Nat.le_refl _ | assumption | omega | (simp; done) | (simp; omega)) _ | assumption | refine Step.trans ?_ (by assumption : Step _ _)))) HG13.out).mono ?_; rintro e w14 ⟨rv14, xv14, rfl, hr14, hx14, hS14⟩; obtain ⟨ra14, rc14, rfl, _⟩ := Ty.slice_val hr14; obtain ⟨xa14, xc14, rfl, _⟩ := Ty.slice_val hx14; have HR14 := Lib.hid hr14; have HX14 := Lib.hid hx14; clear hr14 hx14))
                have hS4 : Step wr w14 := by (repeat (first | exact Step.refl _ | refine Step.alloc ?_ _ | refine Step.drew ?_ | refine Step.drewN ?_ _ | refine Step.setCell ?_ (by first | exact Nat.le_refl _ | assumption | omega | (simp; done) | (simp; omega)) _ | assumption | refine Step.trans ?_ (by assumption : Step _ _)))
                have hC14 := HCR.out.step hS4
                have k0 := hC14.cell 0
                have k1 := hC14.cell 1
                have k2 := hC14.cell 2
                have k3 := hC14.cell 3
                have f0 := hC14.frozen 0
                have f1 := hC14.frozen 1
                have f2 := hC14.frozen 2
                have f3 := hC14.frozen 3
                have hz24 : w2.heap.size < w14.heap.size := hC14.lt
                have HC14 := Lib.hid hC14
                have HS4 := Lib.hid hS4
                clear hC14 hS4 hS13 hS14
                by_cases hn0 : n = 0
                · subst hn0
                  go_wp2
                  go_roundw
                  case rel => exact ⟨1, D.err, D.at_, _, _, by first | rfl | go_num, by omega, CellsAt.step (CellsAt.set (CellsAt.set (CellsAt.set (CellsAt.set HC14.out 0 _) 1 _) 2 _) 3 _) ((Step.refl _).alloc _), fun _ => ⟨rfl, rfl, Ty.step _ (Ty.kept _ (Ty.kept _ (Ty.kept _ (Ty.kept _ HR14.out (Kept.setCell _ _ _ rfl)) (Kept.setCell _ _ _ rfl)) (Kept.setCell _ _ _ rfl)) (Kept.setCell _ _ _ rfl)) ((Step.refl _).alloc _), Ty.step _ (Ty.kept _ (Ty.kept _ (Ty.kept _ (Ty.kept _ HX14.out (Kept.setCell _ _ _ rfl)) (Kept.setCell _ _ _ rfl)) (Kept.setCell _ _ _ rfl)) (Kept.setCell _ _ _ rfl)) ((Step.refl _).alloc _)⟩, Step.alloc (Step.setCell (Step.setCell (Step.setCell (Step.setCell (HB.out.trans (HWR.out.trans HS4.out)) (Nat.le_refl _) _) (Nat.le_refl _) _) (Nat.le_refl _) _) (Nat.le_refl _) _) _⟩
                  case measure => first | (simp [Go.RowKit.intOf]; done) | ((try simp [Go.RowKit.intOf]); omega)
                · obtain ⟨he, ha, hr, hx⟩ := HF.out (by omega)
                  subst he ha
                  obtain ⟨fa, fc, rfl, _⟩ := Ty.slice_val hr
                  obtain ⟨ga0, gc0, rfl, _⟩ := Ty.slice_val hx
                  have HFR := Lib.hid (Ty.step _ hr (HWR.out.trans HS4.out))
                  have HFX := Lib.hid (Ty.step _ hx (HWR.out.trans HS4.out))
                  clear hr hx
                  have hn1 : ((n : Int) == 0) = false := beq_eq_false_iff_ne.2 (by omega)
                  go_wp2_with (go_at_call 28; refine (OutcomeIs_ (Ty.step _ HR14.out (by (repeat (first | exact Step.refl _ | refine Step.alloc ?_ _ | refine Step.drew ?_ | refine Step.drewN ?_ _ | refine Step.setCell ?_ (by first | exact Nat.le_refl _ | assumption | omega | (simp; done) | (simp; omega)) _ | assumption | refine Step.trans ?_ (by assumption : Step _ _))))) (Ty.step _ HX14.out (by (repeat (first | exact Step.refl _ | refine Step.alloc ?_ _ | refine Step.drew ?_ | refine Step.drewN ?_ _ | refine Step.setCell ?_ (by first | exact Nat.le_refl _ | assumption | omega | (simp; done) | (simp; omega)) _ | assumption | refine Step.trans ?_ (by assumption : Step _ _))))) (Ty.step _ HFR.out (by (repeat (first | exact Step.refl _ | refine Step.alloc ?_ _ | refine Step.drew ?_ | refine Step.drewN ?_ _ | refine Step.setCell ?_ (by first | exact Nat.le_refl _ | assumption | omega | (simp; done) | (simp; omega)) _ | assumption | refine Step.trans ?_ (by assumption : Step _ _))))) (Ty.step _ HFX.out (by (repeat (first | exact Step.refl _ | refine Step.alloc ?_ _ | refine Step.drew ?_ | refine Step.drewN ?_ _ | refine Step.setCell ?_ (by first | exact Nat.le_refl _ | assumption | omega | (simp; done) | (simp; omega)) _ | assumption | refine Step.trans ?_ (by assumption : Step _ _)))))).mono ?_; rintro e w15 ⟨rfl, hS15⟩)
                  go_roundw
                  case rel => exact ⟨n + 1, D.err, D.at_, _, _, by go_num, by omega, HC14.out.step (by (repeat (first | exact Step.refl _ | refine Step.alloc ?_ _ | refine Step.drew ?_ | refine Step.drewN ?_ _ | refine Step.setCell ?_ (by first | exact Nat.le_refl _ | assumption | omega | (simp; done) | (simp; omega)) _ | assumption | refine Step.trans ?_ (by assumption : Step _ _)))), fun _ => ⟨rfl, rfl, Ty.step _ HFR.out (by (repeat (first | exact Step.refl _ | refine Step.alloc ?_ _ | refine Step.drew ?_ | refine Step.drewN ?_ _ | refine Step.setCell ?_ (by first | exact Nat.le_refl _ | assumption | omega | (simp; done) | (simp; omega)) _ | assumption | refine Step.trans ?_ (by assumption : Step _ _)))), Ty.step _ HFX.out (by (repeat (first | exact Step.refl _ | refine Step.alloc ?_ _ | refine Step.drew ?_ | refine Step.drewN ?_ _ | refine Step.setCell ?_ (by first | exact Nat.le_refl _ | assumption | omega | (simp; done) | (simp; omega)) _ | assumption | refine Step.trans ?_ (by assumption : Step _ _))))⟩, HB.out.trans (HWR.out.trans (HS4.out.trans (by (repeat (first | exact Step.refl _ | refine Step.alloc ?_ _ | refine Step.drew ?_ | refine Step.drewN ?_ _ | refine Step.setCell ?_ (by first | exact Nat.le_refl _ | assumption | omega | (simp; done) | (simp; omega)) _ | assumption | refine Step.trans ?_ (by assumption : Step _ _))))))⟩
                  case measure => ((try simp [Go.RowKit.intOf]); omega)

        · obtain rfl : n = sp.length + 1 := by omega
          go_wp2
          go_ret
          exact ⟨rfl, HW2.out.trans HB.out⟩
    · obtain ⟨c1, hc1⟩ : ∃ c, checkRef q = c := ⟨_, rfl⟩
      rw [hc1] at hck
      have hne : ((c1 : Int) != 0) = true := by rw [bne_iff_ne]; exact hck
      have HS0 := Lib.hid hsp
      have HC1 := Lib.hid hc1
      clear hsp hck hc1
      go_enter Try.func5, Try.ntmps5
      go_wp2_with (first
        | (go_at_call 23; refine (lawAwake_ w).mono ?_; rintro e w1 ⟨rfl, hS1⟩)
        | (go_at_call 10; refine (Few_ (n := 16) (Ty.step _ HOP.out (by (repeat (first | exact Step.refl _ | refine Step.alloc ?_ _ | refine Step.drew ?_ | refine Step.drewN ?_ _ | refine Step.setCell ?_ (by first | exact Nat.le_refl _ | assumption | omega | (simp; done) | (simp; omega)) _ | assumption | refine Step.trans ?_ (by assumption : Step _ _))))) (by omega)).mono ?_; rintro e w3 ⟨v3, rfl, h3, rfl⟩; rw [← HQ.out] at h3; obtain ⟨qa, qc, rfl, _⟩ := Ty.slice_val h3; have HQR := Lib.hid h3; clear h3)
        | (go_at_call 11; refine (refSplits_ (Ty.step _ HSP.out (by (repeat (first | exact Step.refl _ | refine Step.alloc ?_ _ | refine Step.drew ?_ | refine Step.drewN ?_ _ | refine Step.setCell ?_ (by first | exact Nat.le_refl _ | assumption | omega | (simp; done) | (simp; omega)) _ | assumption | refine Step.trans ?_ (by assumption : Step _ _)))))).mono ?_; rintro e w4 ⟨rfl, n4, rfl⟩; rw [HS0.out])
        | (go_at_call 12; refine (refCheck_ (Ty.step _ HQR.out (by (repeat (first | exact Step.refl _ | refine Step.alloc ?_ _ | refine Step.drew ?_ | refine Step.drewN ?_ _ | refine Step.setCell ?_ (by first | exact Nat.le_refl _ | assumption | omega | (simp; done) | (simp; omega)) _ | assumption | refine Step.trans ?_ (by assumption : Step _ _)))))).mono ?_; rintro e w5 ⟨rfl, hS5⟩; rw [HC1.out]))
      go_ret
      exact ⟨rfl, by (repeat (first | exact Step.refl _ | refine Step.alloc ?_ _ | refine Step.drew ?_ | refine Step.drewN ?_ _ | refine Step.setCell ?_ (by first | exact Nat.le_refl _ | assumption | omega | (simp; done) | (simp; omega)) _ | assumption | refine Step.trans ?_ (by assumption : Step _ _)))⟩
  · obtain ⟨c1, hc1⟩ : ∃ c, splitsB sp = c := ⟨_, rfl⟩
    rw [hc1] at hsp
    have hne : ((c1 : Int) != 0) = true := by rw [bne_iff_ne]; exact hsp
    have HC1 := Lib.hid hc1
    clear hsp hc1
    go_enter Try.func5, Try.ntmps5
    go_wp2_with (first
      | (go_at_call 23; refine (lawAwake_ w).mono ?_; rintro e w1 ⟨rfl, hS1⟩)
      | (go_at_call 10; refine (Few_ (n := 16) (Ty.step _ HOP.out (by (repeat (first | exact Step.refl _ | refine Step.alloc ?_ _ | refine Step.drew ?_ | refine Step.drewN ?_ _ | refine Step.setCell ?_ (by first | exact Nat.le_refl _ | assumption | omega | (simp; done) | (simp; omega)) _ | assumption | refine Step.trans ?_ (by assumption : Step _ _))))) (by omega)).mono ?_; rintro e w3 ⟨v3, rfl, h3, rfl⟩; rw [← HQ.out] at h3; obtain ⟨qa, qc, rfl, _⟩ := Ty.slice_val h3; have HQR := Lib.hid h3; clear h3)
      | (go_at_call 11; refine (refSplits_ (Ty.step _ HSP.out (by (repeat (first | exact Step.refl _ | refine Step.alloc ?_ _ | refine Step.drew ?_ | refine Step.drewN ?_ _ | refine Step.setCell ?_ (by first | exact Nat.le_refl _ | assumption | omega | (simp; done) | (simp; omega)) _ | assumption | refine Step.trans ?_ (by assumption : Step _ _)))))).mono ?_; rintro e w4 ⟨rfl, n4, rfl⟩; rw [HC1.out]))
    go_ret
    exact ⟨rfl, by (repeat (first | exact Step.refl _ | refine Step.alloc ?_ _ | refine Step.drew ?_ | refine Step.drewN ?_ _ | refine Step.setCell ?_ (by first | exact Nat.le_refl _ | assumption | omega | (simp; done) | (simp; omega)) _ | assumption | refine Step.trans ?_ (by assumption : Step _ _)))⟩
end Go.Proofs.Ythflkfgiclcdiaa
