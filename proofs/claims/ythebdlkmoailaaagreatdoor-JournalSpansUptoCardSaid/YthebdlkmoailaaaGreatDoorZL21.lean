/-
  Walk: JournalSpans.
-/
import Derived.Test.YthebdlkmoailaaaGreatDoorZP13
import Derived.Deep.CutBlock
import Derived.Deep.DeepCutAuto
set_option linter.unusedVariables false
set_option linter.unusedSimpArgs false
namespace Go.Proofs.YthebdlkmoailaaaGreatDoor
open Go.RowKit Go.Gr Go.Maps
open Go.Proofs (encStr)
set_option linter.unusedSimpArgs false
set_option linter.unusedVariables false
theorem span_cells {w : World} {M : Nat → Prop} {a : Option Addr} {n c k : Nat} {xs : List (Nat × Nat)} (h : (Ty.slice tSpan).rep w M [.slice a n c] xs) (hk : k < xs.length) :
    ∃ g off, a = some ⟨g, off, none⟩ ∧ g < w.heap.size ∧ w.cell? ⟨g, off + k * 2, none⟩ = some (.int .u64 (xs[k].1 : Int)) ∧ w.cell? ⟨g, off + k * 2 + 1, none⟩ = some (.int .u64 (xs[k].2 : Int)) := by
  obtain ⟨g, off, es, rfl, hg, _, ⟨c1, c2, rfl, ⟨rfl, _⟩, ⟨rfl, _⟩⟩, hc⟩ := Ty.slice_at h hk
  exact ⟨g, off, rfl, hg, hc 0 _ rfl, hc 1 _ rfl⟩
theorem open_kkS {P : Program} {c : Code} {Q : Exit → Act → World → Prop} {K : Act → World → Prop} {a : Act} {w : World} (h : ∀ a w, Code.wp P c Q a w → K a w) (h2 : Code.wp P c Q a w) : K a w := h a w h2
set_option maxRecDepth 100000 in
set_option maxHeartbeats 8000000 in
theorem jSpansL_ {w : World} {M : Nat → Prop} {most : Int} {v : Value} {acts : List DAct} (hAW : ∀ W : World, Calls Tryz.prog 10 #[] W fun e w' => e = .returned (.bool true) ∧ Step W w') (h : (Ty.slice tAct).rep w M [v] acts) (hm : I64 most) :
    Calls Tryz.prog 7 #[.int .i64 most, v] w fun e w' => e = .returned (.bool true) ∧ Step w w' := by
  obtain ⟨a, c, rfl, _, _, hl⟩ := Ty.slice_val h
  rw [lim_eq] at hl
  have H : Hid ((Ty.slice tAct).rep w (fun c => w.heap.size ≤ c) [.slice a acts.length c] acts) := Lib.hid (Ty.keep _ h (fun b hb _ => ⟨rfl, by omega⟩))
  have HAW := Lib.hid hAW
  clear h hAW
  go_enter Tryz.func7, Tryz.ntmps7
  go_upto_region 3 with (go_at_call 10; refine (HAW.out _).mono ?_; rintro e w1 ⟨rfl, hS1⟩; have HS1 : Hid (Step w w1) := Lib.hid (Step.trans stp hS1); clear hS1)
  have hz1 := HS1.out.size
  go_upto_region 4 with (go_at_call 11; refine (dNew_ _ 1073741824).mono ?_; rintro e w2 ⟨rfl, hb2, hS2⟩; have HM2 := Lib.hid (SpMid.new (HS1.out.trans (Step.trans stp hS2)) H.out (fun c hc hm => absurd hc (Nat.not_lt.2 hm)) hb2 (by first | assumption | omega | (simp; done) | (simp; omega))); clear hb2 hS2)
  obtain ⟨b, hb⟩ : ∃ b, b = w1.heap.size := ⟨_, rfl⟩
  rw [← hb] at HM2 ⊢
  clear HAW H HS1 hz1 hb
  go_upto_region 5 with (go_at_call 12; refine (SpMid.open (HM2.out.next stp) (by omega) hm).mono ?_; rintro e w3 ⟨l0, rfl, M3, D3, L3, s3, f3, rss3, hs3⟩; have HS3 := Lib.hid hs3; clear hs3)
  clear HM2
  go_upto_region 6 with (go_at_call 28; refine (SpAt.small (n := 40) (HS3.out.next stp) (by omega)).mono ?_; rintro e w4 ⟨ra, rc, rfl, hs4, _⟩; have HS4 := Lib.hid hs4; clear hs4)
  have HSH : Hid (∀ x ∈ smallB acts 40, (∀ r ∈ x.records, r.length ≤ 600) ∧ x.records.length ≤ 10) := Lib.hid (fun x hx => smallB_mem hx)
  have hn : (smallB acts 40).length ≤ 40 := by unfold smallB; rw [List.length_map, List.length_take]; omega
  generalize smallB acts 40 = AS at *
  obtain ⟨n, hN⟩ : ∃ n, n = AS.length := ⟨_, rfl⟩
  rw [← hN] at HS4 hn ⊢
  have HN := Lib.hid hN
  clear hN HS3
  go_upto_block 0 with fail
  go_loopw [6, 7, 26] (fun lv ev iv w' => ∃ (k l : Nat) (M : Nat → Prop) (D : DDr) (L : DLog) (s f : Nat) (rss : List (List (List UInt8))), iv = .int .i64 (k : Int) ∧ ev = .int .i64 0 ∧ lv = .pointer (some ⟨l, 0, none⟩) ∧ k ≤ n ∧ Hid (SpAt w w' M b l D L s f rss k (.slice ra n rc) AS)) (fun _ _ iv _ => n - (Go.RowKit.intOf iv).toNat)
  case atStart => exact ⟨0, l0, M3, D3, L3, s3, f3, rss3, rfl, rfl, rfl, Nat.zero_le _, Lib.hid (HS4.out.next stp)⟩
  case round =>
    obtain ⟨k, l, M1, D, L, s, f, rss, rfl, rfl, rfl, hk, HSP⟩ := hrel
    by_cases hlt : k < n
    · have hd : decide ((k : Int) < (n : Int)) = true := decide_eq_true (by omega)
      have hlt2 : k < AS.length := by rw [← HN.out]; exact hlt
      obtain ⟨g9, o9, v9, hra, hg9, q0, q1, q2, q3, q4, hr9⟩ := tAct.cells HSP.out.row.rep hlt2
      subst hra
      have HSX := Lib.hid (HSH.out _ (List.getElem_mem hlt2))
      have HLT : Hid (k + 1 ≤ n) := Lib.hid hlt
      generalize AS[k] = X at *
      obtain ⟨v, hv, hx1, hx2, hx3, hx4, hx5⟩ := hr9
      obtain rfl : v9 = v := by simpa using hv
      clear hv hlt2
      obtain ⟨kd, recs, an, arm, kp⟩ := X
      simp only at q0 q1 q2 q3 q4 hx1 hx2 hx3 hx4 hx5 HSX
      obtain ⟨r9, rc9, rfl, _, _, _⟩ := Ty.slice_val hx2
      have HR := Lib.hid hx2
      have hk40 : k < 40 := by omega
      clear hx2
      go_upto_region 8 with fail
      refine wp_code (fun wx => CellsAt wx wr.heap.size #[.int .i64 kd, .slice r9 recs.length rc9, .int .u64 (an : Int), .int .i64 arm, .int .i64 kp] 58 ∧ Step wr wx) ⟨CellsAt.new rfl, by (repeat (first | exact Step.refl _ | refine Step.alloc ?_ _ | refine Step.drew ?_ | refine Step.drewN ?_ _ | refine Step.setCell ?_ (by first | exact Nat.le_refl _ | assumption | omega | (simp; done) | (simp; omega)) _ | assumption | refine Step.trans ?_ (by assumption : Step _ _)))⟩ ?_
      rintro w3 ⟨hb3, hS3⟩
      obtain ⟨fb, hfb⟩ : ∃ fb, fb = wr.heap.size := ⟨_, rfl⟩
      rw [← hfb] at hb3 ⊢
      have k0 : w3.cell? ⟨fb, 0, none⟩ = some (.int .i64 kd) := hb3.cell 0
      have k1 : w3.cell? ⟨fb, 1, none⟩ = some (.slice r9 recs.length rc9) := hb3.cell 1
      have k2 : w3.cell? ⟨fb, 2, none⟩ = some (.int .u64 (an : Int)) := hb3.cell 2
      have k4 : w3.cell? ⟨fb, 4, none⟩ = some (.int .i64 kp) := hb3.cell 4
      have HS := Lib.hid (HSP.out.next hS3)
      have HR3 := Lib.hid (Ty.step _ HR.out hS3)
      clear hS3 hb3 q0 q1 q2 q3 q4 hfb HR HSP
      go_upto_block 2 with fail
      go_cut [6, 7] (fun s6 s7 wx => ∃ (l' : Nat) (M' : Nat → Prop) (D' : DDr) (L' : DLog) (s' f' : Nat) (rss' : List (List (List UInt8))), s6 = .pointer (some ⟨l', 0, none⟩) ∧ s7 = .int .i64 0 ∧ SpAt w wx M' b l' D' L' s' f' rss' (k + 1) (.slice (some ⟨g9, o9, none⟩) n rc) AS)
      case first =>
        by_cases c1 : kd = 1
        · subst c1
          go_wp2_with (go_at_call 14; refine (SpAt.append (HS.out.next stp) hk40 (Ty.step _ HR3.out stp) HSX.out).mono ?_; rintro e w5 ⟨rfl, M5, D5, L5, rss5, hs5⟩; have HS5 := Lib.hid hs5; clear hs5)
          go_meet
          case rel => exact ⟨_, _, _, _, _, _, _, rfl, rfl, HS5.out.next stp⟩
        have e1 : (kd == 1) = false := by simp [c1]
        by_cases c3 : kd = 3
        · subst c3
          go_wp2_with (go_at_call 32; refine (SpAt.close (HS.out.next stp) hk40).mono ?_; rintro e w5 ⟨rfl, M5, D5, L5, hs5⟩; have HS5 := Lib.hid hs5; clear hs5)
          go_meet
          case rel => exact ⟨_, _, _, _, _, _, _, rfl, rfl, HS5.out.next stp⟩
        have e3 : (kd == 3) = false := by simp [c3]
        by_cases c4 : kd = 4
        · subst c4
          go_wp2_with (go_at_call 33; refine (SpAt.drop (HS.out.next stp) hk40 hx3).mono ?_; rintro e w5 ⟨rfl, M5, D5, L5, s5, f5, rss5, hs5⟩; have HS5 := Lib.hid hs5; clear hs5)
          go_meet
          case rel => exact ⟨_, _, _, _, _, _, _, rfl, rfl, HS5.out.next stp⟩
        have e4 : (kd == 4) = false := by simp [c4]
        by_cases c5 : kd = 5
        · subst c5
          go_wp2_with (first
            | (go_at_call 38; refine (SpAt.crash (HS.out.next stp) hx5).mono ?_; rintro e w5 ⟨rfl, M5, sf5, sn5, x5, hs5⟩; have HS5 := Lib.hid hs5; clear hs5)
            | (go_at_call 12; refine (SpMid.open (HS5.out.next stp) (by omega) hm).mono ?_; rintro e w6 ⟨l6, rfl, M6, D6, L6, s6, f6, rss6, hs6⟩; have HS6 := Lib.hid hs6; clear hs6))
          go_meet
          case rel => exact ⟨_, _, _, _, _, _, _, rfl, rfl, (HS6.out.next stp).more⟩
        have e5 : (kd == 5) = false := by simp [c5]
        go_wp2
        go_meet
        case rel => exact ⟨_, _, _, _, _, _, _, rfl, rfl, (HS.out.next stp).more⟩
      case rest =>
        obtain ⟨l2, M2, D2, L2, s2, f2, rss2, rfl, rfl, hs2⟩ := hcut
        refine open_kkS (by assumption) ?_
        have HS2 := Lib.hid hs2
        clear hs2 HS HR3 k0 k1 k2 k4 HSX
        obtain ⟨T, hT⟩ : ∃ T, T = f2 + rss2.flatten.length := ⟨_, rfl⟩
        obtain ⟨C, hC⟩ : ∃ C, C = clAt L2 T := ⟨_, rfl⟩
        have HG := HS2.out.sess.inv.goodJ
        have HCH := Lib.hid HG.chain
        have hcl := clAt_le HG
        rw [← hT, ← hC] at hcl
        obtain ⟨hcT, hcl2⟩ := hcl
        have HCL := Lib.hid hcl2
        have HEND : Hid (spanAt f2 L2.files L2.files.length = T) := Lib.hid (by rw [hT]; exact HG.spans_end)
        have HNX : Hid (∀ W : World, Step wc W → Calls Tryz.prog 17 #[.pointer (some ⟨l2, 0, none⟩)] W fun e w' => e = .returned (.int .u64 (T : Int)) ∧ Step W w') := Lib.hid (fun W hW => by
          have h := (HS2.out.sess.step hW).next
          rw [← hT] at h
          exact h)
        have HCD : Hid (∀ W : World, Step wc W → Calls Tryz.prog 41 #[.pointer (some ⟨l2, 0, none⟩)] W fun e w' => e = .returned (.int .u64 (C : Int)) ∧ Step W w') := Lib.hid (fun W hW => by
          have h := (HS2.out.sess.step hW).closed
          rw [← hT] at h
          rw [hC]
          exact h)
        clear hT hC HG hcl2
        go_upto_region 24 with (first
          | (go_at_call 39; refine (CSess.first (HS2.out.sess.step stp)).mono ?_; rintro e w5 ⟨rfl, hw5⟩; subst w5)
          | (go_at_call 40; refine (CSess.spans (HS2.out.sess.step stp)).mono ?_; rintro e w6 ⟨v6, rfl, hA6, hS6⟩; obtain ⟨a6, n6, c6, rfl, HN6⟩ := hA6.valN; have HR6 : Hid ((Ty.slice tSpan).rep w6 (fun _ => False) [.slice a6 n6 c6] (spansL L2.files)) := Lib.hid (Own.rep' hA6 (fun _ _ h => h)); have HS6 : Hid (Step wc w6) := Lib.hid (Step.trans stp hS6); clear hA6 hS6))
        have HNL : Hid (n6 = L2.files.length) := Lib.hid (by rw [HN6.out]; unfold spansL; rw [List.length_map])
        have hn6 : n6 ≤ 100 := by have := HS2.out.sess.few; rw [HNL.out]; omega
        go_wp2
        go_loopw [10, 73] (fun av iv w' => ∃ j : Nat, iv = .int .i64 (j : Int) ∧ j ≤ n6 ∧ av = .int .u64 ((spanAt f2 L2.files j : Nat) : Int) ∧ Hid (Step w6 w')) (fun _ iv _ => n6 - (Go.RowKit.intOf iv).toNat)
        case atStart => exact ⟨0, rfl, Nat.zero_le _, rfl, Lib.hid (Step.refl _)⟩
        case round =>
          obtain ⟨j, rfl, hj, rfl, HJ⟩ := hrel
          by_cases hjl : j < n6
          · have hdj : decide ((j : Int) < (n6 : Int)) = true := decide_eq_true (by omega)
            have hjl2 : j < L2.files.length := by rw [← HNL.out]; exact hjl
            have hjl3 : j < (spansL L2.files).length := by unfold spansL; rw [List.length_map]; exact hjl2
            obtain ⟨g7, o7, ha6, hg7, p0, p1⟩ := span_cells (Ty.step _ HR6.out HJ.out) hjl3
            subst ha6
            obtain ⟨z1, z2, z3⟩ := HCH.out.spans hjl2
            have hE : (spansL L2.files)[j] = (L2.files[j].from_, L2.files[j].to_) := by simp [spansL]
            rw [hE] at p0 p1
            simp only at p0 p1
            rw [z1] at p0 z2
            rw [← z3] at p1 z2
            have HLT2 : Hid (j + 1 ≤ n6) := Lib.hid hjl
            clear z1 z3 hE hjl2 hjl3
            generalize hA : spanAt f2 L2.files j = A at *
            generalize hB : spanAt f2 L2.files (j + 1) = B at *
            have HB := Lib.hid hB
            clear hA hB
            have hdl : decide ((B : Int) < (A : Int)) = false := decide_eq_false (by omega)
            go_upto_region 27 with fail
            refine wp_code (fun wx => CellsAt wx wr.heap.size #[.int .u64 (A : Int), .int .u64 (B : Int)] 75 ∧ Step wr wx) ⟨CellsAt.new rfl, by (repeat (first | exact Step.refl _ | refine Step.alloc ?_ _ | refine Step.drew ?_ | refine Step.drewN ?_ _ | refine Step.setCell ?_ (by first | exact Nat.le_refl _ | assumption | omega | (simp; done) | (simp; omega)) _ | assumption | refine Step.trans ?_ (by assumption : Step _ _)))⟩ ?_
            rintro w8 ⟨hb8, hS8⟩
            obtain ⟨fb8, hfb8⟩ : ∃ fb8, fb8 = wr.heap.size := ⟨_, rfl⟩
            rw [← hfb8] at hb8 ⊢
            have k0 : w8.cell? ⟨fb8, 0, none⟩ = some (.int .u64 (A : Int)) := hb8.cell 0
            have k1 : w8.cell? ⟨fb8, 1, none⟩ = some (.int .u64 (B : Int)) := hb8.cell 1
            have HS8 := Lib.hid hS8
            clear hS8 hb8 p0 p1 hfb8
            go_wp2
            go_roundw
            case rel => exact ⟨j + 1, by go_num, HLT2.out, by rw [HB.out], Lib.hid (HJ.out.trans (HS8.out.trans stp))⟩
            case measure => simp [Go.RowKit.intOf]; omega
          · have hdj : decide ((j : Int) < (n6 : Int)) = false := decide_eq_false (by omega)
            have hje : spanAt f2 L2.files j = T := by rw [show j = L2.files.length by rw [← HNL.out]; omega]; exact HEND.out
            rw [hje]
            clear hje
            have HWC : Hid (Step wc wr) := Lib.hid (HS6.out.trans HJ.out)
            have hdc : decide ((T : Int) < (C : Int)) = false := decide_eq_false (by omega)
            have hdc2 : decide (T < C) = false := decide_eq_false (by omega)
            rcases Nat.eq_zero_or_pos n6 with h0 | h0
            · subst h0
              go_upto_region 31 with fail
              refine wp_region_held_drew (S := (fun _ => True)) (by kernel_rfl) ?_ (fun hHeld => ?_)
              · (trivial)
              refine tkH 0 ?_
              try simp only [Act.put, gtA, gtB, gtC, gtD, gtE, gtF]
              refine tkH 1 ?_
              try simp only [Act.put, gtA, gtB, gtC, gtD, gtE, gtF]
              refine rdH (rs := [2]) (.cons rfl (fun K hK => ?_) .nil)
              try simp only [gtA, gtB, gtC]
              go_simp
              (go_at_call 17; refine (HNX.out _ (HWC.out.trans stp)).mono ?_; rintro e w8 ⟨rfl, hS8⟩; have HS8 : Hid (Step wr w8) := Lib.hid (Step.trans stp hS8); clear hS8)
              refine hK.out _ _ ?_ (fun hHeld => ?_)
              · (trivial)
              clear hK K
              try simp only [Act.put, gtA, gtB, gtC, gtD, gtE, gtF]
              refine tkH 3 ?_
              try simp only [Act.put, gtA, gtB, gtC, gtD, gtE, gtF]
              refine tkH 4 ?_
              try simp only [Act.put, gtA, gtB, gtC, gtD, gtE, gtF]
              refine tkH 5 ?_
              try simp only [Act.put, gtA, gtB, gtC, gtD, gtE, gtF]
              refine tkH 7 ?_
              try simp only [Act.put, gtA, gtB, gtC, gtD, gtE, gtF]
              refine rdH (rs := [6]) (.cons rfl (fun K hK => ?_) .nil)
              try simp only [gtA, gtB, gtC]
              go_simp
              (go_at_call 41; refine (HCD.out _ (HWC.out.trans (HS8.out.trans stp))).mono ?_; rintro e w9 ⟨rfl, hS9⟩; have HS9 : Hid (Step wr w9) := Lib.hid (HS8.out.trans (Step.trans stp hS9)); clear hS9)
              refine hK.out _ _ ?_ (fun hHeld => ?_)
              · (trivial)
              clear hK K
              try simp only [Act.put, gtA, gtB, gtC, gtD, gtE, gtF]
              refine rdH (rs := [8]) (.cons rfl (fun K hK => ?_) .nil)
              try simp only [gtA, gtB, gtC]
              go_simp
              (go_at_call 17; refine (HNX.out _ (HWC.out.trans (HS9.out.trans stp))).mono ?_; rintro e w10 ⟨rfl, hS10⟩; have HS10 : Hid (Step wr w10) := Lib.hid (HS9.out.trans (Step.trans stp hS10)); clear hS10)
              refine hK.out _ _ ?_ (fun hHeld => ?_)
              · (trivial)
              clear hK K
              try simp only [Act.put, gtA, gtB, gtC, gtD, gtE, gtF]
              refine tkH 9 ?_
              try simp only [Act.put, gtA, gtB, gtC, gtD, gtE, gtF]
              refine tkH 10 ?_
              try simp only [Act.put, gtA, gtB, gtC, gtD, gtE, gtF]
              refine tkH 11 ?_
              try simp only [Act.put, gtA, gtB, gtC, gtD, gtE, gtF]
              refine tkH 12 ?_
              try simp only [Act.put, gtA, gtB, gtC, gtD, gtE, gtF]
              refine tkH 13 ?_
              try simp only [Act.put, gtA, gtB, gtC, gtD, gtE, gtF]
              refine tkH 14 ?_
              try simp only [Act.put, gtA, gtB, gtC, gtD, gtE, gtF]
              refine tkH 15 ?_
              try simp only [Act.put, gtA, gtB, gtC, gtD, gtE, gtF]
              refine tkUH 16 ?_
              try simp only [Act.put, gtA, gtB, gtC, gtD, gtE, gtF]
              refine tkUH 17 ?_
              try simp only [Act.put, gtA, gtB, gtC, gtD, gtE, gtF]
              refine tkUH 18 ?_
              try simp only [Act.put, gtA, gtB, gtC, gtD, gtE, gtF]
              refine tkUH 19 ?_
              try simp only [Act.put, gtA, gtB, gtC, gtD, gtE, gtF]
              refine tkUH 20 ?_
              try simp only [Act.put, gtA, gtB, gtC, gtD, gtE, gtF]
              refine tkUH 21 ?_
              try simp only [Act.put, gtA, gtB, gtC, gtD, gtE, gtF]
              refine tkUH 22 ?_
              try simp only [Act.put, gtA, gtB, gtC, gtD, gtE, gtF]
              refine tkUH 23 ?_
              try simp only [Act.put, gtA, gtB, gtC, gtD, gtE, gtF]
              refine tkUH 24 ?_
              try simp only [Act.put, gtA, gtB, gtC, gtD, gtE, gtF]
              refine tkUH 25 ?_
              try simp only [Act.put, gtA, gtB, gtC, gtD, gtE, gtF]
              refine tkH 26 ?_
              try simp only [Act.put, gtA, gtB, gtC, gtD, gtE, gtF]
              refine tkH 27 ?_
              try simp only [Act.put, gtA, gtB, gtC, gtD, gtE, gtF]
              refine wpAnyH_done (by kernel_rfl) ?_ _
              go_wp2
              go_roundw
              case rel => exact ⟨k + 1, l2, M2, D2, L2, s2, f2, rss2, by go_num, rfl, rfl, HLT.out, Lib.hid (HS2.out.next (HWC.out.trans (HS10.out.trans stp)))⟩
              case measure => simp [Go.RowKit.intOf]; omega
            · obtain ⟨m, rfl⟩ : ∃ m, n6 = m + 1 := ⟨n6 - 1, by omega⟩
              have hml2 : m < L2.files.length := by rw [← HNL.out]; omega
              have hml3 : m < (spansL L2.files).length := by unfold spansL; rw [List.length_map]; exact hml2
              obtain ⟨g7, o7, ha6, hg7, p0, p1⟩ := span_cells (Ty.step _ HR6.out HJ.out) hml3
              subst ha6
              have hA := HCL.out m hml2 HNL.out
              have hE : (spansL L2.files)[m] = (L2.files[m].from_, L2.files[m].to_) := by simp [spansL]
              rw [hE] at p0
              simp only at p0
              generalize L2.files[m].from_ = A at *
              have hdA : decide ((C : Int) < (A : Int)) = false := decide_eq_false (by omega)
              have hdA2 : decide (C < A) = false := decide_eq_false (by omega)
              have hwn : IntKind.i64.wrap (m : Int) = (m : Int) := by rw [IntKind.wrap_i64]; omega
              have hnlt : (m : Int) < (m : Int) + 1 := by omega
              clear p1 hE hml2 hml3 hA
              go_upto_region 31 with fail
              refine wp_region_held_drew (S := (fun w' => w'.cell? ⟨g7, o7 + m * 2, none⟩ = some (.int .u64 (A : Int)))) (by kernel_rfl) ?_ (fun hHeld => ?_)
              · (go_keep)
              refine tkH 0 ?_
              try simp only [Act.put, gtA, gtB, gtC, gtD, gtE, gtF]
              refine tkH 1 ?_
              try simp only [Act.put, gtA, gtB, gtC, gtD, gtE, gtF]
              refine rdH (rs := [2]) (.cons rfl (fun K hK => ?_) .nil)
              try simp only [gtA, gtB, gtC]
              go_simp
              (go_at_call 17; refine (HNX.out _ (HWC.out.trans stp)).mono ?_; rintro e w8 ⟨rfl, hS8⟩; have s8 : w8.cell? ⟨g7, o7 + m * 2, none⟩ = some (.int .u64 (A : Int)) := (hS8.cell hg7 _).trans p0; have HS8 : Hid (Step wr w8) := Lib.hid (Step.trans stp hS8); clear hS8)
              refine hK.out _ _ ?_ (fun hHeld => ?_)
              · (go_keep)
              clear hK K
              try simp only [Act.put, gtA, gtB, gtC, gtD, gtE, gtF]
              refine tkH 3 ?_
              try simp only [Act.put, gtA, gtB, gtC, gtD, gtE, gtF]
              refine tkH 4 ?_
              try simp only [Act.put, gtA, gtB, gtC, gtD, gtE, gtF]
              refine tkH 5 ?_
              try simp only [Act.put, gtA, gtB, gtC, gtD, gtE, gtF]
              refine tkH 7 ?_
              try simp only [Act.put, gtA, gtB, gtC, gtD, gtE, gtF]
              refine rdH (rs := [6]) (.cons rfl (fun K hK => ?_) .nil)
              try simp only [gtA, gtB, gtC]
              go_simp
              (go_at_call 41; refine (HCD.out _ (HWC.out.trans (HS8.out.trans stp))).mono ?_; rintro e w9 ⟨rfl, hS9⟩; have HS9 : Hid (Step wr w9) := Lib.hid (HS8.out.trans (Step.trans stp hS9)); have s9 : w9.cell? ⟨g7, o7 + m * 2, none⟩ = some (.int .u64 (A : Int)) := (HS9.out.cell hg7 _).trans p0; clear hS9)
              refine hK.out _ _ ?_ (fun hHeld => ?_)
              · (go_keep)
              clear hK K
              try simp only [Act.put, gtA, gtB, gtC, gtD, gtE, gtF]
              refine rdH (rs := [8]) (.cons rfl (fun K hK => ?_) .nil)
              try simp only [gtA, gtB, gtC]
              go_simp
              (go_at_call 17; refine (HNX.out _ (HWC.out.trans (HS9.out.trans stp))).mono ?_; rintro e w10 ⟨rfl, hS10⟩; have HS10 : Hid (Step wr w10) := Lib.hid (HS9.out.trans (Step.trans stp hS10)); have s10 : w10.cell? ⟨g7, o7 + m * 2, none⟩ = some (.int .u64 (A : Int)) := (HS10.out.cell hg7 _).trans p0; clear hS10)
              refine hK.out _ _ ?_ (fun hHeld => ?_)
              · (go_keep)
              clear hK K
              try simp only [Act.put, gtA, gtB, gtC, gtD, gtE, gtF]
              refine tkH 9 ?_
              try simp only [Act.put, gtA, gtB, gtC, gtD, gtE, gtF]
              refine tkH 10 ?_
              try simp only [Act.put, gtA, gtB, gtC, gtD, gtE, gtF]
              refine tkH 11 ?_
              try simp only [Act.put, gtA, gtB, gtC, gtD, gtE, gtF]
              refine tkH 12 ?_
              try simp only [Act.put, gtA, gtB, gtC, gtD, gtE, gtF]
              refine tkH 13 ?_
              try simp only [Act.put, gtA, gtB, gtC, gtD, gtE, gtF]
              refine tkH 14 ?_
              try simp only [Act.put, gtA, gtB, gtC, gtD, gtE, gtF]
              refine tkH 15 ?_
              try simp only [Act.put, gtA, gtB, gtC, gtD, gtE, gtF]
              refine tkH 16 ?_
              try simp only [Act.put, gtA, gtB, gtC, gtD, gtE, gtF]
              refine tkH 18 ?_
              try simp only [Act.put, gtA, gtB, gtC, gtD, gtE, gtF]
              refine tkH 19 ?_
              try simp only [Act.put, gtA, gtB, gtC, gtD, gtE, gtF]
              refine tkH 20 ?_
              try simp only [Act.put, gtA, gtB, gtC, gtD, gtE, gtF]
              refine tkH 21 ?_
              try simp only [Act.put, gtA, gtB, gtC, gtD, gtE, gtF]
              refine tkH 22 ?_
              try simp only [Act.put, gtA, gtB, gtC, gtD, gtE, gtF]
              refine tkH 23 ?_
              try simp only [Act.put, gtA, gtB, gtC, gtD, gtE, gtF]
              refine tkH 24 ?_
              try simp only [Act.put, gtA, gtB, gtC, gtD, gtE, gtF]
              refine rdH (rs := [17]) (.cons rfl (fun K hK => ?_) .nil)
              try simp only [gtA, gtB, gtC]
              go_simp
              (go_at_call 41; refine (HCD.out _ (HWC.out.trans (HS10.out.trans stp))).mono ?_; rintro e w11 ⟨rfl, hS11⟩; have HS11 : Hid (Step wr w11) := Lib.hid (HS10.out.trans (Step.trans stp hS11)); have s11 : w11.cell? ⟨g7, o7 + m * 2, none⟩ = some (.int .u64 (A : Int)) := (HS11.out.cell hg7 _).trans p0; clear hS11)
              refine hK.out _ _ ?_ (fun hHeld => ?_)
              · (go_keep)
              clear hK K
              try simp only [Act.put, gtA, gtB, gtC, gtD, gtE, gtF]
              refine tkH 25 ?_
              try simp only [Act.put, gtA, gtB, gtC, gtD, gtE, gtF]
              refine tkH 26 ?_
              try simp only [Act.put, gtA, gtB, gtC, gtD, gtE, gtF]
              refine tkH 27 ?_
              try simp only [Act.put, gtA, gtB, gtC, gtD, gtE, gtF]
              refine wpAnyH_done (by kernel_rfl) ?_ _
              go_wp2
              go_roundw
              case rel => exact ⟨k + 1, l2, M2, D2, L2, s2, f2, rss2, by go_num, rfl, rfl, HLT.out, Lib.hid (HS2.out.next (HWC.out.trans (HS11.out.trans stp)))⟩
              case measure => simp [Go.RowKit.intOf]; omega
    · have hd : decide ((k : Int) < (n : Int)) = false := decide_eq_false (by omega)
      go_wp2
      go_ret
      exact ⟨rfl, HSP.out.row.step.trans stp⟩
end Go.Proofs.YthebdlkmoailaaaGreatDoor
