/-
  Walk: again (the journal behind a crash, its opening cut at some deed first).
  What a round of JournalCrashes knows; what each act makes of it.
  Walk: JournalCrashes.
-/
import Derived.Test.YthebdlkmoailaaaGreatDoorZP13
import Derived.Test.YthebdlkmoailaaaGreatDoorZP11
import Derived.Test.YthebdlkmoailaaaGreatDoorZP2
import Derived.Test.YthebdlkmoailaaaGreatDoorZCutU
import Derived.Deep.CutBlock
import Derived.Deep.DeepCutAuto
set_option linter.unusedVariables false
set_option linter.unusedSimpArgs false
namespace Go.Proofs.YthebdlkmoailaaaGreatDoor
open Go.RowKit Go.Gr Go.Maps
open Go.Proofs (encStr)
set_option linter.unusedSimpArgs false
set_option linter.unusedVariables false
theorem open_kkQ {P : Program} {c : Code} {Q : Exit → Act → World → Prop} {K : Act → World → Prop} {a : Act} {w : World} (h : ∀ a w, Code.wp P c Q a w → K a w) (h2 : Code.wp P c Q a w) : K a w := h a w h2
/-- Behind again: a journal in order that has a beginning of all, which is all and sure from now on. -/
def AgainRet (w0 w' : World) (xb b : Nat) (most : Int) (all : List (List UInt8)) (rv : Value) (acts : List DAct) (q U : Nat) : Prop :=
  ∃ M' l D' L' s f rss n av', n ≤ all.length ∧ RunAt w0 w' M' xb b (.pointer (some ⟨l, 0, none⟩)) most av' (all.take n) n rv acts ∧ ASess [119, 46] w' M' xb b l D' L' s f rss q U 100 (PC (all.take n) n) ∧ f + rss.flatten.length = n ∧ PC (all.take n) n f rss.flatten ∧ D'.room = 1073741824
set_option maxRecDepth 100000 in
set_option maxHeartbeats 8000000 in
theorem again_ {w0 w : World} {M : Nat → Prop} {xb b : Nat} {lv : Value} {most : Int} {av : Value} {all : List (List UInt8)} {sure : Nat} {rv : Value} {acts : List DAct} {arm keep : Int} {D : DDr} {q U : Nat}
    (hR : RunAt w0 w M xb b lv most av all sure rv acts) (hD : DrX w M xb b D) (hc : CrashOk [119, 46] q U (PC all sure) D) (hro : D.room = 1073741824) (hm : I64 most) (ha : 0 ≤ arm ∧ arm < 100) (hk : I64 keep) (hq : q < 98) (hU : U ≤ 68719476736) (hal : all.length ≤ 1000) :
    Calls Tryz.prog 43 #[.pointer (some ⟨xb, 0, none⟩), .int .i64 arm, .int .i64 keep] w fun e w' => e = .returned (.bool true) ∧ AgainRet w0 w' xb b most all rv acts q U := by
  have HR := Lib.hid hR
  have HC := Lib.hid hc
  have HD := Lib.hid hD
  have HRO := Lib.hid hro
  have p0 : w.cell? ⟨xb, 0, none⟩ = some (.pointer (some ⟨b, 0, none⟩)) := hR.cells.cell 0
  clear hR hD hc hro
  go_enter Tryz.func43, Tryz.ntmps43
  go_upto_region 2 with (go_at_call 38; refine (crash_any (HD.out.step stp) HC.out hk).mono ?_; rintro e w1 ⟨rfl, M1, x1, hd1, hst1, hg1⟩; rw [HRO.out] at hd1; have HD1 := Lib.hid hd1; have HST1 := Lib.hid hst1; have hr1 := (HR.out.next stp).go hg1 hd1.in; have p1 : w1.cell? ⟨xb, 0, none⟩ = some (.pointer (some ⟨b, 0, none⟩)) := hr1.cells.cell 0; have p1m : w1.cell? ⟨xb, 2, none⟩ = some (.int .i64 most) := hr1.cells.cell 2; have HR1 := Lib.hid hr1; clear hd1 hst1 hg1 hr1)
  obtain ⟨F, RS, hPF, hST⟩ : ∃ F RS, PC all sure F RS ∧ StJ [119, 46] q U (fun f rs => f = F ∧ rs = RS) x1 := by
    obtain ⟨seen, s, f, fs, rss, k1, k2, k3, k4, k5⟩ := HST1.out
    exact ⟨f, rss.flatten, k4, seen, s, f, fs, rss, k1, k2, k3, ⟨rfl, rfl⟩, k5⟩
  have HPF := Lib.hid hPF
  have HST := Lib.hid hST
  obtain ⟨N, hN⟩ : ∃ N, N = F + RS.length := ⟨_, rfl⟩
  have HN := Lib.hid hN
  have hN1 : N ≤ all.length := by rw [hN]; exact hPF.2.1
  have hN2 : sure ≤ N := by rw [hN]; exact hPF.1
  have hFN : F ≤ N := by omega
  have HPB : Hid (∀ f rs, (f = F ∧ rs = RS) → f + rs.length < 18446744073709551616) := Lib.hid (fun f rs hx => by rw [hx.1, hx.2, ← hN]; omega)
  clear hPF hST hN HST1 HD HC HR p0
  go_upto_region 3 with (go_at_call 75; refine (twin_any (HD1.out.step stp)).mono ?_; rintro e w2 ⟨t, M2, sf2, sn2, rfl, hd2, hS2, hM2⟩; have HD2 := Lib.hid hd2; have HS2 : Hid (Step w1 w2) := Lib.hid (Step.trans stp hS2); have HM2 : Hid (∀ c, M2 c → w1.heap.size ≤ c) := Lib.hid (fun c hc => Nat.le_trans (Step.size (stp : Step w1 _)) (hM2 c hc)); have p2m : w2.cell? ⟨xb, 2, none⟩ = some (.int .i64 most) := (HR1.out.next HS2.out).cells.cell 2; clear hd2 hS2 hM2)
  go_upto_region 4 with (go_at_call 12; refine (open_st (HD2.out.step stp) hm (by simp) HST.out (by omega) hU HPB.out).mono ?_; rintro e w3 ⟨l1, rfl, M3, seen3, fs3, s3, f3, rss3, hse3, ⟨hf3, hrs3⟩, hgo3⟩; subst hf3; have HM3 : Hid (∀ c, M3 c → w1.heap.size ≤ c) := Lib.hid (hgo3.fresh HM2.out (HS2.out.trans stp).size); have HV : Hid (View w3 w1.heap.size l1 f3 N) := Lib.hid (by have := hse3.view HM3.out rfl; rw [hrs3, ← HN.out] at this; exact this); have HS3 : Hid (Step w1 w3) := Lib.hid (hgo3.step (HS2.out.trans stp) HM2.out); clear hse3 hgo3 hrs3)
  have HR3 := Lib.hid (HR1.out.next HS3.out)
  have HD3 := Lib.hid (HD1.out.step HS3.out)
  have HA3 : Hid (Aside w3 w3 w1.heap.size M1) := Lib.hid ⟨fun _ _ _ => rfl, fun c h1 h2 hx => by have := HD1.out.old c hx; omega, Nat.le_refl _⟩
  have q0 : w3.cell? ⟨xb, 0, none⟩ = some (.pointer (some ⟨b, 0, none⟩)) := HR3.out.cells.cell 0
  have q2 : w3.cell? ⟨xb, 2, none⟩ = some (.int .i64 most) := HR3.out.cells.cell 2
  clear HD1 HR1 HD2 HS2 HM2 HM3 HS3 p1 p1m p2m
  go_upto_if 35 with fail
  go_cut [0] (fun s0 wx => ∃ (M6 : Nat → Prop) (x6 : List DPair), s0 = .pointer (some ⟨xb, 0, none⟩) ∧ DrX wx M6 xb b (calmD x6 1073741824) ∧ StJ [119, 46] q U (fun f rs => f = f3 ∧ rs = RS) x6 ∧ Aside w3 wx w1.heap.size M6 ∧ RunAt w0 wx M6 xb b lv most av all sure rv acts)
  case first =>
    by_cases hz : 0 < arm
    · have hdz : decide (0 < arm) = true := decide_eq_true hz
      have hwa : IntKind.i64.wrap (arm - 1) = arm - 1 := by rw [IntKind.wrap_i64]; omega
      go_upto_region 8 with (go_at_call 44; refine (arm_any (HD3.out.step stp) (n := arm - 1) (by unfold I64; omega)).mono ?_; rintro e w4 ⟨rfl, hd4, hcg⟩; have HD4 := Lib.hid hd4; have HR4 := Lib.hid ((HR3.out.next stp).go hcg hd4.in); have HA4 := Lib.hid ((HA3.out.next stp).go hcg.cgo); have r0 : w4.cell? ⟨xb, 0, none⟩ = some (.pointer (some ⟨b, 0, none⟩)) := HR4.out.cells.cell 0; have r2 : w4.cell? ⟨xb, 2, none⟩ = some (.int .i64 most) := HR4.out.cells.cell 2; clear hd4 hcg)
      refine wp_region_held_drew (S := (fun w' => w'.cell? ⟨xb, 0, none⟩ = some (.pointer (some ⟨b, 0, none⟩)) ∧ w'.cell? ⟨xb, 2, none⟩ = some (.int .i64 most))) (by kernel_rfl) ?_ (fun hHeld => ?_)
      · (go_keep)
      refine tkH 0 ?_
      try simp only [Act.put, gtA, gtB, gtC, gtD, gtE, gtF]
      refine tkH 1 ?_
      try simp only [Act.put, gtA, gtB, gtC, gtD, gtE, gtF]
      refine tkH 2 ?_
      try simp only [Act.put, gtA, gtB, gtC, gtD, gtE, gtF]
      refine tkH 3 ?_
      try simp only [Act.put, gtA, gtB, gtC, gtD, gtE, gtF]
      refine tkH 4 ?_
      try simp only [Act.put, gtA, gtB, gtC, gtD, gtE, gtF]
      refine tkH 5 ?_
      try simp only [Act.put, gtA, gtB, gtC, gtD, gtE, gtF]
      refine tkH 6 ?_
      try simp only [Act.put, gtA, gtB, gtC, gtD, gtE, gtF]
      refine tkH 7 ?_
      try simp only [Act.put, gtA, gtB, gtC, gtD, gtE, gtF]
      refine rdH (rs := [8]) (.cons rfl (fun K hK => ?_) .nil)
      try simp only [gtA, gtB, gtC]
      go_simp
      (go_at_call 12; refine (open_armed (room := 1073741824) (HD4.out.step stp) rfl rfl rfl rfl rfl hm (by simp) HST.out (by omega) hU HPB.out).mono ?_; rintro e w5 ⟨⟨u5, rfl⟩, M5, D5, hd5, hc5, hr5, hg5⟩; have HD5 := Lib.hid hd5; have HC5 := Lib.hid hc5; have HRO5 := Lib.hid hr5; have HR5 := Lib.hid ((HR4.out.next stp).go hg5 hd5.in); have HA5 := Lib.hid ((HA4.out.next stp).go hg5.cgo); have s0 : w5.cell? ⟨xb, 0, none⟩ = some (.pointer (some ⟨b, 0, none⟩)) := HR5.out.cells.cell 0; have s2 : w5.cell? ⟨xb, 2, none⟩ = some (.int .i64 most) := HR5.out.cells.cell 2; clear hd5 hc5 hr5 hg5)
      refine hK.out _ _ ?_ (fun hHeld => ?_)
      · (go_keep)
      clear hK K
      try simp only [Act.put, gtA, gtB, gtC, gtD, gtE, gtF]
      refine wpAnyH_done (by kernel_rfl) ?_ _
      go_wp2_with (go_at_call 38; refine (crash_any (HD5.out.step stp) HC5.out hk).mono ?_; rintro e w6 ⟨rfl, M6, x6, hd6, hst6, hg6⟩; rw [HRO5.out] at hd6; have HD6 := Lib.hid hd6; have HST6 := Lib.hid hst6; have HR6 := Lib.hid ((HR5.out.next stp).go hg6 hd6.in); have HA6 := Lib.hid ((HA5.out.next stp).go hg6.cgo); clear hd6 hst6 hg6)
      go_meet
      case rel => exact ⟨M6, x6, rfl, HD6.out.step stp, HST6.out, HA6.out.next stp, HR6.out.next stp⟩
    · have hdz : decide (0 < arm) = false := decide_eq_false hz
      go_wp2
      go_meet
      case rel => exact ⟨M1, x1, rfl, HD3.out.step stp, HST.out, HA3.out.next stp, HR3.out.next stp⟩
  case rest =>
    obtain ⟨M6, x6, rfl, hd6, hst6, ha6, hr6⟩ := hcut
    refine open_kkQ (by assumption) ?_
    have HD6 := Lib.hid hd6
    have HST6 := Lib.hid hst6
    have HA6 := Lib.hid ha6
    have HR6 := Lib.hid hr6
    have p0 : wc.cell? ⟨xb, 0, none⟩ = some (.pointer (some ⟨b, 0, none⟩)) := hr6.cells.cell 0
    have p2 : wc.cell? ⟨xb, 2, none⟩ = some (.int .i64 most) := hr6.cells.cell 2
    clear hd6 hst6 ha6 hr6 HD3 HR3 HA3 HST q0 q2
    go_upto_region 10 with fail
    refine wp_region_held_drew (S := (fun w' => w'.cell? ⟨xb, 0, none⟩ = some (.pointer (some ⟨b, 0, none⟩)) ∧ w'.cell? ⟨xb, 2, none⟩ = some (.int .i64 most))) (by kernel_rfl) ?_ (fun hHeld => ?_)
    · (go_keep)
    refine tkH 0 ?_
    try simp only [Act.put, gtA, gtB, gtC, gtD, gtE, gtF]
    refine tkH 1 ?_
    try simp only [Act.put, gtA, gtB, gtC, gtD, gtE, gtF]
    refine tkH 2 ?_
    try simp only [Act.put, gtA, gtB, gtC, gtD, gtE, gtF]
    refine tkH 3 ?_
    try simp only [Act.put, gtA, gtB, gtC, gtD, gtE, gtF]
    refine tkH 4 ?_
    try simp only [Act.put, gtA, gtB, gtC, gtD, gtE, gtF]
    refine tkH 5 ?_
    try simp only [Act.put, gtA, gtB, gtC, gtD, gtE, gtF]
    refine tkH 6 ?_
    try simp only [Act.put, gtA, gtB, gtC, gtD, gtE, gtF]
    refine tkH 7 ?_
    try simp only [Act.put, gtA, gtB, gtC, gtD, gtE, gtF]
    refine rdH (rs := [8]) (.cons rfl (fun K hK => ?_) .nil)
    try simp only [gtA, gtB, gtC]
    go_simp
    (go_at_call 12; refine (open_any (HD6.out.step stp) hm (by simp) HST6.out (by omega) hU HPB.out).mono ?_; rintro e w7 ⟨l7, rfl, M7, seen7, fs7, s7, f7, rss7, hse7, ⟨hf7, hrs7⟩, hgo7⟩; have hf8 := hf7.symm; subst hf8; have HSE7 := Lib.hid hse7; have HRS7 := Lib.hid hrs7; have HR7 := Lib.hid ((HR6.out.next stp).go hgo7 hse7.drx.in); have HA7 := Lib.hid ((HA6.out.next stp).go hgo7.cgo); have p7 : w7.cell? ⟨xb, 0, none⟩ = some (.pointer (some ⟨b, 0, none⟩)) := HR7.out.cells.cell 0; have p72 : w7.cell? ⟨xb, 2, none⟩ = some (.int .i64 most) := HR7.out.cells.cell 2; clear hse7 hgo7 hrs7 hf7)
    refine hK.out _ _ ?_ (fun hHeld => ?_)
    · (go_keep)
    clear hK K
    try simp only [Act.put, gtA, gtB, gtC, gtD, gtE, gtF]
    refine tkH 9 ?_
    try simp only [Act.put, gtA, gtB, gtC, gtD, gtE, gtF]
    refine tkH 10 ?_
    try simp only [Act.put, gtA, gtB, gtC, gtD, gtE, gtF]
    refine tkH 11 ?_
    try simp only [Act.put, gtA, gtB, gtC, gtD, gtE, gtF]
    refine tkH 12 ?_
    try simp only [Act.put, gtA, gtB, gtC, gtD, gtE, gtF]
    refine tkH 13 ?_
    try simp only [Act.put, gtA, gtB, gtC, gtD, gtE, gtF]
    refine wpAnyH_done (by kernel_rfl) ?_ _
    clear HD6 HST6 HA6 HR6 p0 p2 p7 p72
    have HNm : Hid (∀ W : World, Step w7 W → Calls Tryz.prog 17 #[.pointer (some ⟨l7, 0, none⟩)] W fun e w' => e = .returned (.int .u64 (N : Int)) ∧ Step W w') := Lib.hid (fun W hW => by
      have h := ((HSE7.out.step hW).csess rfl).next
      rw [HRS7.out, ← HN.out] at h
      exact h)
    have HFm : Hid (∀ W : World, Step w7 W → Calls Tryz.prog 39 #[.pointer (some ⟨l7, 0, none⟩)] W fun e w' => e = .returned (.int .u64 (f3 : Int)) ∧ w' = W) := Lib.hid (fun W hW => ((HSE7.out.step hW).csess rfl).first)
    have HNv : Hid (∀ W : World, Step w7 W → Calls Tryz.prog 17 #[.pointer (some ⟨l1, 0, none⟩)] W fun e w' => e = .returned (.int .u64 (N : Int)) ∧ Step W w') := Lib.hid (fun W hW => (HV.out W (HA7.out.next hW).same).1)
    have HFv : Hid (∀ W : World, Step w7 W → Calls Tryz.prog 39 #[.pointer (some ⟨l1, 0, none⟩)] W fun e w' => e = .returned (.int .u64 (f3 : Int)) ∧ w' = W) := Lib.hid (fun W hW => (HV.out W (HA7.out.next hW).same).2.1)
    have HCv : Hid (∀ W : World, Step w7 W → Calls Tryz.prog 41 #[.pointer (some ⟨l1, 0, none⟩)] W fun e w' => e = .returned (.int .u64 (N : Int)) ∧ Step W w') := Lib.hid (fun W hW => (HV.out W (HA7.out.next hW).same).2.2)
    have HRC : Hid (∀ W : World, Step w7 W → Calls Tryz.prog 16 #[.pointer (some ⟨l7, 0, none⟩), .int .u64 (f3 : Int), .int .u64 (N : Int)] W fun e w' => ∃ v, e = .returned (.tuple #[v, .int .i64 0]) ∧ (Ty.slice Ty.bytes).rep w' (fun _ => False) [v] RS ∧ Step W w') := Lib.hid (fun W hW => by
      have h := ((HSE7.out.step hW).csess rfl).records (by simp) (by omega) hU (by rw [HRS7.out, ← HN.out]; omega) (by have := HRS7.out; have := HN.out; rw [HRS7.out]; omega)
      rw [HRS7.out, ← HN.out] at h
      refine h.mono ?_
      rintro e w' ⟨v, ds, rfl, hO, hS, hm, _⟩
      exact ⟨v, rfl, by rw [← hm.out]; exact slice_mapE Prod.fst rfl tGB_bytes (own_slice hO), hS⟩)
    have hav := HR7.out.form
    obtain ⟨A, C, hA, hAC⟩ : ∃ A C, av = .slice A all.length C ∧ all.length ≤ C := by
      obtain ⟨a, c, h, h2, _⟩ := Ty.slice_val HR7.out.rall
      exact ⟨a, c, h, h2⟩
    subst hA
    have e3 : w7.cell? ⟨xb, 3, none⟩ = some (.slice A all.length C) := HR7.out.cells.cell 3
    have e4 : w7.cell? ⟨xb, 4, none⟩ = some (.int .u64 (sure : Int)) := HR7.out.cells.cell 4
    have hxl : xb < w7.heap.size := CellsAt.lt HR7.out.cells
    have HAV := Lib.hid hav
    have HSx : Hid (Step w7 w7) := Lib.hid (Step.refl _)
    have d1 : decide ((N : Int) < (sure : Int)) = false := decide_eq_false (by omega)
    have d2 : decide ((all.length : Int) < (N : Int)) = false := decide_eq_false (by omega)
    have d3 : decide ((N : Int) < (f3 : Int)) = false := decide_eq_false (by omega)
    have d1' : decide (N < sure) = false := decide_eq_false (by omega)
    have d2' : decide (all.length < N) = false := decide_eq_false (by omega)
    have d3' : decide (N < f3) = false := decide_eq_false (by omega)
    have hwa : IntKind.u64.wrap (all.length : Int) = (all.length : Int) := by rw [IntKind.wrap_u64]; omega
    clear hav HV HA7
    go_upto_region 11 with fail
    refine wp_region_held_drew (S := (fun w' => w'.cell? ⟨xb, 3, none⟩ = some (.slice A all.length C) ∧ w'.cell? ⟨xb, 4, none⟩ = some (.int .u64 (sure : Int)))) (by kernel_rfl) ?_ (fun hHeld => ?_)
    · (go_keep)
    refine tkH 0 ?_
    try simp only [Act.put, gtA, gtB, gtC, gtD, gtE, gtF]
    refine tkH 1 ?_
    try simp only [Act.put, gtA, gtB, gtC, gtD, gtE, gtF]
    refine tkH 2 ?_
    try simp only [Act.put, gtA, gtB, gtC, gtD, gtE, gtF]
    refine tkH 3 ?_
    try simp only [Act.put, gtA, gtB, gtC, gtD, gtE, gtF]
    refine tkH 5 ?_
    try simp only [Act.put, gtA, gtB, gtC, gtD, gtE, gtF]
    refine rdH (rs := [4]) (.cons rfl (fun K hK => ?_) .nil)
    try simp only [gtA, gtB, gtC]
    go_simp
    (go_at_call 17; refine (HNm.out _ (HSx.out.trans stp)).mono ?_; rintro e w11 ⟨rfl, hS11⟩; have HSx : Hid (Step w7 w11) := Lib.hid (HSx.out.trans (Step.trans stp hS11)); have c3 : w11.cell? ⟨xb, 3, none⟩ = some (.slice A all.length C) := (HSx.out.cell hxl _).trans e3; have c4 : w11.cell? ⟨xb, 4, none⟩ = some (.int .u64 (sure : Int)) := (HSx.out.cell hxl _).trans e4; clear hS11)
    refine hK.out _ _ ?_ (fun hHeld => ?_)
    · (go_keep)
    clear hK K
    try simp only [Act.put, gtA, gtB, gtC, gtD, gtE, gtF]
    refine rdH (rs := [6]) (.cons rfl (fun K hK => ?_) .nil)
    try simp only [gtA, gtB, gtC]
    go_simp
    (go_at_call 17; refine (HNv.out _ (HSx.out.trans stp)).mono ?_; rintro e w12 ⟨rfl, hS12⟩; have HSx : Hid (Step w7 w12) := Lib.hid (HSx.out.trans (Step.trans stp hS12)); have c3 : w12.cell? ⟨xb, 3, none⟩ = some (.slice A all.length C) := (HSx.out.cell hxl _).trans e3; have c4 : w12.cell? ⟨xb, 4, none⟩ = some (.int .u64 (sure : Int)) := (HSx.out.cell hxl _).trans e4; clear hS12)
    refine hK.out _ _ ?_ (fun hHeld => ?_)
    · (go_keep)
    clear hK K
    try simp only [Act.put, gtA, gtB, gtC, gtD, gtE, gtF]
    refine tkH 7 ?_
    try simp only [Act.put, gtA, gtB, gtC, gtD, gtE, gtF]
    refine tkH 8 ?_
    try simp only [Act.put, gtA, gtB, gtC, gtD, gtE, gtF]
    refine tkH 9 ?_
    try simp only [Act.put, gtA, gtB, gtC, gtD, gtE, gtF]
    refine tkH 10 ?_
    try simp only [Act.put, gtA, gtB, gtC, gtD, gtE, gtF]
    refine tkH 12 ?_
    try simp only [Act.put, gtA, gtB, gtC, gtD, gtE, gtF]
    refine rdH (rs := [11]) (.cons rfl (fun K hK => ?_) .nil)
    try simp only [gtA, gtB, gtC]
    go_simp
    (go_at_call 39; refine (HFm.out _ (HSx.out.trans stp)).mono ?_; rintro e w13 ⟨rfl, hw13⟩; subst w13)
    refine hK.out _ _ ?_ (fun hHeld => ?_)
    · (go_keep)
    clear hK K
    try simp only [Act.put, gtA, gtB, gtC, gtD, gtE, gtF]
    refine rdH (rs := [13]) (.cons rfl (fun K hK => ?_) .nil)
    try simp only [gtA, gtB, gtC]
    go_simp
    (go_at_call 39; refine (HFv.out _ (HSx.out.trans stp)).mono ?_; rintro e w14 ⟨rfl, hw14⟩; subst w14)
    refine hK.out _ _ ?_ (fun hHeld => ?_)
    · (go_keep)
    clear hK K
    try simp only [Act.put, gtA, gtB, gtC, gtD, gtE, gtF]
    refine tkH 14 ?_
    try simp only [Act.put, gtA, gtB, gtC, gtD, gtE, gtF]
    refine tkH 15 ?_
    try simp only [Act.put, gtA, gtB, gtC, gtD, gtE, gtF]
    refine tkH 16 ?_
    try simp only [Act.put, gtA, gtB, gtC, gtD, gtE, gtF]
    refine tkH 17 ?_
    try simp only [Act.put, gtA, gtB, gtC, gtD, gtE, gtF]
    refine tkH 19 ?_
    try simp only [Act.put, gtA, gtB, gtC, gtD, gtE, gtF]
    refine tkH 20 ?_
    try simp only [Act.put, gtA, gtB, gtC, gtD, gtE, gtF]
    refine tkH 21 ?_
    try simp only [Act.put, gtA, gtB, gtC, gtD, gtE, gtF]
    refine tkH 22 ?_
    try simp only [Act.put, gtA, gtB, gtC, gtD, gtE, gtF]
    refine rdH (rs := [18]) (.cons rfl (fun K hK => ?_) .nil)
    try simp only [gtA, gtB, gtC]
    go_simp
    (go_at_call 17; refine (HNv.out _ (HSx.out.trans stp)).mono ?_; rintro e w15 ⟨rfl, hS15⟩; have HSx : Hid (Step w7 w15) := Lib.hid (HSx.out.trans (Step.trans stp hS15)); have c3 : w15.cell? ⟨xb, 3, none⟩ = some (.slice A all.length C) := (HSx.out.cell hxl _).trans e3; have c4 : w15.cell? ⟨xb, 4, none⟩ = some (.int .u64 (sure : Int)) := (HSx.out.cell hxl _).trans e4; clear hS15)
    refine hK.out _ _ ?_ (fun hHeld => ?_)
    · (go_keep)
    clear hK K
    try simp only [Act.put, gtA, gtB, gtC, gtD, gtE, gtF]
    refine tkH 23 ?_
    try simp only [Act.put, gtA, gtB, gtC, gtD, gtE, gtF]
    refine tkH 24 ?_
    try simp only [Act.put, gtA, gtB, gtC, gtD, gtE, gtF]
    refine tkH 25 ?_
    try simp only [Act.put, gtA, gtB, gtC, gtD, gtE, gtF]
    refine tkH 26 ?_
    try simp only [Act.put, gtA, gtB, gtC, gtD, gtE, gtF]
    refine tkH 28 ?_
    try simp only [Act.put, gtA, gtB, gtC, gtD, gtE, gtF]
    refine tkH 29 ?_
    try simp only [Act.put, gtA, gtB, gtC, gtD, gtE, gtF]
    refine tkH 30 ?_
    try simp only [Act.put, gtA, gtB, gtC, gtD, gtE, gtF]
    refine tkH 31 ?_
    try simp only [Act.put, gtA, gtB, gtC, gtD, gtE, gtF]
    refine tkH 32 ?_
    try simp only [Act.put, gtA, gtB, gtC, gtD, gtE, gtF]
    refine tkH 33 ?_
    try simp only [Act.put, gtA, gtB, gtC, gtD, gtE, gtF]
    refine rdH (rs := [27]) (.cons rfl (fun K hK => ?_) .nil)
    try simp only [gtA, gtB, gtC]
    go_simp
    (go_at_call 17; refine (HNv.out _ (HSx.out.trans stp)).mono ?_; rintro e w16 ⟨rfl, hS16⟩; have HSx : Hid (Step w7 w16) := Lib.hid (HSx.out.trans (Step.trans stp hS16)); have c3 : w16.cell? ⟨xb, 3, none⟩ = some (.slice A all.length C) := (HSx.out.cell hxl _).trans e3; have c4 : w16.cell? ⟨xb, 4, none⟩ = some (.int .u64 (sure : Int)) := (HSx.out.cell hxl _).trans e4; clear hS16)
    refine hK.out _ _ ?_ (fun hHeld => ?_)
    · (go_keep)
    clear hK K
    try simp only [Act.put, gtA, gtB, gtC, gtD, gtE, gtF]
    refine tkH 34 ?_
    try simp only [Act.put, gtA, gtB, gtC, gtD, gtE, gtF]
    refine tkH 35 ?_
    try simp only [Act.put, gtA, gtB, gtC, gtD, gtE, gtF]
    refine tkH 36 ?_
    try simp only [Act.put, gtA, gtB, gtC, gtD, gtE, gtF]
    refine tkH 37 ?_
    try simp only [Act.put, gtA, gtB, gtC, gtD, gtE, gtF]
    refine tkH 39 ?_
    try simp only [Act.put, gtA, gtB, gtC, gtD, gtE, gtF]
    refine rdH (rs := [38]) (.cons rfl (fun K hK => ?_) .nil)
    try simp only [gtA, gtB, gtC]
    go_simp
    (go_at_call 39; refine (HFv.out _ (HSx.out.trans stp)).mono ?_; rintro e w17 ⟨rfl, hw17⟩; subst w17)
    refine hK.out _ _ ?_ (fun hHeld => ?_)
    · (go_keep)
    clear hK K
    try simp only [Act.put, gtA, gtB, gtC, gtD, gtE, gtF]
    refine rdH (rs := [40]) (.cons rfl (fun K hK => ?_) .nil)
    try simp only [gtA, gtB, gtC]
    go_simp
    (go_at_call 17; refine (HNv.out _ (HSx.out.trans stp)).mono ?_; rintro e w18 ⟨rfl, hS18⟩; have HSx : Hid (Step w7 w18) := Lib.hid (HSx.out.trans (Step.trans stp hS18)); have c3 : w18.cell? ⟨xb, 3, none⟩ = some (.slice A all.length C) := (HSx.out.cell hxl _).trans e3; have c4 : w18.cell? ⟨xb, 4, none⟩ = some (.int .u64 (sure : Int)) := (HSx.out.cell hxl _).trans e4; clear hS18)
    refine hK.out _ _ ?_ (fun hHeld => ?_)
    · (go_keep)
    clear hK K
    try simp only [Act.put, gtA, gtB, gtC, gtD, gtE, gtF]
    refine tkH 41 ?_
    try simp only [Act.put, gtA, gtB, gtC, gtD, gtE, gtF]
    refine tkH 42 ?_
    try simp only [Act.put, gtA, gtB, gtC, gtD, gtE, gtF]
    refine tkH 43 ?_
    try simp only [Act.put, gtA, gtB, gtC, gtD, gtE, gtF]
    refine tkH 44 ?_
    try simp only [Act.put, gtA, gtB, gtC, gtD, gtE, gtF]
    refine tkH 46 ?_
    try simp only [Act.put, gtA, gtB, gtC, gtD, gtE, gtF]
    refine rdH (rs := [45]) (.cons rfl (fun K hK => ?_) .nil)
    try simp only [gtA, gtB, gtC]
    go_simp
    (go_at_call 41; refine (HCv.out _ (HSx.out.trans stp)).mono ?_; rintro e w19 ⟨rfl, hS19⟩; have HSx : Hid (Step w7 w19) := Lib.hid (HSx.out.trans (Step.trans stp hS19)); have c3 : w19.cell? ⟨xb, 3, none⟩ = some (.slice A all.length C) := (HSx.out.cell hxl _).trans e3; have c4 : w19.cell? ⟨xb, 4, none⟩ = some (.int .u64 (sure : Int)) := (HSx.out.cell hxl _).trans e4; clear hS19)
    refine hK.out _ _ ?_ (fun hHeld => ?_)
    · (go_keep)
    clear hK K
    try simp only [Act.put, gtA, gtB, gtC, gtD, gtE, gtF]
    refine rdH (rs := [47]) (.cons rfl (fun K hK => ?_) .nil)
    try simp only [gtA, gtB, gtC]
    go_simp
    (go_at_call 17; refine (HNv.out _ (HSx.out.trans stp)).mono ?_; rintro e w20 ⟨rfl, hS20⟩; have HSx : Hid (Step w7 w20) := Lib.hid (HSx.out.trans (Step.trans stp hS20)); have c3 : w20.cell? ⟨xb, 3, none⟩ = some (.slice A all.length C) := (HSx.out.cell hxl _).trans e3; have c4 : w20.cell? ⟨xb, 4, none⟩ = some (.int .u64 (sure : Int)) := (HSx.out.cell hxl _).trans e4; clear hS20)
    refine hK.out _ _ ?_ (fun hHeld => ?_)
    · (go_keep)
    clear hK K
    try simp only [Act.put, gtA, gtB, gtC, gtD, gtE, gtF]
    refine tkH 48 ?_
    try simp only [Act.put, gtA, gtB, gtC, gtD, gtE, gtF]
    refine tkH 49 ?_
    try simp only [Act.put, gtA, gtB, gtC, gtD, gtE, gtF]
    refine wpAnyH_done (by kernel_rfl) ?_ _
    go_upto_region 14 with (first
      | (go_at_call 39; refine (HFm.out _ (HSx.out.trans stp)).mono ?_; rintro e w21 ⟨rfl, hw21⟩; subst w21)
      | (go_at_call 17; refine (HNm.out _ (HSx.out.trans stp)).mono ?_; rintro e w22 ⟨rfl, hS22⟩; have HSx : Hid (Step w7 w22) := Lib.hid (HSx.out.trans (Step.trans stp hS22)); clear hS22)
      | (go_at_call 16; refine (HRC.out _ (HSx.out.trans stp)).mono ?_; rintro e w23 ⟨v23, rfl, hr23, hS23⟩; obtain ⟨a23, k23, rfl, _, _, _⟩ := Ty.slice_val hr23; have HR23 := Lib.hid hr23; have HSx : Hid (Step w7 w23) := Lib.hid (HSx.out.trans (Step.trans stp hS23)); have c3 : w23.cell? ⟨xb, 3, none⟩ = some (.slice A all.length C) := (HSx.out.cell hxl _).trans e3; have HSr : Hid (Step w23 w23) := Lib.hid (Step.refl _); clear hr23 hS23))
    have HRSe : Hid (RS = (all.drop f3).take (N - f3)) := Lib.hid (by
      have h := HPF.out.2.2
      rw [← HN.out] at h
      rw [h, List.drop_take])
    have hxw : w0.heap.size ≤ xb := HR7.out.fresh xb HR7.out.inM
    have HZ7 : Hid (∀ W : World, Step w7 W → (∀ j, W.frozen? ⟨xb, j, none⟩ = false) ∧ CellsAt W xb #[.pointer (some ⟨b, 0, none⟩), lv, .int .i64 most, .slice A all.length C, .int .u64 (sure : Int)] 80) := Lib.hid (fun W hW => ⟨fun j => CellsAt.frozen (HR7.out.cells.step hW) j, HR7.out.cells.step hW⟩)
    have hwN : IntKind.u64.wrap (N : Int) = (N : Int) := by rw [IntKind.wrap_u64]; omega
    have i1 : (f3 : Int) ≤ (N : Int) := by omega
    have i2 : (N : Int) ≤ (C : Int) := by omega
    have i3 : (f3 : Int) ≤ (C : Int) := by omega
    rcases HAV.out with ⟨hA0, hall0⟩ | ⟨g, o, c', hA1⟩
    · obtain ⟨hA2, hC2⟩ : A = none ∧ C = 0 := by
        injection hA0 with h1 h2 h3
        exact ⟨h1, h3⟩
      subst hall0
      have hN0 : N = 0 := by simpa using hN1
      have hf0 : f3 = 0 := by omega
      subst hA2 hC2 hN0 hf0
      simp only [List.length_nil] at c3 e3
      have HEQ : Hid (∀ (W : World), Step w23 W → Calls Tryz.prog 18 #[.slice a23 RS.length k23, .slice none 0 0] W fun e w' => e = .returned (.bool true) ∧ Step W w') := Lib.hid (fun W hW => by
        have h8 := Ty.step _ HR7.out.rall (HSx.out.trans hW)
        have h9 := HR23.out
        have h10 : RS = [] := HRSe.out
        rw [h10] at h9 ⊢
        exact Equals_same (Ty.step _ h9 hW) h8)
      refine wp_region_held_drew (S := (fun w' => w'.cell? ⟨xb, 3, none⟩ = some (.slice none 0 0))) (by kernel_rfl) ?_ (fun hHeld => ?_)
      · (go_keep)
      refine tkH 0 ?_
      try simp only [Act.put, gtA, gtB, gtC, gtD, gtE, gtF]
      refine tkH 1 ?_
      try simp only [Act.put, gtA, gtB, gtC, gtD, gtE, gtF]
      refine tkH 2 ?_
      try simp only [Act.put, gtA, gtB, gtC, gtD, gtE, gtF]
      refine tkH 3 ?_
      try simp only [Act.put, gtA, gtB, gtC, gtD, gtE, gtF]
      refine tkH 4 ?_
      try simp only [Act.put, gtA, gtB, gtC, gtD, gtE, gtF]
      refine tkH 5 ?_
      try simp only [Act.put, gtA, gtB, gtC, gtD, gtE, gtF]
      refine tkH 6 ?_
      try simp only [Act.put, gtA, gtB, gtC, gtD, gtE, gtF]
      refine tkH 7 ?_
      try simp only [Act.put, gtA, gtB, gtC, gtD, gtE, gtF]
      refine tkH 8 ?_
      try simp only [Act.put, gtA, gtB, gtC, gtD, gtE, gtF]
      refine tkH 10 ?_
      try simp only [Act.put, gtA, gtB, gtC, gtD, gtE, gtF]
      refine rdH (rs := [9]) (.cons rfl (fun K hK => ?_) .nil)
      try simp only [gtA, gtB, gtC]
      go_simp
      (go_at_call 39; refine (HFm.out _ (HSx.out.trans (HSr.out.trans stp))).mono ?_; rintro e w24 ⟨rfl, hw24⟩; subst w24)
      refine hK.out _ _ ?_ (fun hHeld => ?_)
      · (go_keep)
      clear hK K
      try simp only [Act.put, gtA, gtB, gtC, gtD, gtE, gtF]
      refine rdH (rs := [11]) (.cons rfl (fun K hK => ?_) .nil)
      try simp only [gtA, gtB, gtC]
      go_simp
      (go_at_call 17; refine (HNm.out _ (HSx.out.trans (HSr.out.trans stp))).mono ?_; rintro e w25 ⟨rfl, hS25⟩; have HSr : Hid (Step w23 w25) := Lib.hid (HSr.out.trans (Step.trans stp hS25)); have c3 : w25.cell? ⟨xb, 3, none⟩ = some (.slice none 0 0) := (Step.cell (HSx.out.trans HSr.out) hxl _).trans e3; clear hS25)
      refine hK.out _ _ ?_ (fun hHeld => ?_)
      · (go_keep)
      clear hK K
      try simp only [Act.put, gtA, gtB, gtC, gtD, gtE, gtF]
      refine tkH 12 ?_
      try simp only [Act.put, gtA, gtB, gtC, gtD, gtE, gtF]
      refine rdH (rs := [13]) (.cons rfl (fun K hK => ?_) .nil)
      try simp only [gtA, gtB, gtC]
      go_simp
      (go_at_call 18; refine (HEQ.out _ (HSr.out.trans stp)).mono ?_; rintro e w26 ⟨rfl, hS26⟩; have HSr : Hid (Step w23 w26) := Lib.hid (HSr.out.trans (Step.trans stp hS26)); have c3 : w26.cell? ⟨xb, 3, none⟩ = some (.slice none 0 0) := (Step.cell (HSx.out.trans HSr.out) hxl _).trans e3; clear hS26)
      refine hK.out _ _ ?_ (fun hHeld => ?_)
      · (go_keep)
      clear hK K
      try simp only [Act.put, gtA, gtB, gtC, gtD, gtE, gtF]
      refine tkH 14 ?_
      try simp only [Act.put, gtA, gtB, gtC, gtD, gtE, gtF]
      refine tkH 15 ?_
      try simp only [Act.put, gtA, gtB, gtC, gtD, gtE, gtF]
      refine wpAnyH_done (by kernel_rfl) ?_ _
      go_upto_region 16 with fail
      refine wp_region_cut (S := (fun w' => w'.cell? ⟨xb, 3, none⟩ = some (.slice none 0 0))) 15 (by kernel_rfl) ?_ (fun hHeld => ?_)
      · (go_keep)
      refine tkC 0 [13, 14, 15, 16, 17, 18, 19, 20, 21] ?_
      try simp only [Act.put, gtA, gtB, gtC, gtD, gtE, gtF]
      refine tkV 1 ?_
      try simp only [Act.put, gtA, gtB, gtC, gtD, gtE, gtF]
      refine tkV 2 ?_
      try simp only [Act.put, gtA, gtB, gtC, gtD, gtE, gtF]
      refine tkC 3 [13, 14, 15, 16, 17, 18, 19, 20, 21] ?_
      try simp only [Act.put, gtA, gtB, gtC, gtD, gtE, gtF]
      refine tkC 4 [5, 6, 7, 10, 13, 14, 15, 16, 17, 18, 19, 20, 21] ?_
      try simp only [Act.put, gtA, gtB, gtC, gtD, gtE, gtF]
      refine tkC 5 [6, 7, 10, 13, 14, 15, 16, 17, 18, 19, 20, 21] ?_
      try simp only [Act.put, gtA, gtB, gtC, gtD, gtE, gtF]
      refine tkC 6 [7, 10, 13, 14, 15, 16, 17, 18, 19, 20, 21] ?_
      try simp only [Act.put, gtA, gtB, gtC, gtD, gtE, gtF]
      refine tkC 7 [10, 13, 14, 15, 16, 17, 18, 19, 20, 21] ?_
      try simp only [Act.put, gtA, gtB, gtC, gtD, gtE, gtF]
      refine tkC 8 [9, 10, 12, 13, 14, 15, 16, 17, 18, 19, 20, 21] ?_
      try simp only [Act.put, gtA, gtB, gtC, gtD, gtE, gtF]
      refine tkC 11 [12, 13, 14, 15, 16, 17, 18, 19, 20, 21] ?_
      try simp only [Act.put, gtA, gtB, gtC, gtD, gtE, gtF]
      refine rdC (rs := [9]) (.cons rfl (by decide) (fun K hK => ?_) .nil)
      try simp only [gtA, gtB, gtC]
      go_simp
      (go_at_call 17; refine (HNm.out _ (HSx.out.trans (HSr.out.trans stp))).mono ?_; rintro e w27 ⟨rfl, hS27⟩; have HSr : Hid (Step w23 w27) := Lib.hid (HSr.out.trans (Step.trans stp hS27)); have c3 : w27.cell? ⟨xb, 3, none⟩ = some (.slice none 0 0) := (Step.cell (HSx.out.trans HSr.out) hxl _).trans e3; clear hS27)
      refine hK.out _ _ ?_ (fun hHeld => ?_)
      · (go_keep)
      clear hK K
      try simp only [Act.put, gtA, gtB, gtC, gtD, gtE, gtF]
      refine tkV 10 ?_
      try simp only [Act.put, gtA, gtB, gtC, gtD, gtE, gtF]
      refine rdC (rs := [12]) (.cons rfl (by decide) (fun K hK => ?_) .nil)
      try simp only [gtA, gtB, gtC]
      go_simp
      (go_at_call 17; refine (HNm.out _ (HSx.out.trans (HSr.out.trans stp))).mono ?_; rintro e w28 ⟨rfl, hS28⟩; have HSr : Hid (Step w23 w28) := Lib.hid (HSr.out.trans (Step.trans stp hS28)); have c3 : w28.cell? ⟨xb, 3, none⟩ = some (.slice none 0 0) := (Step.cell (HSx.out.trans HSr.out) hxl _).trans e3; have hz28 := HZ7.out w28 (HSx.out.trans HSr.out); have t28 : ∀ j, w28.cell? ⟨xb, j, none⟩ = _ := fun j => CellsAt.cell hz28.2 j; have f28 := hz28.1; have HC28 := Lib.hid hz28.2; clear hz28; clear hS28)
      refine hK.out _ _ ?_ (fun hHeld => ?_)
      · (go_keep)
      clear hK K
      try simp only [Act.put, gtA, gtB, gtC, gtD, gtE, gtF]
      refine tkC 13 [14, 15, 16, 17, 18, 19, 20, 21] ?_
      try simp only [Act.put, gtA, gtB, gtC, gtD, gtE, gtF]
      refine tkC 14 [15, 16, 17, 18, 19, 20, 21] ?_
      try simp only [Act.put, gtA, gtB, gtC, gtD, gtE, gtF]
      refine rdC (rs := [15]) (.cut rfl (fun K hK => ?_))
      try simp only [gtA, gtB, gtC]
      go_simp
      refine hK.out _ _ trivial (fun hHeld => ?_)
      clear hK K
      try simp only [Act.put, gtA, gtB, gtC, gtD, gtE, gtF]
      have hTrue : True := trivial
      refine tkH 16 ?_
      try simp only [Act.put, gtA, gtB, gtC, gtD, gtE, gtF]
      refine tkH 17 ?_
      try simp only [Act.put, gtA, gtB, gtC, gtD, gtE, gtF]
      refine rdH (rs := [18]) (.cons rfl (fun K hK => ?_) .nil)
      try simp only [gtA, gtB, gtC]
      go_simp
      refine hK.out _ _ trivial (fun hHeld => ?_)
      clear hK K
      try simp only [Act.put, gtA, gtB, gtC, gtD, gtE, gtF]
      refine tkH 19 ?_
      try simp only [Act.put, gtA, gtB, gtC, gtD, gtE, gtF]
      refine tkH 20 ?_
      try simp only [Act.put, gtA, gtB, gtC, gtD, gtE, gtF]
      refine rdH (rs := [21]) (.cons rfl (fun K hK => ?_) .nil)
      try simp only [gtA, gtB, gtC]
      go_simp
      refine hK.out _ _ trivial (fun hHeld => ?_)
      clear hK K
      try simp only [Act.put, gtA, gtB, gtC, gtD, gtE, gtF]
      refine wpAnyH_done (by kernel_rfl) ?_ _
      go_wp2
      go_ret
      have hk : ∀ d, d ≠ xb → (((w28.setCell ⟨xb, 1, none⟩ (.pointer (some ⟨l7, 0, none⟩))).setCell ⟨xb, 3, none⟩ ((.slice none 0 0))).setCell ⟨xb, 4, none⟩ (.int .u64 ((0 : Nat) : Int))).heap[d]? = w28.heap[d]? := fun d hd => by
        rw [heap_setCell_other _ _ _ _ (by simpa using hd), heap_setCell_other _ _ _ _ (by simpa using hd), heap_setCell_other _ _ _ _ (by simpa using hd)]
      have HS28 : Step w7 w28 := HSx.out.trans HSr.out
      refine ⟨rfl, ?_⟩
      unfold AgainRet
      refine ⟨M7, l7, calmD seen7 1073741824, ⟨max 1 most, fs7, true⟩, s7, 0, rss7, 0, .slice none 0 0, Nat.zero_le _, ?_, ?_, ?_, ?_, rfl⟩
      · refine (HR7.out.next HS28).put (CellsAt.set (CellsAt.set (CellsAt.set HC28.out 1 _) 3 _) 4 _) hk (Step.setCell (Step.setCell (Step.setCell (HR7.out.step.trans HS28) hxw _) hxw _) hxw _) ?_ ?_
        · exact slice_takeP (k := 0) (Ty.step _ HR7.out.rall HS28) (Nat.zero_le _)
        · exact .inl ⟨rfl, rfl⟩
      · refine (ASess.other (HSE7.out.step HS28) hk (by simp)).more (Nat.le_refl _) (Nat.le_refl _) (Nat.le_refl _) (fun f rs hx => ?_)
        rw [hx.1, hx.2]
        have := HPF.out.cut
        rw [← HN.out] at this
        exact this
      · rw [HRS7.out, ← HN.out]
      · have := HPF.out.cut
        rw [← HN.out] at this
        rw [HRS7.out]
        exact this
    ·
      have hA2 : A = some ⟨g, o, none⟩ := by injection hA1
      subst hA2
      clear hA1
      have HEQ : Hid (∀ (W : World) (x : Option Addr) (n' k' : Nat), Step w23 W → x = (if C = f3 then some ⟨g, o, none⟩ else some ⟨g, o + f3, none⟩) → n' = N - f3 → k' = C - f3 → Calls Tryz.prog 18 #[.slice a23 RS.length k23, .slice x n' k'] W fun e w' => e = .returned (.bool true) ∧ Step W w') := Lib.hid (fun W x n' k' hW h1 h2 h3 => by
        subst h1 h2 h3
        have h8 := slice_partP rfl (Ty.step _ HR7.out.rall (HSx.out.trans hW)) hFN hN1
        rw [← HRSe.out] at h8
        exact Equals_same (Ty.step _ HR23.out hW) h8)
      by_cases hCf : C = f3
      · have hc1 : (C = f3) = True := by simp [hCf]
        have hc2 : ((C : Int) = (f3 : Int)) = True := by simp [hCf]
        clear hCf
        refine wp_region_held_drew (S := (fun w' => w'.cell? ⟨xb, 3, none⟩ = some (.slice (some ⟨g, o, none⟩) all.length C))) (by kernel_rfl) ?_ (fun hHeld => ?_)
        · (go_keep)
        refine tkH 0 ?_
        try simp only [Act.put, gtA, gtB, gtC, gtD, gtE, gtF]
        refine tkH 1 ?_
        try simp only [Act.put, gtA, gtB, gtC, gtD, gtE, gtF]
        refine tkH 2 ?_
        try simp only [Act.put, gtA, gtB, gtC, gtD, gtE, gtF]
        refine tkH 3 ?_
        try simp only [Act.put, gtA, gtB, gtC, gtD, gtE, gtF]
        refine tkH 4 ?_
        try simp only [Act.put, gtA, gtB, gtC, gtD, gtE, gtF]
        refine tkH 5 ?_
        try simp only [Act.put, gtA, gtB, gtC, gtD, gtE, gtF]
        refine tkH 6 ?_
        try simp only [Act.put, gtA, gtB, gtC, gtD, gtE, gtF]
        refine tkH 7 ?_
        try simp only [Act.put, gtA, gtB, gtC, gtD, gtE, gtF]
        refine tkH 8 ?_
        try simp only [Act.put, gtA, gtB, gtC, gtD, gtE, gtF]
        refine tkH 10 ?_
        try simp only [Act.put, gtA, gtB, gtC, gtD, gtE, gtF]
        refine rdH (rs := [9]) (.cons rfl (fun K hK => ?_) .nil)
        try simp only [gtA, gtB, gtC]
        go_simp
        (go_at_call 39; refine (HFm.out _ (HSx.out.trans (HSr.out.trans stp))).mono ?_; rintro e w24 ⟨rfl, hw24⟩; subst w24)
        refine hK.out _ _ ?_ (fun hHeld => ?_)
        · (go_keep)
        clear hK K
        try simp only [Act.put, gtA, gtB, gtC, gtD, gtE, gtF]
        refine rdH (rs := [11]) (.cons rfl (fun K hK => ?_) .nil)
        try simp only [gtA, gtB, gtC]
        go_simp
        (go_at_call 17; refine (HNm.out _ (HSx.out.trans (HSr.out.trans stp))).mono ?_; rintro e w25 ⟨rfl, hS25⟩; have HSr : Hid (Step w23 w25) := Lib.hid (HSr.out.trans (Step.trans stp hS25)); have c3 : w25.cell? ⟨xb, 3, none⟩ = some (.slice (some ⟨g, o, none⟩) all.length C) := (Step.cell (HSx.out.trans HSr.out) hxl _).trans e3; clear hS25)
        refine hK.out _ _ ?_ (fun hHeld => ?_)
        · (go_keep)
        clear hK K
        try simp only [Act.put, gtA, gtB, gtC, gtD, gtE, gtF]
        refine tkH 12 ?_
        try simp only [Act.put, gtA, gtB, gtC, gtD, gtE, gtF]
        refine rdH (rs := [13]) (.cons rfl (fun K hK => ?_) .nil)
        try simp only [gtA, gtB, gtC]
        go_simp
        (go_at_call 18; refine (HEQ.out _ _ _ _ (HSr.out.trans stp) (by first | rfl | simp [hc1]) (by first | rfl | omega) (by first | rfl | omega)).mono ?_; rintro e w26 ⟨rfl, hS26⟩; have HSr : Hid (Step w23 w26) := Lib.hid (HSr.out.trans (Step.trans stp hS26)); have c3 : w26.cell? ⟨xb, 3, none⟩ = some (.slice (some ⟨g, o, none⟩) all.length C) := (Step.cell (HSx.out.trans HSr.out) hxl _).trans e3; clear hS26)
        refine hK.out _ _ ?_ (fun hHeld => ?_)
        · (go_keep)
        clear hK K
        try simp only [Act.put, gtA, gtB, gtC, gtD, gtE, gtF]
        refine tkH 14 ?_
        try simp only [Act.put, gtA, gtB, gtC, gtD, gtE, gtF]
        refine tkH 15 ?_
        try simp only [Act.put, gtA, gtB, gtC, gtD, gtE, gtF]
        refine wpAnyH_done (by kernel_rfl) ?_ _
        go_upto_region 16 with fail
        refine wp_region_cut (S := (fun w' => w'.cell? ⟨xb, 3, none⟩ = some (.slice (some ⟨g, o, none⟩) all.length C))) 15 (by kernel_rfl) ?_ (fun hHeld => ?_)
        · (go_keep)
        refine tkC 0 [13, 14, 15, 16, 17, 18, 19, 20, 21] ?_
        try simp only [Act.put, gtA, gtB, gtC, gtD, gtE, gtF]
        refine tkV 1 ?_
        try simp only [Act.put, gtA, gtB, gtC, gtD, gtE, gtF]
        refine tkV 2 ?_
        try simp only [Act.put, gtA, gtB, gtC, gtD, gtE, gtF]
        refine tkC 3 [13, 14, 15, 16, 17, 18, 19, 20, 21] ?_
        try simp only [Act.put, gtA, gtB, gtC, gtD, gtE, gtF]
        refine tkC 4 [5, 6, 7, 10, 13, 14, 15, 16, 17, 18, 19, 20, 21] ?_
        try simp only [Act.put, gtA, gtB, gtC, gtD, gtE, gtF]
        refine tkC 5 [6, 7, 10, 13, 14, 15, 16, 17, 18, 19, 20, 21] ?_
        try simp only [Act.put, gtA, gtB, gtC, gtD, gtE, gtF]
        refine tkC 6 [7, 10, 13, 14, 15, 16, 17, 18, 19, 20, 21] ?_
        try simp only [Act.put, gtA, gtB, gtC, gtD, gtE, gtF]
        refine tkC 7 [10, 13, 14, 15, 16, 17, 18, 19, 20, 21] ?_
        try simp only [Act.put, gtA, gtB, gtC, gtD, gtE, gtF]
        refine tkC 8 [9, 10, 12, 13, 14, 15, 16, 17, 18, 19, 20, 21] ?_
        try simp only [Act.put, gtA, gtB, gtC, gtD, gtE, gtF]
        refine tkC 11 [12, 13, 14, 15, 16, 17, 18, 19, 20, 21] ?_
        try simp only [Act.put, gtA, gtB, gtC, gtD, gtE, gtF]
        refine rdC (rs := [9]) (.cons rfl (by decide) (fun K hK => ?_) .nil)
        try simp only [gtA, gtB, gtC]
        go_simp
        (go_at_call 17; refine (HNm.out _ (HSx.out.trans (HSr.out.trans stp))).mono ?_; rintro e w27 ⟨rfl, hS27⟩; have HSr : Hid (Step w23 w27) := Lib.hid (HSr.out.trans (Step.trans stp hS27)); have c3 : w27.cell? ⟨xb, 3, none⟩ = some (.slice (some ⟨g, o, none⟩) all.length C) := (Step.cell (HSx.out.trans HSr.out) hxl _).trans e3; clear hS27)
        refine hK.out _ _ ?_ (fun hHeld => ?_)
        · (go_keep)
        clear hK K
        try simp only [Act.put, gtA, gtB, gtC, gtD, gtE, gtF]
        refine tkV 10 ?_
        try simp only [Act.put, gtA, gtB, gtC, gtD, gtE, gtF]
        refine rdC (rs := [12]) (.cons rfl (by decide) (fun K hK => ?_) .nil)
        try simp only [gtA, gtB, gtC]
        go_simp
        (go_at_call 17; refine (HNm.out _ (HSx.out.trans (HSr.out.trans stp))).mono ?_; rintro e w28 ⟨rfl, hS28⟩; have HSr : Hid (Step w23 w28) := Lib.hid (HSr.out.trans (Step.trans stp hS28)); have c3 : w28.cell? ⟨xb, 3, none⟩ = some (.slice (some ⟨g, o, none⟩) all.length C) := (Step.cell (HSx.out.trans HSr.out) hxl _).trans e3; have hz28 := HZ7.out w28 (HSx.out.trans HSr.out); have t28 : ∀ j, w28.cell? ⟨xb, j, none⟩ = _ := fun j => CellsAt.cell hz28.2 j; have f28 := hz28.1; have HC28 := Lib.hid hz28.2; clear hz28; clear hS28)
        refine hK.out _ _ ?_ (fun hHeld => ?_)
        · (go_keep)
        clear hK K
        try simp only [Act.put, gtA, gtB, gtC, gtD, gtE, gtF]
        refine tkC 13 [14, 15, 16, 17, 18, 19, 20, 21] ?_
        try simp only [Act.put, gtA, gtB, gtC, gtD, gtE, gtF]
        refine tkC 14 [15, 16, 17, 18, 19, 20, 21] ?_
        try simp only [Act.put, gtA, gtB, gtC, gtD, gtE, gtF]
        refine rdC (rs := [15]) (.cut rfl (fun K hK => ?_))
        try simp only [gtA, gtB, gtC]
        go_simp
        refine hK.out _ _ trivial (fun hHeld => ?_)
        clear hK K
        try simp only [Act.put, gtA, gtB, gtC, gtD, gtE, gtF]
        have hTrue : True := trivial
        refine tkH 16 ?_
        try simp only [Act.put, gtA, gtB, gtC, gtD, gtE, gtF]
        refine tkH 17 ?_
        try simp only [Act.put, gtA, gtB, gtC, gtD, gtE, gtF]
        refine rdH (rs := [18]) (.cons rfl (fun K hK => ?_) .nil)
        try simp only [gtA, gtB, gtC]
        go_simp
        refine hK.out _ _ trivial (fun hHeld => ?_)
        clear hK K
        try simp only [Act.put, gtA, gtB, gtC, gtD, gtE, gtF]
        refine tkH 19 ?_
        try simp only [Act.put, gtA, gtB, gtC, gtD, gtE, gtF]
        refine tkH 20 ?_
        try simp only [Act.put, gtA, gtB, gtC, gtD, gtE, gtF]
        refine rdH (rs := [21]) (.cons rfl (fun K hK => ?_) .nil)
        try simp only [gtA, gtB, gtC]
        go_simp
        refine hK.out _ _ trivial (fun hHeld => ?_)
        clear hK K
        try simp only [Act.put, gtA, gtB, gtC, gtD, gtE, gtF]
        refine wpAnyH_done (by kernel_rfl) ?_ _
        go_wp2
        go_ret
        have hk : ∀ d, d ≠ xb → (((w28.setCell ⟨xb, 1, none⟩ (.pointer (some ⟨l7, 0, none⟩))).setCell ⟨xb, 3, none⟩ ((.slice (some ⟨g, o, none⟩) N C))).setCell ⟨xb, 4, none⟩ (.int .u64 (N : Int))).heap[d]? = w28.heap[d]? := fun d hd => by
          rw [heap_setCell_other _ _ _ _ (by simpa using hd), heap_setCell_other _ _ _ _ (by simpa using hd), heap_setCell_other _ _ _ _ (by simpa using hd)]
        have HS28 : Step w7 w28 := HSx.out.trans HSr.out
        refine ⟨rfl, ?_⟩
        unfold AgainRet
        refine ⟨M7, l7, calmD seen7 1073741824, ⟨max 1 most, fs7, true⟩, s7, f3, rss7, N, .slice (some ⟨g, o, none⟩) N C, hN1, ?_, ?_, ?_, ?_, rfl⟩
        · refine (HR7.out.next HS28).put (CellsAt.set (CellsAt.set (CellsAt.set HC28.out 1 _) 3 _) 4 _) hk (Step.setCell (Step.setCell (Step.setCell (HR7.out.step.trans HS28) hxw _) hxw _) hxw _) ?_ ?_
          · exact slice_takeP (Ty.step _ HR7.out.rall HS28) hN1
          · exact .inr ⟨g, o, C, by rw [List.length_take, Nat.min_eq_left hN1]⟩
        · refine (ASess.other (HSE7.out.step HS28) hk (by simp)).more (Nat.le_refl _) (Nat.le_refl _) (Nat.le_refl _) (fun f rs hx => ?_)
          rw [hx.1, hx.2]
          have := HPF.out.cut
          rw [← HN.out] at this
          exact this
        · rw [HRS7.out, ← HN.out]
        · have := HPF.out.cut
          rw [← HN.out] at this
          rw [HRS7.out]
          exact this

      · have hc1 : (C = f3) = False := by simp [hCf]
        have hc2 : ((C : Int) = (f3 : Int)) = False := by
          rw [eq_iff_iff, iff_false]
          omega
        clear hCf
        refine wp_region_held_drew (S := (fun w' => w'.cell? ⟨xb, 3, none⟩ = some (.slice (some ⟨g, o, none⟩) all.length C))) (by kernel_rfl) ?_ (fun hHeld => ?_)
        · (go_keep)
        refine tkH 0 ?_
        try simp only [Act.put, gtA, gtB, gtC, gtD, gtE, gtF]
        refine tkH 1 ?_
        try simp only [Act.put, gtA, gtB, gtC, gtD, gtE, gtF]
        refine tkH 2 ?_
        try simp only [Act.put, gtA, gtB, gtC, gtD, gtE, gtF]
        refine tkH 3 ?_
        try simp only [Act.put, gtA, gtB, gtC, gtD, gtE, gtF]
        refine tkH 4 ?_
        try simp only [Act.put, gtA, gtB, gtC, gtD, gtE, gtF]
        refine tkH 5 ?_
        try simp only [Act.put, gtA, gtB, gtC, gtD, gtE, gtF]
        refine tkH 6 ?_
        try simp only [Act.put, gtA, gtB, gtC, gtD, gtE, gtF]
        refine tkH 7 ?_
        try simp only [Act.put, gtA, gtB, gtC, gtD, gtE, gtF]
        refine tkH 8 ?_
        try simp only [Act.put, gtA, gtB, gtC, gtD, gtE, gtF]
        refine tkH 10 ?_
        try simp only [Act.put, gtA, gtB, gtC, gtD, gtE, gtF]
        refine rdH (rs := [9]) (.cons rfl (fun K hK => ?_) .nil)
        try simp only [gtA, gtB, gtC]
        go_simp
        (go_at_call 39; refine (HFm.out _ (HSx.out.trans (HSr.out.trans stp))).mono ?_; rintro e w24 ⟨rfl, hw24⟩; subst w24)
        refine hK.out _ _ ?_ (fun hHeld => ?_)
        · (go_keep)
        clear hK K
        try simp only [Act.put, gtA, gtB, gtC, gtD, gtE, gtF]
        refine rdH (rs := [11]) (.cons rfl (fun K hK => ?_) .nil)
        try simp only [gtA, gtB, gtC]
        go_simp
        (go_at_call 17; refine (HNm.out _ (HSx.out.trans (HSr.out.trans stp))).mono ?_; rintro e w25 ⟨rfl, hS25⟩; have HSr : Hid (Step w23 w25) := Lib.hid (HSr.out.trans (Step.trans stp hS25)); have c3 : w25.cell? ⟨xb, 3, none⟩ = some (.slice (some ⟨g, o, none⟩) all.length C) := (Step.cell (HSx.out.trans HSr.out) hxl _).trans e3; clear hS25)
        refine hK.out _ _ ?_ (fun hHeld => ?_)
        · (go_keep)
        clear hK K
        try simp only [Act.put, gtA, gtB, gtC, gtD, gtE, gtF]
        refine tkH 12 ?_
        try simp only [Act.put, gtA, gtB, gtC, gtD, gtE, gtF]
        refine rdH (rs := [13]) (.cons rfl (fun K hK => ?_) .nil)
        try simp only [gtA, gtB, gtC]
        go_simp
        (go_at_call 18; refine (HEQ.out _ _ _ _ (HSr.out.trans stp) (by first | rfl | simp [hc1]) (by first | rfl | omega) (by first | rfl | omega)).mono ?_; rintro e w26 ⟨rfl, hS26⟩; have HSr : Hid (Step w23 w26) := Lib.hid (HSr.out.trans (Step.trans stp hS26)); have c3 : w26.cell? ⟨xb, 3, none⟩ = some (.slice (some ⟨g, o, none⟩) all.length C) := (Step.cell (HSx.out.trans HSr.out) hxl _).trans e3; clear hS26)
        refine hK.out _ _ ?_ (fun hHeld => ?_)
        · (go_keep)
        clear hK K
        try simp only [Act.put, gtA, gtB, gtC, gtD, gtE, gtF]
        refine tkH 14 ?_
        try simp only [Act.put, gtA, gtB, gtC, gtD, gtE, gtF]
        refine tkH 15 ?_
        try simp only [Act.put, gtA, gtB, gtC, gtD, gtE, gtF]
        refine wpAnyH_done (by kernel_rfl) ?_ _
        go_upto_region 16 with fail
        refine wp_region_cut (S := (fun w' => w'.cell? ⟨xb, 3, none⟩ = some (.slice (some ⟨g, o, none⟩) all.length C))) 15 (by kernel_rfl) ?_ (fun hHeld => ?_)
        · (go_keep)
        refine tkC 0 [13, 14, 15, 16, 17, 18, 19, 20, 21] ?_
        try simp only [Act.put, gtA, gtB, gtC, gtD, gtE, gtF]
        refine tkV 1 ?_
        try simp only [Act.put, gtA, gtB, gtC, gtD, gtE, gtF]
        refine tkV 2 ?_
        try simp only [Act.put, gtA, gtB, gtC, gtD, gtE, gtF]
        refine tkC 3 [13, 14, 15, 16, 17, 18, 19, 20, 21] ?_
        try simp only [Act.put, gtA, gtB, gtC, gtD, gtE, gtF]
        refine tkC 4 [5, 6, 7, 10, 13, 14, 15, 16, 17, 18, 19, 20, 21] ?_
        try simp only [Act.put, gtA, gtB, gtC, gtD, gtE, gtF]
        refine tkC 5 [6, 7, 10, 13, 14, 15, 16, 17, 18, 19, 20, 21] ?_
        try simp only [Act.put, gtA, gtB, gtC, gtD, gtE, gtF]
        refine tkC 6 [7, 10, 13, 14, 15, 16, 17, 18, 19, 20, 21] ?_
        try simp only [Act.put, gtA, gtB, gtC, gtD, gtE, gtF]
        refine tkC 7 [10, 13, 14, 15, 16, 17, 18, 19, 20, 21] ?_
        try simp only [Act.put, gtA, gtB, gtC, gtD, gtE, gtF]
        refine tkC 8 [9, 10, 12, 13, 14, 15, 16, 17, 18, 19, 20, 21] ?_
        try simp only [Act.put, gtA, gtB, gtC, gtD, gtE, gtF]
        refine tkC 11 [12, 13, 14, 15, 16, 17, 18, 19, 20, 21] ?_
        try simp only [Act.put, gtA, gtB, gtC, gtD, gtE, gtF]
        refine rdC (rs := [9]) (.cons rfl (by decide) (fun K hK => ?_) .nil)
        try simp only [gtA, gtB, gtC]
        go_simp
        (go_at_call 17; refine (HNm.out _ (HSx.out.trans (HSr.out.trans stp))).mono ?_; rintro e w27 ⟨rfl, hS27⟩; have HSr : Hid (Step w23 w27) := Lib.hid (HSr.out.trans (Step.trans stp hS27)); have c3 : w27.cell? ⟨xb, 3, none⟩ = some (.slice (some ⟨g, o, none⟩) all.length C) := (Step.cell (HSx.out.trans HSr.out) hxl _).trans e3; clear hS27)
        refine hK.out _ _ ?_ (fun hHeld => ?_)
        · (go_keep)
        clear hK K
        try simp only [Act.put, gtA, gtB, gtC, gtD, gtE, gtF]
        refine tkV 10 ?_
        try simp only [Act.put, gtA, gtB, gtC, gtD, gtE, gtF]
        refine rdC (rs := [12]) (.cons rfl (by decide) (fun K hK => ?_) .nil)
        try simp only [gtA, gtB, gtC]
        go_simp
        (go_at_call 17; refine (HNm.out _ (HSx.out.trans (HSr.out.trans stp))).mono ?_; rintro e w28 ⟨rfl, hS28⟩; have HSr : Hid (Step w23 w28) := Lib.hid (HSr.out.trans (Step.trans stp hS28)); have c3 : w28.cell? ⟨xb, 3, none⟩ = some (.slice (some ⟨g, o, none⟩) all.length C) := (Step.cell (HSx.out.trans HSr.out) hxl _).trans e3; have hz28 := HZ7.out w28 (HSx.out.trans HSr.out); have t28 : ∀ j, w28.cell? ⟨xb, j, none⟩ = _ := fun j => CellsAt.cell hz28.2 j; have f28 := hz28.1; have HC28 := Lib.hid hz28.2; clear hz28; clear hS28)
        refine hK.out _ _ ?_ (fun hHeld => ?_)
        · (go_keep)
        clear hK K
        try simp only [Act.put, gtA, gtB, gtC, gtD, gtE, gtF]
        refine tkC 13 [14, 15, 16, 17, 18, 19, 20, 21] ?_
        try simp only [Act.put, gtA, gtB, gtC, gtD, gtE, gtF]
        refine tkC 14 [15, 16, 17, 18, 19, 20, 21] ?_
        try simp only [Act.put, gtA, gtB, gtC, gtD, gtE, gtF]
        refine rdC (rs := [15]) (.cut rfl (fun K hK => ?_))
        try simp only [gtA, gtB, gtC]
        go_simp
        refine hK.out _ _ trivial (fun hHeld => ?_)
        clear hK K
        try simp only [Act.put, gtA, gtB, gtC, gtD, gtE, gtF]
        have hTrue : True := trivial
        refine tkH 16 ?_
        try simp only [Act.put, gtA, gtB, gtC, gtD, gtE, gtF]
        refine tkH 17 ?_
        try simp only [Act.put, gtA, gtB, gtC, gtD, gtE, gtF]
        refine rdH (rs := [18]) (.cons rfl (fun K hK => ?_) .nil)
        try simp only [gtA, gtB, gtC]
        go_simp
        refine hK.out _ _ trivial (fun hHeld => ?_)
        clear hK K
        try simp only [Act.put, gtA, gtB, gtC, gtD, gtE, gtF]
        refine tkH 19 ?_
        try simp only [Act.put, gtA, gtB, gtC, gtD, gtE, gtF]
        refine tkH 20 ?_
        try simp only [Act.put, gtA, gtB, gtC, gtD, gtE, gtF]
        refine rdH (rs := [21]) (.cons rfl (fun K hK => ?_) .nil)
        try simp only [gtA, gtB, gtC]
        go_simp
        refine hK.out _ _ trivial (fun hHeld => ?_)
        clear hK K
        try simp only [Act.put, gtA, gtB, gtC, gtD, gtE, gtF]
        refine wpAnyH_done (by kernel_rfl) ?_ _
        go_wp2
        go_ret
        have hk : ∀ d, d ≠ xb → (((w28.setCell ⟨xb, 1, none⟩ (.pointer (some ⟨l7, 0, none⟩))).setCell ⟨xb, 3, none⟩ ((.slice (some ⟨g, o, none⟩) N C))).setCell ⟨xb, 4, none⟩ (.int .u64 (N : Int))).heap[d]? = w28.heap[d]? := fun d hd => by
          rw [heap_setCell_other _ _ _ _ (by simpa using hd), heap_setCell_other _ _ _ _ (by simpa using hd), heap_setCell_other _ _ _ _ (by simpa using hd)]
        have HS28 : Step w7 w28 := HSx.out.trans HSr.out
        refine ⟨rfl, ?_⟩
        unfold AgainRet
        refine ⟨M7, l7, calmD seen7 1073741824, ⟨max 1 most, fs7, true⟩, s7, f3, rss7, N, .slice (some ⟨g, o, none⟩) N C, hN1, ?_, ?_, ?_, ?_, rfl⟩
        · refine (HR7.out.next HS28).put (CellsAt.set (CellsAt.set (CellsAt.set HC28.out 1 _) 3 _) 4 _) hk (Step.setCell (Step.setCell (Step.setCell (HR7.out.step.trans HS28) hxw _) hxw _) hxw _) ?_ ?_
          · exact slice_takeP (Ty.step _ HR7.out.rall HS28) hN1
          · exact .inr ⟨g, o, C, by rw [List.length_take, Nat.min_eq_left hN1]⟩
        · refine (ASess.other (HSE7.out.step HS28) hk (by simp)).more (Nat.le_refl _) (Nat.le_refl _) (Nat.le_refl _) (fun f rs hx => ?_)
          rw [hx.1, hx.2]
          have := HPF.out.cut
          rw [← HN.out] at this
          exact this
        · rw [HRS7.out, ← HN.out]
        · have := HPF.out.cut
          rw [← HN.out] at this
          rw [HRS7.out]
          exact this

end Go.Proofs.YthebdlkmoailaaaGreatDoor

namespace Go.Proofs.YthebdlkmoailaaaGreatDoor
open Go.RowKit Go.Gr Go.Maps
open Go.Proofs (encStr)
set_option linter.unusedSimpArgs false
set_option linter.unusedVariables false
/-- The journal l behind k acts, the last of which answered er: it lives, or its drive is dead. -/
def Post (w : World) (M : Nat → Prop) (xb b l k : Nat) (all : List (List UInt8)) (sure : Nat) (er : Int) : Prop :=
  (er = 0 ∧ ∃ D L s f rss, ASess [119, 46] w M xb b l D L s f rss k (10000 * k) (200 * k + 100) (PC all sure) ∧ f + rss.flatten.length = all.length ∧ PC all sure f rss.flatten ∧ D.room = 1073741824) ∨
  (er = 9 ∧ ∃ D, DeadS [119, 46] w M xb b D k (10000 * k) (200 * k + 100) (PC all sure) ∧ D.room = 1073741824)
theorem DeadS.other {pre : List UInt8} {w w' : World} {M : Nat → Prop} {xb b : Nat} {D : DDr} {q U C : Nat} {P : Nat → List (List UInt8) → Prop} (h : DeadS pre w M xb b D q U C P) (hk : ∀ c, c ≠ xb → w'.heap[c]? = w.heap[c]?) (hz : w'.heap.size = w.heap.size) : DeadS pre w' M xb b D q U C P := by
  obtain ⟨⟨sf, sn, hD, hx, hn⟩, h2, h3, h4⟩ := h
  exact ⟨⟨sf, sn, hD.keep (fun c hc => ⟨hk c (fun e => hn (e ▸ hc)), hD.own c hc⟩) (fun c hc hm => ⟨hk c (fun e => hm (e ▸ hx)), hm⟩) (fun c hc => by rw [hz]; exact hD.old c hc), hx, hn⟩, h2, h3, h4⟩
section
variable {w : World} {M : Nat → Prop} {xb b l k : Nat} {all : List (List UInt8)} {sure : Nat} {er : Int}
theorem Post.next {w' : World} (h : Post w M xb b l k all sure er) (hs : Step w w') : Post w' M xb b l k all sure er := by
  rcases h with ⟨rfl, D, L, s, f, rss, h1, h2⟩ | ⟨rfl, D, h1, h2⟩
  · exact .inl ⟨rfl, D, L, s, f, rss, h1.step hs, h2⟩
  · exact .inr ⟨rfl, D, h1.step hs, h2⟩
theorem Post.other {w' : World} (h : Post w M xb b l k all sure er) (hk : ∀ c, c ≠ xb → w'.heap[c]? = w.heap[c]?) (hz : w'.heap.size = w.heap.size) : Post w' M xb b l k all sure er := by
  rcases h with ⟨rfl, D, L, s, f, rss, h1, h2⟩ | ⟨rfl, D, h1, h2⟩
  · exact .inl ⟨rfl, D, L, s, f, rss, h1.other hk hz, h2⟩
  · exact .inr ⟨rfl, D, h1.other hk hz, h2⟩
theorem Post.err (h : Post w M xb b l k all sure er) : er = 0 ∨ er = 9 := h.imp (·.1) (·.1)
theorem Post.more (h : Post w M xb b l k all sure er) : Post w M xb b l (k + 1) all sure er := by
  rcases h with ⟨rfl, D, L, s, f, rss, h1, h2⟩ | ⟨rfl, D, h1, h2⟩
  · exact .inl ⟨rfl, D, L, s, f, rss, h1.more (by omega) (by omega) (by omega) (fun _ _ h => h), h2⟩
  · exact .inr ⟨rfl, D, h1.more (by omega) (by omega) (by omega) (fun _ _ h => h), h2⟩
theorem Post.drx (h : Post w M xb b l k all sure er) : ∃ D, DrX w M xb b D ∧ CrashOk [119, 46] k (10000 * k) (PC all sure) D ∧ D.room = 1073741824 ∧ D.dead = !decide (er = 0) := by
  rcases h with ⟨rfl, D, L, s, f, rss, h1, h2, h3, h4⟩ | ⟨rfl, D, h1, h2⟩
  · exact ⟨D, h1.drx, h1.crash, h4, by rw [h1.dead]; rfl⟩
  · exact ⟨D, h1.mem, h1.crash, h2, by rw [h1.dead]; rfl⟩
theorem Post.in (h : Post w M xb b l k all sure er) : M xb := by
  obtain ⟨D, h1, _⟩ := h.drx
  exact h1.in
theorem Post.old (h : Post w M xb b l k all sure er) : ∀ c, M c → c < w.heap.size := by
  obtain ⟨D, h1, _⟩ := h.drx
  exact h1.old
theorem Post.isDead (h : Post w M xb b l k all sure er) : Calls Tryz.prog 45 #[.pointer (some ⟨b, 0, none⟩)] w fun e w' => e = .returned (.bool (!decide (er = 0))) ∧ w' = w := by
  obtain ⟨D, ⟨sf, sn, h1, _⟩, _, _, h4⟩ := h.drx
  obtain ⟨queue, hr, _⟩ := h1.row
  have := dDead_ hr
  rw [h4] at this
  exact this
theorem Post.l0 (h : Post w M xb b l k all sure 0) : w.cell? ⟨l, 0, none⟩ = some (.pointer (some ⟨b, 0, none⟩)) ∧ l < w.heap.size := by
  rcases h with ⟨_, D, L, s, f, rss, h1, _⟩ | ⟨h0, _⟩
  · obtain ⟨sf, sn, g, hD, hL, _⟩ := h1.mem
    obtain ⟨fv, h2, _⟩ := hL.row
    exact ⟨CellsAt.cell h2 0, CellsAt.lt h2⟩
  · omega
theorem Post.arm {n : Int} (h : Post w M xb b l k all sure 0) (hn : I64 n) :
    Calls Tryz.prog 44 #[.pointer (some ⟨b, 0, none⟩), .int .i64 n] w fun e w' => e = .returned (.tuple #[]) ∧ XGo w w' M M xb ∧ Post w' M xb b l k all sure 0 := by
  rcases h with ⟨_, D, L, s, f, rss, h1, h2⟩ | ⟨h0, _⟩
  · refine (h1.arm hn).mono ?_
    rintro e w' ⟨rfl, h3, h4⟩
    exact ⟨rfl, h3, .inl ⟨rfl, _, L, s, f, rss, h4, h2⟩⟩
  · omega
theorem Post.append {M2 : Nat → Prop} {v : Value} {recs : List (List UInt8)} (h : Post w M xb b l k all sure 0) (hk : k < 40) (ha : all.length ≤ 10 * k) (hrep : (Ty.slice Ty.bytes).rep w M2 [v] recs) (hr : (∀ r ∈ recs, r.length ≤ 600) ∧ recs.length ≤ 10) :
    Calls Tryz.prog 14 #[.pointer (some ⟨l, 0, none⟩), v] w fun e w' => ∃ u er : Int, e = .returned (.tuple #[.int .u64 u, .int .i64 er]) ∧ ∃ M', XGo w w' M M' xb ∧ Post w' M' xb b l (k + 1) (all ++ recs) sure er := by
  rcases h with ⟨_, D, L, s, f, rss, h1, h2, h3, h4⟩ | ⟨h0, _⟩
  · obtain ⟨hl1, hl2⟩ := h1.good.chain.last h1.good.start
    have hfew := h1.few
    have hdl := dataL_small (L := L) hr.1 hr.2 (by unfold openF; split <;> (try simp only) <;> omega) (by omega)
    refine (h1.append (U' := 10000 * (k + 1)) (P' := PC (all ++ recs) sure) (by simp) (by omega) hrep (fun r hx => by have := hr.1 r hx; omega) (by omega) (by rw [h4]; omega) (by omega) (by rw [h4]; omega) (by omega) (by omega) (fun f rs hx => hx.more) (fun j hj => h3.grow h2 hj)).mono ?_
    rintro e w' ⟨u, er, rfl, M', D', k1, k2, k3⟩
    refine ⟨u, er, rfl, M', k1, ?_⟩
    rcases k3 with ⟨rfl, L', rss', k4, k5⟩ | ⟨rfl, k4⟩
    · refine .inl ⟨rfl, D', L', s, f, rss', k4.more (Nat.le_refl _) (Nat.le_refl _) (by omega) (fun _ _ h => h), ?_, ?_, by rw [k2, h4]⟩
      · rw [k5, List.length_append, List.length_append]; omega
      · rw [k5]
        have := h3.grow h2 (Nat.le_refl recs.length)
        rwa [List.take_length] at this
    · exact .inr ⟨rfl, D', k4.more (Nat.le_refl _) (Nat.le_refl _) (by omega) (fun _ _ h => h), by rw [k2, h4]⟩
  · omega
theorem Post.flush (h : Post w M xb b l k all sure 0) (hk : k < 40) :
    Calls Tryz.prog 31 #[.pointer (some ⟨b, 0, none⟩)] w fun e w' => ∃ er : Int, e = .returned (.int .i64 er) ∧ ∃ M', XGo w w' M M' xb ∧ Post w' M' xb b l (k + 1) all (if er = 0 then all.length else sure) er := by
  rcases h with ⟨_, D, L, s, f, rss, h1, h2, h3, h4⟩ | ⟨h0, _⟩
  · refine (h1.flush (P' := PC all all.length) (by omega) (h3.sure h2)).mono ?_
    rintro e w' ⟨er, rfl, M', D', k1, k2, k3⟩
    refine ⟨er, rfl, M', k1, ?_⟩
    rcases k3 with ⟨rfl, k3⟩ | ⟨rfl, k3⟩
    · rw [if_pos rfl]
      exact .inl ⟨rfl, D', L, s, f, rss, k3.more (by omega) (by omega) (by omega) (fun _ _ h => h), h2, h3.sure h2, by rw [k2, h4]⟩
    · rw [if_neg (by omega)]
      exact .inr ⟨rfl, D', k3.more (by omega) (by omega) (by omega) (fun _ _ h => h), by rw [k2, h4]⟩
  · omega
theorem Post.close (h : Post w M xb b l k all sure 0) (hk : k < 40) :
    Calls Tryz.prog 32 #[.pointer (some ⟨l, 0, none⟩)] w fun e w' => ∃ er : Int, e = .returned (.int .i64 er) ∧ ∃ M', XGo w w' M M' xb ∧ Post w' M' xb b l (k + 1) all (if er = 0 then all.length else sure) er := by
  rcases h with ⟨_, D, L, s, f, rss, h1, h2, h3, h4⟩ | ⟨h0, _⟩
  · refine (h1.close (P' := PC all all.length) (by omega) (h3.sure h2)).mono ?_
    rintro e w' ⟨er, rfl, M', D', k1, k2, k3⟩
    refine ⟨er, rfl, M', k1, ?_⟩
    rcases k3 with ⟨rfl, L', k3⟩ | ⟨rfl, k3⟩
    · rw [if_pos rfl]
      exact .inl ⟨rfl, D', L', s, f, rss, k3.more (by omega) (by omega) (by omega) (fun _ _ h => h), h2, h3.sure h2, by rw [k2, h4]⟩
    · rw [if_neg (by omega)]
      exact .inr ⟨rfl, D', k3.more (by omega) (by omega) (by omega) (fun _ _ h => h), by rw [k2, h4]⟩
  · omega
theorem Post.drop {below : Nat} (h : Post w M xb b l k all sure 0) (hk : k < 40) (hb : below < 18446744073709551616) :
    Calls Tryz.prog 33 #[.pointer (some ⟨l, 0, none⟩), .int .u64 (below : Int)] w fun e w' => ∃ er : Int, e = .returned (.int .i64 er) ∧ ∃ M', XGo w w' M M' xb ∧ Post w' M' xb b l (k + 1) all sure er := by
  rcases h with ⟨_, D, L, s, f, rss, h1, h2, h3, h4⟩ | ⟨h0, _⟩
  · refine (h1.drop (by simp) (by omega) hb (by omega) (fun f r rs hx => hx.drop) h3).mono ?_
    rintro e w' ⟨er, rfl, M', D', k1, k2, k3⟩
    refine ⟨er, rfl, M', k1, ?_⟩
    rcases k3 with ⟨rfl, L', s', f', rss', k3, k4, k5⟩ | ⟨rfl, k3⟩
    · exact .inl ⟨rfl, D', L', s', f', rss', k3.more (by omega) (by omega) (by omega) (fun _ _ h => h), by omega, k4, by rw [k2, h4]⟩
    · exact .inr ⟨rfl, D', k3.more (by omega) (by omega) (by omega) (fun _ _ h => h), by rw [k2, h4]⟩
  · omega
theorem Post.look (h : Post w M xb b l k all sure 0) : ∃ f n : Nat, f ≤ n ∧ ∀ W : World, Step w W → (Calls Tryz.prog 39 #[.pointer (some ⟨l, 0, none⟩)] W fun e w' => e = .returned (.int .u64 (f : Int)) ∧ w' = W) ∧ (Calls Tryz.prog 17 #[.pointer (some ⟨l, 0, none⟩)] W fun e w' => e = .returned (.int .u64 (n : Int)) ∧ Step W w') := by
  rcases h with ⟨_, D, L, s, f, rss, h1, h2, h3, h4⟩ | ⟨h0, _⟩
  · refine ⟨f, f + rss.flatten.length, Nat.le_add_right _ _, fun W hW => ?_⟩
    obtain ⟨sf, sn, g, hD, hL, _⟩ := h1.mem
    obtain ⟨fv, j1, j2, _⟩ := hL.row
    have k1 := jFirst_ (CellsAt.step j1 hW) (j2.step hW)
    have k2 := jNext_ (CellsAt.step j1 hW) (j2.step hW)
    rw [firstL_le h1.good.chain h1.good.start] at k1
    rw [(h1.good.chain.last h1.good.start).2] at k2
    exact ⟨k1, k2⟩
  · omega
end
/-- A round: the run, its journal behind k acts, the last of which answered er. -/
def CrAt (w0 w : World) (xb b : Nat) (most : Int) (rv : Value) (acts : List DAct) (k : Nat) (er : Int) : Prop :=
  ∃ M l av all sure, RunAt w0 w M xb b (.pointer (some ⟨l, 0, none⟩)) most av all sure rv acts ∧ Post w M xb b l k all sure er ∧ all.length ≤ 10 * k
theorem CrAt.next {w0 w w' : World} {xb b k : Nat} {most : Int} {rv : Value} {acts : List DAct} {er : Int} (h : CrAt w0 w xb b most rv acts k er) (hs : Step w w') : CrAt w0 w' xb b most rv acts k er := by
  obtain ⟨M, l, av, all, sure, h1, h2, h3⟩ := h
  exact ⟨M, l, av, all, sure, h1.next hs, h2.next hs, h3⟩
theorem AgainRet.cr {w0 w' : World} {xb b k : Nat} {most : Int} {all : List (List UInt8)} {rv : Value} {acts : List DAct} (h : AgainRet w0 w' xb b most all rv acts k (10000 * k)) (h3 : all.length ≤ 10 * k) : CrAt w0 w' xb b most rv acts k 0 := by
  obtain ⟨M', l', D', L', s, f, rss, n, av', j1, j2, j3, j4, j5, j6⟩ := h
  have hl : (all.take n).length = n := by rw [List.length_take]; omega
  exact ⟨M', l', av', _, n, j2, .inl ⟨rfl, D', L', s, f, rss, j3.more (Nat.le_refl _) (Nat.le_refl _) (by omega) (fun _ _ h => h), by rw [hl]; exact j4, j5, j6⟩, by rw [hl]; omega⟩
theorem CrAt.small {w0 w : World} {xb b k n : Nat} {most : Int} {rv : Value} {acts : List DAct} {er : Int} (h : CrAt w0 w xb b most rv acts k er) (hn : n < 1000) :
    Calls Tryz.prog 28 #[rv, .int .i64 (n : Int)] w fun e w' => ∃ a c, e = .returned (.slice a (smallB acts n).length c) ∧ CrAt w0 w' xb b most (.slice a (smallB acts n).length c) (smallB acts n) k er := by
  obtain ⟨M, l, av, all, sure, h1, h2, h3⟩ := h
  refine (lSmall_ h2.old h1.row hn).mono ?_
  rintro e w' ⟨v, rfl, hA, hS⟩
  obtain ⟨a, c, rfl⟩ := hA.val
  have hr := h1.next hS
  exact ⟨a, c, rfl, M, l, av, all, sure, ⟨hr.cells, hr.inM, hr.step, hr.fresh, hr.rall, Own.rep' hA (fun b hb hm => by
    have h4 := (hA.lt hb).1
    have h5 := h2.old b hm
    omega), hr.form⟩, h2.next hS, h3⟩
/-- The same, with an act in cells of its own, and its records. -/
def CrRd (w0 w : World) (xb b : Nat) (most : Int) (rv : Value) (acts : List DAct) (fb : Nat) (cs : Array Value) (cv : Value) (recs : List (List UInt8)) (k : Nat) (er : Int) : Prop :=
  ∃ M l av all sure, RunAt w0 w M xb b (.pointer (some ⟨l, 0, none⟩)) most av all sure rv acts ∧ Post w M xb b l k all sure er ∧ all.length ≤ 10 * k ∧ CellsAt w fb cs 58 ∧ ¬ M fb ∧ (Ty.slice Ty.bytes).rep w M [cv] recs
section
variable {w0 w : World} {xb b fb k : Nat} {most : Int} {rv cv : Value} {recs : List (List UInt8)} {acts : List DAct} {cs : Array Value} {er : Int}
theorem CrRd.next {w' : World} (h : CrRd w0 w xb b most rv acts fb cs cv recs k er) (hs : Step w w') : CrRd w0 w' xb b most rv acts fb cs cv recs k er := by
  obtain ⟨M, l, av, all, sure, h1, h2, h3, h4, h5, h6⟩ := h
  exact ⟨M, l, av, all, sure, h1.next hs, h2.next hs, h3, h4.step hs, h5, Ty.step _ h6 hs⟩
theorem CrRd.cr (h : CrRd w0 w xb b most rv acts fb cs cv recs k er) : CrAt w0 w xb b most rv acts k er := by
  obtain ⟨M, l, av, all, sure, h1, h2, h3, _⟩ := h
  exact ⟨M, l, av, all, sure, h1, h2, h3⟩
theorem CrRd.c0 (h : CrRd w0 w xb b most rv acts fb cs cv recs k er) : w.cell? ⟨xb, 0, none⟩ = some (.pointer (some ⟨b, 0, none⟩)) := by
  obtain ⟨M, l, av, all, sure, h1, _⟩ := h
  exact h1.cells.cell 0
theorem CrRd.act (h : CrRd w0 w xb b most rv acts fb cs cv recs k er) : CellsAt w fb cs 58 := by
  obtain ⟨M, l, av, all, sure, _, _, _, h4, _⟩ := h
  exact h4
theorem CrRd.step0 (h : CrRd w0 w xb b most rv acts fb cs cv recs k er) : Step w0 w := by
  obtain ⟨M, l, av, all, sure, h1, _⟩ := h
  exact h1.step
theorem act_go {w' : World} {M M' : Nat → Prop} (h : CellsAt w fb cs 58) (hn : ¬ M fb) (g : XGo w w' M M' xb) : CellsAt w' fb cs 58 ∧ ¬ M' fb :=
  ⟨h.kept (g.turn.block fb (CellsAt.lt h) (fun hx => hn hx.1)), fun hx => hn (g.less fb (CellsAt.lt h) hx)⟩
theorem CrRd.arm {n : Int} (h : CrRd w0 w xb b most rv acts fb cs cv recs k 0) (hn : I64 n) :
    Calls Tryz.prog 44 #[.pointer (some ⟨b, 0, none⟩), .int .i64 n] w fun e w' => e = .returned (.tuple #[]) ∧ CrRd w0 w' xb b most rv acts fb cs cv recs k 0 := by
  obtain ⟨M, l, av, all, sure, h1, h2, h3, h4, h5, h6⟩ := h
  refine (h2.arm hn).mono ?_
  rintro e w' ⟨rfl, k1, k2⟩
  obtain ⟨k3, k4⟩ := act_go h4 h5 k1
  exact ⟨rfl, M, l, av, all, sure, h1.go k1 k2.in, k2, h3, k3, k4, k1.cgo.keep h6⟩
theorem CrRd.isDead (h : CrRd w0 w xb b most rv acts fb cs cv recs k er) : Calls Tryz.prog 45 #[.pointer (some ⟨b, 0, none⟩)] w fun e w' => e = .returned (.bool (!decide (er = 0))) ∧ w' = w := by
  obtain ⟨M, l, av, all, sure, _, h2, _⟩ := h
  exact h2.isDead
theorem CrRd.err (h : CrRd w0 w xb b most rv acts fb cs cv recs k er) : er = 0 ∨ er = 9 := by
  obtain ⟨M, l, av, all, sure, _, h2, _⟩ := h
  exact h2.err
end
theorem CrAt.again {w0 w : World} {xb b k : Nat} {most : Int} {rv : Value} {acts : List DAct} {er arm keep : Int} (h : CrAt w0 w xb b most rv acts k er) (hm : I64 most) (ha : 0 ≤ arm ∧ arm < 100) (hk : I64 keep) (hq : k ≤ 50) :
    Calls Tryz.prog 43 #[.pointer (some ⟨xb, 0, none⟩), .int .i64 arm, .int .i64 keep] w fun e w' => e = .returned (.bool true) ∧ CrAt w0 w' xb b most rv acts k 0 := by
  obtain ⟨M, l, av, all, sure, h1, h2, h3⟩ := h
  obtain ⟨D, k1, k2, k3, _⟩ := h2.drx
  refine (again_ h1 k1 k2 k3 hm ha hk (by omega) (by omega) (by omega)).mono ?_
  rintro e w' ⟨rfl, M', l', D', L', s, f, rss, n, av', j1, j2, j3, j4, j5, j6⟩
  have hl : (all.take n).length = n := by rw [List.length_take]; omega
  exact ⟨rfl, M', l', av', _, n, j2, .inl ⟨rfl, D', L', s, f, rss, j3.more (Nat.le_refl _) (Nat.le_refl _) (by omega) (fun _ _ h => h), by rw [hl]; exact j4, j5, j6⟩, by rw [hl]; omega⟩
theorem CrAt.arm {w0 w : World} {xb b k : Nat} {most : Int} {rv : Value} {acts : List DAct} {n : Int} (h : CrAt w0 w xb b most rv acts k 0) (hn : I64 n) :
    Calls Tryz.prog 44 #[.pointer (some ⟨b, 0, none⟩), .int .i64 n] w fun e w' => e = .returned (.tuple #[]) ∧ CrAt w0 w' xb b most rv acts k 0 := by
  obtain ⟨M, l, av, all, sure, h1, h2, h3⟩ := h
  refine (h2.arm hn).mono ?_
  rintro e w' ⟨rfl, k1, k2⟩
  exact ⟨rfl, M, l, av, all, sure, h1.go k1 k2.in, k2, h3⟩
theorem CrAt.c0 {w0 w : World} {xb b k : Nat} {most : Int} {rv : Value} {acts : List DAct} {er : Int} (h : CrAt w0 w xb b most rv acts k er) : w.cell? ⟨xb, 0, none⟩ = some (.pointer (some ⟨b, 0, none⟩)) := by
  obtain ⟨M, l, av, all, sure, h1, _⟩ := h
  exact h1.cells.cell 0
theorem CrAt.step0 {w0 w : World} {xb b k : Nat} {most : Int} {rv : Value} {acts : List DAct} {er : Int} (h : CrAt w0 w xb b most rv acts k er) : Step w0 w := by
  obtain ⟨M, l, av, all, sure, h1, _⟩ := h
  exact h1.step
theorem CrAt.row {w0 w : World} {xb b k : Nat} {most : Int} {rv : Value} {acts : List DAct} {er : Int} (h : CrAt w0 w xb b most rv acts k er) : ∃ M, (Ty.slice tAct).rep w M [rv] acts := by
  obtain ⟨M, l, av, all, sure, h1, _⟩ := h
  exact ⟨M, h1.row⟩
end Go.Proofs.YthebdlkmoailaaaGreatDoor

namespace Go.Proofs.YthebdlkmoailaaaGreatDoor
open Go.RowKit Go.Gr Go.Maps
open Go.Proofs (encStr)
set_option linter.unusedSimpArgs false
set_option linter.unusedVariables false
/-- The run before its first opening. -/
theorem run_new {w w2 w3 : World} {b xb : Nat} {most : Int} {rv : Value} {acts : List DAct} (hS : Step w w2) (hbw : w.heap.size ≤ b) (hb : DrAt w2 b (.map none) (.map none) (.slice none 0 0) (max 0 1073741824) false 0 false) (hx : xb = w2.heap.size) (hS3 : Step w2 w3) (hc : CellsAt w3 xb #[.pointer (some ⟨b, 0, none⟩), .pointer none, .int .i64 most, .slice none 0 0, .int .u64 0] 80) (hr : (Ty.slice tAct).rep w (fun c => w.heap.size ≤ c) [rv] acts) :
    RunAt w w3 (fun c => c = b ∨ c = xb) xb b (.pointer none) most (.slice none 0 0) [] 0 rv acts ∧ DrX w3 (fun c => c = b ∨ c = xb) xb b (calmD [] 1073741824) ∧ CrashOk [119, 46] 0 (10000 * 0) (PC [] 0) (calmD [] 1073741824) := by
  have hbl : b < w2.heap.size := CellsAt.lt hb
  have hxl : xb < w3.heap.size := CellsAt.lt hc
  have hz := hS.size
  have hD := DriveAt.new hb
  refine ⟨⟨hc, .inr rfl, hS.trans hS3, fun c hc => by rcases hc with rfl | rfl <;> omega, ⟨none, 0, rfl, Nat.le_refl _, by simp [maxLen], by simp, fun h => absurd h (by simp)⟩, Ty.keep _ hr (fun c hc hm => ⟨(hS.trans hS3).heap hc, fun hx => by rcases hx with hx | hx <;> omega⟩), .inl ⟨rfl, rfl⟩⟩, ⟨none, none, ?_, .inr rfl, ?_⟩, ?_⟩
  · exact hD.keep (fun c hc => ⟨hS3.heap (hD.lt hc), .inl (hD.own c hc)⟩) (fun c hc hm => ⟨hS3.heap hc, fun hx => hx.elim hm (fun hx => by omega)⟩) (fun c hc => by rcases hc with rfl | rfl <;> omega)
  · intro h
    rcases h with h | h | h
    · omega
    · cases h
    · cases h
  · exact CrashOk.calm (GoodJ.st (s := 0) (f := 0) (fs := []) (rss := []) ⟨trivial, NamesIn.nil _, List.Pairwise.nil, fun _ => ⟨rfl, rfl⟩⟩ (Nat.le_refl _) (by show usedB [] ≤ _; exact Nat.zero_le _) ⟨by simp, by simp, by simp⟩)
theorem own_form {α : Type} {E : Ty α} {e : TypeId} {w : World} {M : Nat → Prop} {B : Nat} {v : Value} {xs : List α} (h : Gr.Own E e w M B v xs) : (v = .slice none 0 0 ∧ xs = []) ∨ ∃ g o c, v = .slice (some ⟨g, o, none⟩) xs.length c := by
  obtain ⟨_, cells, ho, _⟩ := h
  rcases ho.2 with ⟨hv, h0⟩ | ⟨g, cap, cur, hv, _⟩
  · exact .inl ⟨hv, List.length_eq_zero_iff.1 h0⟩
  · exact .inr ⟨g, 0, cap, hv⟩
set_option maxRecDepth 100000 in
set_option maxHeartbeats 8000000 in
theorem jCrashesL_ {w : World} {M : Nat → Prop} {most : Int} {v : Value} {acts : List DAct} (hAW : ∀ W : World, Calls Tryz.prog 10 #[] W fun e w' => e = .returned (.bool true) ∧ Step W w') (h : (Ty.slice tAct).rep w M [v] acts) (hm : I64 most) :
    Calls Tryz.prog 9 #[.int .i64 most, v] w fun e w' => e = .returned (.bool true) ∧ Step w w' := by
  obtain ⟨a, c, rfl, _, _, hl⟩ := Ty.slice_val h
  rw [lim_eq] at hl
  have H : Hid ((Ty.slice tAct).rep w (fun c => w.heap.size ≤ c) [.slice a acts.length c] acts) := Lib.hid (Ty.keep _ h (fun b hb _ => ⟨rfl, by omega⟩))
  have HAW := Lib.hid hAW
  clear h hAW
  go_enter Tryz.func9, Tryz.ntmps9
  go_upto_region 3 with (go_at_call 10; refine (HAW.out _).mono ?_; rintro e w1 ⟨rfl, hS1⟩; have HS1 : Hid (Step w w1) := Lib.hid (Step.trans stp hS1); clear hS1)
  have hz1 := HS1.out.size
  go_upto_region 4 with (go_at_call 11; refine (dNew_ _ 1073741824).mono ?_; rintro e w2 ⟨rfl, hb2, hS2⟩; have HB2 := Lib.hid hb2; have HS2 : Hid (Step w w2) := Lib.hid (HS1.out.trans (Step.trans stp hS2)); clear hb2 hS2)
  obtain ⟨b, hb⟩ : ∃ b, b = w1.heap.size := ⟨_, rfl⟩
  rw [← hb] at HB2 ⊢
  have hbw : w.heap.size ≤ b := by omega
  obtain ⟨xb, hxb⟩ : ∃ xb, xb = w2.heap.size := ⟨_, rfl⟩
  rw [← hxb]
  refine wp_code (fun wx => CellsAt wx xb #[.pointer (some ⟨b, 0, none⟩), .pointer none, .int .i64 most, .slice none 0 0, .int .u64 0] 80 ∧ Step w2 wx) ⟨CellsAt.new hxb, by (repeat (first | exact Step.refl _ | refine Step.alloc ?_ _ | refine Step.drew ?_ | refine Step.drewN ?_ _ | refine Step.setCell ?_ (by first | exact Nat.le_refl _ | assumption | omega | (simp; done) | (simp; omega)) _ | assumption | refine Step.trans ?_ (by assumption : Step _ _)))⟩ ?_
  rintro w3 ⟨hc3, hS3⟩
  have HRN := Lib.hid (run_new HS2.out hbw HB2.out hxb hS3 hc3 H.out)
  clear hb hxb hc3 hS3 HB2 HS1 HS2 H HAW hz1
  go_upto_region 6 with (go_at_call 43; refine (again_ (HRN.out.1.next stp) (HRN.out.2.1.step stp) HRN.out.2.2 rfl hm (by omega) (by unfold I64; omega) (by omega) (by omega) (by simp)).mono ?_; rintro e w4 ⟨rfl, hag⟩; have HCR := Lib.hid (hag.cr (Nat.zero_le _)); clear hag)
  clear HRN
  go_upto_region 7 with (go_at_call 28; refine (CrAt.small (n := 30) (HCR.out.next stp) (by omega)).mono ?_; rintro e w5 ⟨ra, rc, rfl, hcr5⟩; have HC5 := Lib.hid hcr5; clear hcr5)
  have HSH : Hid (∀ x ∈ smallB acts 30, (∀ r ∈ x.records, r.length ≤ 600) ∧ x.records.length ≤ 10) := Lib.hid (fun x hx => smallB_mem hx)
  have hn : (smallB acts 30).length ≤ 30 := by unfold smallB; rw [List.length_map, List.length_take]; omega
  generalize smallB acts 30 = AS at *
  obtain ⟨n, hN⟩ : ∃ n, n = AS.length := ⟨_, rfl⟩
  rw [← hN] at HC5 hn ⊢
  have HN := Lib.hid hN
  clear hN HCR
  go_upto_block 0 with fail
  go_loopw [21] (fun iv w' => ∃ k : Nat, iv = .int .i64 (k : Int) ∧ k ≤ n ∧ Hid (CrAt w w' xb b most (.slice ra n rc) AS k 0)) (fun iv _ => n - (Go.RowKit.intOf iv).toNat)
  case atStart => exact ⟨0, rfl, Nat.zero_le _, Lib.hid (HC5.out.next stp)⟩
  case round =>
    obtain ⟨k, rfl, hk, HCR⟩ := hrel
    by_cases hlt : k < n
    · have hd : decide ((k : Int) < (n : Int)) = true := decide_eq_true (by omega)
      have hlt2 : k < AS.length := by rw [← HN.out]; exact hlt
      obtain ⟨MR, lR, avR, allR, sureR, hR1, hR2, hR3⟩ := HCR.out
      have HR1 := Lib.hid hR1
      have HR2 := Lib.hid hR2
      have HR3 := Lib.hid hR3
      obtain ⟨g9, o9, v9, hra, hg9, q0, q1, q2, q3, q4, hr9⟩ := tAct.cells hR1.row hlt2
      clear hR1 hR2 hR3
      subst hra
      have HSX := Lib.hid (HSH.out _ (List.getElem_mem hlt2))
      have HLT : Hid (k + 1 ≤ n) := Lib.hid hlt
      generalize AS[k] = X at *
      obtain ⟨v, hv, hx1, hx2, hx3, hx4, hx5⟩ := hr9
      obtain rfl : v9 = v := by simpa using hv
      clear hv hlt2
      obtain ⟨kd, recs, an, arm, kp⟩ := X
      simp only at q0 q1 q2 q3 q4 hx1 hx2 hx3 hx4 hx5 HSX
      obtain ⟨r9, rc9, rfl, _, _, _⟩ := Ty.slice_val hx2
      have HR := Lib.hid hx2
      have hk30 : k < 30 := by omega
      clear hx2
      go_upto_region 9 with fail
      refine wp_code (fun wx => CellsAt wx wr.heap.size #[.int .i64 kd, .slice r9 recs.length rc9, .int .u64 (an : Int), .int .i64 arm, .int .i64 kp] 58 ∧ Step wr wx) ⟨CellsAt.new rfl, by (repeat (first | exact Step.refl _ | refine Step.alloc ?_ _ | refine Step.drew ?_ | refine Step.drewN ?_ _ | refine Step.setCell ?_ (by first | exact Nat.le_refl _ | assumption | omega | (simp; done) | (simp; omega)) _ | assumption | refine Step.trans ?_ (by assumption : Step _ _)))⟩ ?_
      rintro w3 ⟨hb3, hS3⟩
      obtain ⟨fb, hfb⟩ : ∃ fb, fb = wr.heap.size := ⟨_, rfl⟩
      rw [← hfb] at hb3 ⊢
      have HRD : Hid (CrRd w w3 xb b most (.slice (some ⟨g9, o9, none⟩) n rc) AS fb #[.int .i64 kd, .slice r9 recs.length rc9, .int .u64 (an : Int), .int .i64 arm, .int .i64 kp] (.slice r9 recs.length rc9) recs k 0) := Lib.hid (by
        exact ⟨MR, lR, avR, allR, sureR, HR1.out.next hS3, HR2.out.next hS3, HR3.out, hb3, fun hx => by have := HR2.out.old fb hx; omega, Ty.step _ HR.out hS3⟩)
      have k3 : w3.cell? ⟨fb, 3, none⟩ = some (.int .i64 arm) := HRD.out.act.cell 3
      have c0 : w3.cell? ⟨xb, 0, none⟩ = some (.pointer (some ⟨b, 0, none⟩)) := HRD.out.c0
      clear hS3 hb3 q0 q1 q2 q3 q4 hfb HCR hg9 HR HR1 HR2 HR3
      go_upto_if 27 with fail
      go_cut [0] (fun s0 wx => s0 = .int .i64 most ∧ CrRd w wx xb b most (.slice (some ⟨g9, o9, none⟩) n rc) AS fb #[.int .i64 kd, .slice r9 recs.length rc9, .int .u64 (an : Int), .int .i64 arm, .int .i64 kp] (.slice r9 recs.length rc9) recs k 0)
      case first =>
        by_cases hz : 0 < arm
        · have hdz : decide (0 < arm) = true := decide_eq_true hz
          have hwa : IntKind.i64.wrap (arm - 1) = arm - 1 := by unfold I64 at hx4; rw [IntKind.wrap_i64]; omega
          go_upto_region 10 with fail
          refine wp_region_held_drew (S := (fun w' => w'.cell? ⟨xb, 0, none⟩ = some (.pointer (some ⟨b, 0, none⟩)) ∧ w'.cell? ⟨fb, 3, none⟩ = some (.int .i64 arm))) (by kernel_rfl) ?_ (fun hHeld => ?_)
          · (go_keep)
          refine tkH 0 ?_
          try simp only [Act.put, gtA, gtB, gtC, gtD, gtE, gtF]
          refine tkH 1 ?_
          try simp only [Act.put, gtA, gtB, gtC, gtD, gtE, gtF]
          refine tkH 2 ?_
          try simp only [Act.put, gtA, gtB, gtC, gtD, gtE, gtF]
          refine tkH 3 ?_
          try simp only [Act.put, gtA, gtB, gtC, gtD, gtE, gtF]
          refine tkH 4 ?_
          try simp only [Act.put, gtA, gtB, gtC, gtD, gtE, gtF]
          refine tkH 5 ?_
          try simp only [Act.put, gtA, gtB, gtC, gtD, gtE, gtF]
          refine tkH 6 ?_
          try simp only [Act.put, gtA, gtB, gtC, gtD, gtE, gtF]
          refine rdH (rs := [7]) (.cons rfl (fun K hK => ?_) .nil)
          try simp only [gtA, gtB, gtC]
          go_simp
          (go_at_call 44; refine (CrRd.arm (n := arm - 1) (HRD.out.next stp) (by unfold I64 at hx4 ⊢; omega)).mono ?_; rintro e w5 ⟨rfl, hrd5⟩; have c05 : w5.cell? ⟨xb, 0, none⟩ = some (.pointer (some ⟨b, 0, none⟩)) := hrd5.c0; have k35 : w5.cell? ⟨fb, 3, none⟩ = some (.int .i64 arm) := hrd5.act.cell 3; have HRD5 := Lib.hid hrd5; clear hrd5)
          refine hK.out _ _ ?_ (fun hHeld => ?_)
          · (go_keep)
          clear hK K
          try simp only [Act.put, gtA, gtB, gtC, gtD, gtE, gtF]
          refine wpAnyH_done (by kernel_rfl) ?_ _
          go_wp2
          go_meet
          case rel => exact ⟨rfl, HRD5.out.next stp⟩
        · have hdz : decide (0 < arm) = false := decide_eq_false hz
          go_wp2
          go_meet
          case rel => exact ⟨rfl, HRD.out.next stp⟩
      case rest =>
        obtain ⟨rfl, hrd⟩ := hcut
        refine open_kkQ (by assumption) ?_
        have HRD2 := Lib.hid hrd
        have k0 : wc.cell? ⟨fb, 0, none⟩ = some (.int .i64 kd) := hrd.act.cell 0
        clear hrd HRD k3 c0
        go_upto_block 2 with fail
        go_cut [8] (fun s8 wx => ∃ er : Int, s8 = .int .i64 er ∧ CrRd w wx xb b most (.slice (some ⟨g9, o9, none⟩) n rc) AS fb #[.int .i64 kd, .slice r9 recs.length rc9, .int .u64 (an : Int), .int .i64 arm, .int .i64 kp] (.slice r9 recs.length rc9) recs (k + 1) er)
        case first =>
          obtain ⟨M1, l, av, all, sure, hrun, hpost, hal, hact, hnf, hrec⟩ := HRD2.out
          have HREC := Lib.hid hrec
          obtain ⟨A, C, hA⟩ : ∃ A C, av = .slice A all.length C := by
            obtain ⟨a, c, h, _⟩ := Ty.slice_val hrun.rall
            exact ⟨a, c, h⟩
          subst hA
          have k1 : wc.cell? ⟨fb, 1, none⟩ = some (.slice r9 recs.length rc9) := hact.cell 1
          have k2 : wc.cell? ⟨fb, 2, none⟩ = some (.int .u64 (an : Int)) := hact.cell 2
          have c1 : wc.cell? ⟨xb, 1, none⟩ = some (.pointer (some ⟨l, 0, none⟩)) := hrun.cells.cell 1
          have c4 : wc.cell? ⟨xb, 4, none⟩ = some (.int .u64 (sure : Int)) := hrun.cells.cell 4
          have l0 : wc.cell? ⟨l, 0, none⟩ = some (.pointer (some ⟨b, 0, none⟩)) := hpost.l0.1
          have HRU := Lib.hid hrun
          have HPO := Lib.hid hpost
          have HAC := Lib.hid hact
          have HNF := Lib.hid hnf
          have hwA : IntKind.u64.wrap (all.length : Int) = (all.length : Int) := by rw [IntKind.wrap_u64]; omega
          have hxw : w.heap.size ≤ xb := hrun.fresh xb hrun.inM
          clear hrun hpost hact hnf hrec HRD2
          by_cases d1 : kd = 1
          · subst d1
            have hxlw := HRU.out.cells.lt
            have hflw := HAC.out.lt
            go_upto_region 14 with fail
            refine wp_region_held_drew (S := (fun w' => w'.cell? ⟨xb, 1, none⟩ = some (.pointer (some ⟨l, 0, none⟩)) ∧ w'.cell? ⟨fb, 1, none⟩ = some (.slice r9 recs.length rc9))) (by kernel_rfl) ?_ (fun hHeld => ?_)
            · (go_keep)
            refine tkH 0 ?_
            try simp only [Act.put, gtA, gtB, gtC, gtD, gtE, gtF]
            refine tkH 1 ?_
            try simp only [Act.put, gtA, gtB, gtC, gtD, gtE, gtF]
            refine tkH 2 ?_
            try simp only [Act.put, gtA, gtB, gtC, gtD, gtE, gtF]
            refine tkH 3 ?_
            try simp only [Act.put, gtA, gtB, gtC, gtD, gtE, gtF]
            refine tkH 4 ?_
            try simp only [Act.put, gtA, gtB, gtC, gtD, gtE, gtF]
            refine tkH 5 ?_
            try simp only [Act.put, gtA, gtB, gtC, gtD, gtE, gtF]
            refine rdH (rs := [6]) (.cons rfl (fun K hK => ?_) .nil)
            try simp only [gtA, gtB, gtC]
            go_simp
            (go_at_call 15; refine (Copies_ _ M1 _ _ (Ty.step _ HREC.out stp)).mono ?_; rintro e7 w7 ⟨v7, rfl, hA7, hS7⟩; obtain ⟨b7, m7, rfl⟩ := hA7.val; have s7_0 : ∀ j, w7.cell? ⟨xb, j, none⟩ = _ := fun j => hS7.cell (by first | assumption | omega | (simp; done) | (simp; omega)) j; have z7_0 : xb < w7.heap.size := Nat.lt_of_lt_of_le (by first | assumption | omega | (simp; done) | (simp; omega)) hS7.size; have s7_1 : ∀ j, w7.cell? ⟨fb, j, none⟩ = _ := fun j => hS7.cell (by first | assumption | omega | (simp; done) | (simp; omega)) j; have z7_1 : fb < w7.heap.size := Nat.lt_of_lt_of_le (by first | assumption | omega | (simp; done) | (simp; omega)) hS7.size; have HA7 := Lib.hid hA7; clear hA7)
            refine hK.out _ _ ?_ (fun hHeld => ?_)
            · (go_keep)
            clear hK K
            try simp only [Act.put, gtA, gtB, gtC, gtD, gtE, gtF]
            refine rdH (rs := [7]) (.cons rfl (fun K hK => ?_) .nil)
            try simp only [gtA, gtB, gtC]
            go_simp
            (go_at_call 14; refine (Post.append (HPO.out.next stp) (by omega) (by omega) (Own.rep (HA7.out.step stp) (fun c hc => hc)) HSX.out).mono ?_; rintro e w5 ⟨u5, er, rfl, M5, hg5, hp5⟩; have HP5 := Lib.hid hp5; have hr5 := (HRU.out.next stp).go hg5 hp5.in; have ha5 := act_go (HAC.out.step stp) HNF.out hg5; have c15 : w5.cell? ⟨xb, 1, none⟩ = some (.pointer (some ⟨l, 0, none⟩)) := hr5.cells.cell 1; have c35 : w5.cell? ⟨xb, 3, none⟩ = some (.slice A all.length C) := hr5.cells.cell 3; have k15 : w5.cell? ⟨fb, 1, none⟩ = some (.slice r9 recs.length rc9) := ha5.1.cell 1; have hxl5 := hr5.cells.lt; have hfl5 := ha5.1.lt; have HR5 := Lib.hid hr5; have HA5 := Lib.hid ha5; have HE5 := Lib.hid (hg5.cgo.keep (Ty.step _ HREC.out stp)); clear hg5 hp5 hr5 ha5)
            refine hK.out _ _ ?_ (fun hHeld => ?_)
            · (go_keep)
            clear hK K
            try simp only [Act.put, gtA, gtB, gtC, gtD, gtE, gtF]
            refine tkH 8 ?_
            try simp only [Act.put, gtA, gtB, gtC, gtD, gtE, gtF]
            refine tkH 9 ?_
            try simp only [Act.put, gtA, gtB, gtC, gtD, gtE, gtF]
            refine tkH 10 ?_
            try simp only [Act.put, gtA, gtB, gtC, gtD, gtE, gtF]
            refine tkH 11 ?_
            try simp only [Act.put, gtA, gtB, gtC, gtD, gtE, gtF]
            refine wpAnyH_done (by kernel_rfl) ?_ _
            go_upto_region 15 with fail
            refine wp_region_cut (S := (fun w' => w'.cell? ⟨xb, 3, none⟩ = some (.slice A all.length C) ∧ w'.cell? ⟨fb, 1, none⟩ = some (.slice r9 recs.length rc9))) 11 (by kernel_rfl) ?_ (fun hHeld => ?_)
            · (go_keep)
            refine tkC 0 [9, 10, 11] ?_
            try simp only [Act.put, gtA, gtB, gtC, gtD, gtE, gtF]
            refine tkC 1 [2, 3, 4, 5, 8, 9, 10, 11] ?_
            try simp only [Act.put, gtA, gtB, gtC, gtD, gtE, gtF]
            refine tkC 2 [3, 4, 5, 8, 9, 10, 11] ?_
            try simp only [Act.put, gtA, gtB, gtC, gtD, gtE, gtF]
            refine tkC 3 [4, 5, 8, 9, 10, 11] ?_
            try simp only [Act.put, gtA, gtB, gtC, gtD, gtE, gtF]
            refine tkC 4 [5, 8, 9, 10, 11] ?_
            try simp only [Act.put, gtA, gtB, gtC, gtD, gtE, gtF]
            refine tkC 6 [7, 8, 9, 10, 11] ?_
            try simp only [Act.put, gtA, gtB, gtC, gtD, gtE, gtF]
            refine tkC 7 [8, 9, 10, 11] ?_
            try simp only [Act.put, gtA, gtB, gtC, gtD, gtE, gtF]
            refine rdC (rs := [5]) (.cons rfl (by decide) (fun K hK => ?_) .nil)
            try simp only [gtA, gtB, gtC]
            go_simp
            (go_at_call 15; refine (Copies_ _ M5 _ _ (Ty.step _ HR5.out.rall stp)).mono ?_; rintro e8 w8 ⟨v8, rfl, hA8, hS8⟩; obtain ⟨b8, m8, rfl⟩ := hA8.val; have s8_0 : ∀ j, w8.cell? ⟨xb, j, none⟩ = _ := fun j => hS8.cell (by first | assumption | omega | (simp; done) | (simp; omega)) j; have z8_0 : xb < w8.heap.size := Nat.lt_of_lt_of_le (by first | assumption | omega | (simp; done) | (simp; omega)) hS8.size; have s8_1 : ∀ j, w8.cell? ⟨fb, j, none⟩ = _ := fun j => hS8.cell (by first | assumption | omega | (simp; done) | (simp; omega)) j; have z8_1 : fb < w8.heap.size := Nat.lt_of_lt_of_le (by first | assumption | omega | (simp; done) | (simp; omega)) hS8.size; have HA8 := Lib.hid hA8; clear hA8)
            refine hK.out _ _ ?_ (fun hHeld => ?_)
            · (go_keep)
            clear hK K
            try simp only [Act.put, gtA, gtB, gtC, gtD, gtE, gtF]
            refine rdC (rs := [8]) (.cons rfl (by decide) (fun K hK => ?_) .nil)
            try simp only [gtA, gtB, gtC]
            refine ite_then rfl ?_; refine wp_append_gen (E := Ty.bytes) (B := w5.heap.size) (M := M5) (ys := recs) (.tmp 56) (.tmp 58) rfl stList (Own.less (Own.base (Own.step HA8.out stp) (by simp)) (fun c _ hm => by have := HP5.out.old c hm; (first | exact this | (simp; omega)))) (Src.later HE5.out (Step.trans stp hS8) (fun d hd hm => hm.elim id (fun hm => by have h1 := (HA8.out.lt hm).1; (first | omega | (simp at h1; omega))))) (by have := HSX.out.2; rw [lim_eq]; omega) (Step.size stp) rfl rfl ?_; intro v9 w9 hA9 hG9 hn9; obtain ⟨a9, n9, c9, hv9, HN9⟩ := hA9.valN; subst hv9; have HF9 := Lib.hid (own_form hA9); have HS9 : Hid (Step w5 w9) := Lib.hid (Own.grown (w0 := w5) (Own.base (HA8.out.step stp) (by simp)) (Step.trans stp hS8) hG9); have s9a : ∀ j, w9.cell? ⟨xb, j, none⟩ = _ := fun j => HS9.out.cell hxl5 j; have s9b : ∀ j, w9.cell? ⟨fb, j, none⟩ = _ := fun j => HS9.out.cell hfl5 j; have f9 : ∀ j, w9.frozen? ⟨xb, j, none⟩ = false := fun j => CellsAt.frozen (CellsAt.step HR5.out.cells HS9.out) j; have HV9 := Lib.hid (Own.rep' hA9 (fun c hc hm => by have h1 := (hA9.lt hc).1; have h2 := HP5.out.old c hm; omega)); clear hA9 hG9 hn9
            refine hK.out _ _ ?_ (fun hHeld => ?_)
            · (go_keep)
            clear hK K
            try simp only [Act.put, gtA, gtB, gtC, gtD, gtE, gtF]
            refine tkC 9 [10, 11] ?_
            try simp only [Act.put, gtA, gtB, gtC, gtD, gtE, gtF]
            refine tkC 10 [11] ?_
            try simp only [Act.put, gtA, gtB, gtC, gtD, gtE, gtF]
            refine rdC (rs := [11]) (.cut rfl (fun K hK => ?_))
            try simp only [gtA, gtB, gtC]
            go_simp
            refine hK.out _ _ trivial (fun hHeld => ?_)
            clear hK K
            try simp only [Act.put, gtA, gtB, gtC, gtD, gtE, gtF]
            have hTrue : True := trivial
            refine wpAnyH_done (by kernel_rfl) ?_ _
            go_wp2
            go_meet
            case rel =>
              have h5 := HP5.out.next HS9.out
              have hk5 : ∀ d, d ≠ xb → (w9.setCell ⟨xb, 3, none⟩ (.slice a9 n9 c9)).heap[d]? = w9.heap[d]? := fun d hd => heap_setCell_other _ _ _ _ (by simpa using hd)
              have hr5 := HR5.out.next HS9.out
              have hl5 : (all ++ recs).length ≤ 10 * (k + 1) := by have := HSX.out.2; rw [List.length_append]; omega
              exact ⟨er, rfl, M5, l, .slice a9 n9 c9, all ++ recs, sure, (hr5.put (CellsAt.set hr5.cells 3 _) hk5 (Step.setCell hr5.step hxw _) HV9.out HF9.out).next stp, (h5.other hk5 (by simp)).next stp, hl5, (CellsAt.other (p := ⟨xb, 3, none⟩) (HA5.out.1.step HS9.out) (fun e => HA5.out.2 (by have := HR5.out.inM; rw [e]; exact this)) _).step stp, HA5.out.2, Ty.step _ (Ty.keep _ (Ty.step _ HE5.out HS9.out) (fun c _ hm => ⟨hk5 c (fun e => hm (e ▸ HR5.out.inM)), hm⟩)) stp⟩
          have e1 : (kd == 1) = false := by simp [d1]
          by_cases d2 : kd = 2
          · subst d2
            go_upto_region 21 with (go_at_call 31; refine (Post.flush (HPO.out.next stp) (by omega)).mono ?_; rintro e w5 ⟨er, rfl, M5, hg5, hp5⟩; have HP5 := Lib.hid hp5; have HR5 := Lib.hid ((HRU.out.next stp).go hg5 hp5.in); have HA5 := Lib.hid (act_go (HAC.out.step stp) HNF.out hg5); have HE5 := Lib.hid (hg5.cgo.keep (Ty.step _ HREC.out stp)); clear hg5 hp5)
            have t5 : ∀ j, w5.cell? ⟨xb, j, none⟩ = _ := fun j => CellsAt.cell HR5.out.cells j
            have f5 : ∀ j, w5.frozen? ⟨xb, j, none⟩ = false := fun j => CellsAt.frozen HR5.out.cells j
            rcases HP5.out.err with rfl | rfl
            · go_wp2
              go_meet
              case rel =>
                have h5 := HP5.out
                simp only [if_true] at h5
                have hk5 : ∀ d, d ≠ xb → (w5.setCell ⟨xb, 4, none⟩ (.int .u64 (all.length : Int))).heap[d]? = w5.heap[d]? := fun d hd => heap_setCell_other _ _ _ _ (by simpa using hd)
                exact ⟨0, rfl, M5, l, .slice A all.length C, all, all.length, HR5.out.put (CellsAt.set HR5.out.cells 4 _) hk5 (Step.setCell HR5.out.step hxw _) HR5.out.rall HR5.out.form, h5.other hk5 (by simp), by omega, CellsAt.other HA5.out.1 (fun e => HA5.out.2 (by have := HR5.out.inM; rw [e]; exact this)) _, HA5.out.2, Ty.keep _ HE5.out (fun c _ hm => ⟨hk5 c (fun e => hm (e ▸ HR5.out.inM)), hm⟩)⟩
            · go_wp2
              go_meet
              case rel =>
                have h5 := HP5.out
                rw [if_neg (by omega)] at h5
                exact ⟨9, rfl, M5, l, .slice A all.length C, all, sure, HR5.out.next stp, h5.next stp, by omega, HA5.out.1.step stp, HA5.out.2, Ty.step _ HE5.out stp⟩

          have e2 : (kd == 2) = false := by simp [d2]
          by_cases d3 : kd = 3
          · subst d3
            go_upto_region 21 with (go_at_call 32; refine (Post.close (HPO.out.next stp) (by omega)).mono ?_; rintro e w5 ⟨er, rfl, M5, hg5, hp5⟩; have HP5 := Lib.hid hp5; have HR5 := Lib.hid ((HRU.out.next stp).go hg5 hp5.in); have HA5 := Lib.hid (act_go (HAC.out.step stp) HNF.out hg5); have HE5 := Lib.hid (hg5.cgo.keep (Ty.step _ HREC.out stp)); clear hg5 hp5)
            have t5 : ∀ j, w5.cell? ⟨xb, j, none⟩ = _ := fun j => CellsAt.cell HR5.out.cells j
            have f5 : ∀ j, w5.frozen? ⟨xb, j, none⟩ = false := fun j => CellsAt.frozen HR5.out.cells j
            rcases HP5.out.err with rfl | rfl
            · go_wp2
              go_meet
              case rel =>
                have h5 := HP5.out
                simp only [if_true] at h5
                have hk5 : ∀ d, d ≠ xb → (w5.setCell ⟨xb, 4, none⟩ (.int .u64 (all.length : Int))).heap[d]? = w5.heap[d]? := fun d hd => heap_setCell_other _ _ _ _ (by simpa using hd)
                exact ⟨0, rfl, M5, l, .slice A all.length C, all, all.length, HR5.out.put (CellsAt.set HR5.out.cells 4 _) hk5 (Step.setCell HR5.out.step hxw _) HR5.out.rall HR5.out.form, h5.other hk5 (by simp), by omega, CellsAt.other HA5.out.1 (fun e => HA5.out.2 (by have := HR5.out.inM; rw [e]; exact this)) _, HA5.out.2, Ty.keep _ HE5.out (fun c _ hm => ⟨hk5 c (fun e => hm (e ▸ HR5.out.inM)), hm⟩)⟩
            · go_wp2
              go_meet
              case rel =>
                have h5 := HP5.out
                rw [if_neg (by omega)] at h5
                exact ⟨9, rfl, M5, l, .slice A all.length C, all, sure, HR5.out.next stp, h5.next stp, by omega, HA5.out.1.step stp, HA5.out.2, Ty.step _ HE5.out stp⟩

          have e3 : (kd == 3) = false := by simp [d3]
          by_cases d4 : kd = 4
          · subst d4
            have han : an < 18446744073709551616 := hx3
            obtain ⟨mn, hmn, hmn2⟩ : ∃ mn : Nat, min (an : Int) (sure : Int) = (mn : Int) ∧ mn ≤ an := ⟨min an sure, by omega, by omega⟩
            go_upto_region 24 with fail
            refine wp_region_held_drew (S := (fun w' => w'.cell? ⟨xb, 1, none⟩ = some (.pointer (some ⟨l, 0, none⟩)) ∧ w'.cell? ⟨fb, 2, none⟩ = some (.int .u64 (an : Int)) ∧ w'.cell? ⟨xb, 4, none⟩ = some (.int .u64 (sure : Int)))) (by kernel_rfl) ?_ (fun hHeld => ?_)
            · (go_keep)
            refine tkH 0 ?_
            try simp only [Act.put, gtA, gtB, gtC, gtD, gtE, gtF]
            refine tkH 1 ?_
            try simp only [Act.put, gtA, gtB, gtC, gtD, gtE, gtF]
            refine tkH 2 ?_
            try simp only [Act.put, gtA, gtB, gtC, gtD, gtE, gtF]
            refine tkH 3 ?_
            try simp only [Act.put, gtA, gtB, gtC, gtD, gtE, gtF]
            refine tkH 4 ?_
            try simp only [Act.put, gtA, gtB, gtC, gtD, gtE, gtF]
            refine tkH 5 ?_
            try simp only [Act.put, gtA, gtB, gtC, gtD, gtE, gtF]
            refine tkH 6 ?_
            try simp only [Act.put, gtA, gtB, gtC, gtD, gtE, gtF]
            refine tkH 7 ?_
            try simp only [Act.put, gtA, gtB, gtC, gtD, gtE, gtF]
            refine tkH 8 ?_
            try simp only [Act.put, gtA, gtB, gtC, gtD, gtE, gtF]
            refine tkH 9 ?_
            try simp only [Act.put, gtA, gtB, gtC, gtD, gtE, gtF]
            refine tkH 10 ?_
            try simp only [Act.put, gtA, gtB, gtC, gtD, gtE, gtF]
            refine rdH (rs := [11]) (.cons rfl (fun K hK => ?_) .nil)
            try simp only [gtA, gtB, gtC]
            go_simp
            (go_at_call 33; refine (Post.drop (below := mn) (HPO.out.next stp) (by omega) (by omega)).mono ?_; rintro e w5 ⟨er, rfl, M5, hg5, hp5⟩; have HP5 := Lib.hid hp5; have hr5 := (HRU.out.next stp).go hg5 hp5.in; have ha5 := act_go (HAC.out.step stp) HNF.out hg5; have c15 : w5.cell? ⟨xb, 1, none⟩ = some (.pointer (some ⟨l, 0, none⟩)) := hr5.cells.cell 1; have c45 : w5.cell? ⟨xb, 4, none⟩ = some (.int .u64 (sure : Int)) := hr5.cells.cell 4; have k25 : w5.cell? ⟨fb, 2, none⟩ = some (.int .u64 (an : Int)) := ha5.1.cell 2; have HR5 := Lib.hid hr5; have HA5 := Lib.hid ha5; have HE5 := Lib.hid (hg5.cgo.keep (Ty.step _ HREC.out stp)); clear hg5 hp5 hr5 ha5)
            refine hK.out _ _ ?_ (fun hHeld => ?_)
            · (go_keep)
            clear hK K
            try simp only [Act.put, gtA, gtB, gtC, gtD, gtE, gtF]
            refine tkH 12 ?_
            try simp only [Act.put, gtA, gtB, gtC, gtD, gtE, gtF]
            refine wpAnyH_done (by kernel_rfl) ?_ _
            rcases HP5.out.err with rfl | rfl
            · obtain ⟨f6, n6, hfn, hlk⟩ := HP5.out.look
              have HLK := Lib.hid hlk
              have dfn : decide ((n6 : Int) < (f6 : Int)) = false := decide_eq_false (by omega)
              have dfn2 : decide (n6 < f6) = false := decide_eq_false (by omega)
              clear hlk
              go_upto_region 25 with fail
              refine wp_region_held_drew (S := (fun w' => w'.cell? ⟨xb, 1, none⟩ = some (.pointer (some ⟨l, 0, none⟩)))) (by kernel_rfl) ?_ (fun hHeld => ?_)
              · (go_keep)
              refine tkH 0 ?_
              try simp only [Act.put, gtA, gtB, gtC, gtD, gtE, gtF]
              refine tkH 1 ?_
              try simp only [Act.put, gtA, gtB, gtC, gtD, gtE, gtF]
              refine tkH 2 ?_
              try simp only [Act.put, gtA, gtB, gtC, gtD, gtE, gtF]
              refine tkH 3 ?_
              try simp only [Act.put, gtA, gtB, gtC, gtD, gtE, gtF]
              refine tkH 4 ?_
              try simp only [Act.put, gtA, gtB, gtC, gtD, gtE, gtF]
              refine tkH 5 ?_
              try simp only [Act.put, gtA, gtB, gtC, gtD, gtE, gtF]
              refine tkH 6 ?_
              try simp only [Act.put, gtA, gtB, gtC, gtD, gtE, gtF]
              refine tkH 8 ?_
              try simp only [Act.put, gtA, gtB, gtC, gtD, gtE, gtF]
              refine tkH 9 ?_
              try simp only [Act.put, gtA, gtB, gtC, gtD, gtE, gtF]
              refine tkH 10 ?_
              try simp only [Act.put, gtA, gtB, gtC, gtD, gtE, gtF]
              refine tkH 11 ?_
              try simp only [Act.put, gtA, gtB, gtC, gtD, gtE, gtF]
              refine rdH (rs := [7]) (.cons rfl (fun K hK => ?_) .nil)
              try simp only [gtA, gtB, gtC]
              go_simp
              (go_at_call 39; refine ((HLK.out _ stp).1).mono ?_; rintro e w6 ⟨rfl, hw6⟩; subst hw6)
              refine hK.out _ _ ?_ (fun hHeld => ?_)
              · (go_keep)
              clear hK K
              try simp only [Act.put, gtA, gtB, gtC, gtD, gtE, gtF]
              refine rdH (rs := [12]) (.cons rfl (fun K hK => ?_) .nil)
              try simp only [gtA, gtB, gtC]
              go_simp
              (go_at_call 17; refine ((HLK.out _ stp).2).mono ?_; rintro e w7 ⟨rfl, hS7⟩; have HS7 : Hid (Step w5 w7) := Lib.hid (Step.trans stp hS7); have c17 : w7.cell? ⟨xb, 1, none⟩ = some (.pointer (some ⟨l, 0, none⟩)) := (HR5.out.next HS7.out).cells.cell 1; clear hS7)
              refine hK.out _ _ ?_ (fun hHeld => ?_)
              · (go_keep)
              clear hK K
              try simp only [Act.put, gtA, gtB, gtC, gtD, gtE, gtF]
              refine tkH 13 ?_
              try simp only [Act.put, gtA, gtB, gtC, gtD, gtE, gtF]
              refine tkH 14 ?_
              try simp only [Act.put, gtA, gtB, gtC, gtD, gtE, gtF]
              refine wpAnyH_done (by kernel_rfl) ?_ _
              go_wp2
              go_meet
              case rel => exact ⟨0, rfl, M5, l, .slice A all.length C, all, sure, HR5.out.next (HS7.out.trans stp), HP5.out.next (HS7.out.trans stp), by omega, HA5.out.1.step (HS7.out.trans stp), HA5.out.2, Ty.step _ HE5.out (HS7.out.trans stp)⟩
            · go_upto_region 25 with fail
              refine wp_region_held_drew (S := (fun w' => w'.cell? ⟨xb, 1, none⟩ = some (.pointer (some ⟨l, 0, none⟩)))) (by kernel_rfl) ?_ (fun hHeld => ?_)
              · (go_keep)
              refine tkH 0 ?_
              try simp only [Act.put, gtA, gtB, gtC, gtD, gtE, gtF]
              refine tkH 1 ?_
              try simp only [Act.put, gtA, gtB, gtC, gtD, gtE, gtF]
              refine tkH 2 ?_
              try simp only [Act.put, gtA, gtB, gtC, gtD, gtE, gtF]
              refine tkUH 3 ?_
              try simp only [Act.put, gtA, gtB, gtC, gtD, gtE, gtF]
              refine tkUH 4 ?_
              try simp only [Act.put, gtA, gtB, gtC, gtD, gtE, gtF]
              refine tkUH 5 ?_
              try simp only [Act.put, gtA, gtB, gtC, gtD, gtE, gtF]
              refine tkUH 6 ?_
              try simp only [Act.put, gtA, gtB, gtC, gtD, gtE, gtF]
              refine tkUH 7 ?_
              try simp only [Act.put, gtA, gtB, gtC, gtD, gtE, gtF]
              refine tkUH 8 ?_
              try simp only [Act.put, gtA, gtB, gtC, gtD, gtE, gtF]
              refine tkUH 9 ?_
              try simp only [Act.put, gtA, gtB, gtC, gtD, gtE, gtF]
              refine tkUH 10 ?_
              try simp only [Act.put, gtA, gtB, gtC, gtD, gtE, gtF]
              refine tkUH 11 ?_
              try simp only [Act.put, gtA, gtB, gtC, gtD, gtE, gtF]
              refine tkUH 12 ?_
              try simp only [Act.put, gtA, gtB, gtC, gtD, gtE, gtF]
              refine tkUH 13 ?_
              try simp only [Act.put, gtA, gtB, gtC, gtD, gtE, gtF]
              refine tkH 14 ?_
              try simp only [Act.put, gtA, gtB, gtC, gtD, gtE, gtF]
              refine wpAnyH_done (by kernel_rfl) ?_ _
              go_wp2
              go_meet
              case rel => exact ⟨9, rfl, M5, l, .slice A all.length C, all, sure, HR5.out.next stp, HP5.out.next stp, by omega, HA5.out.1.step stp, HA5.out.2, Ty.step _ HE5.out stp⟩

          have e4 : (kd == 4) = false := by simp [d4]
          go_wp2
          go_meet
          case rel => exact ⟨0, rfl, M1, l, _, all, sure, HRU.out.next stp, (HPO.out.next stp).more, by omega, HAC.out.step stp, HNF.out, Ty.step _ HREC.out stp⟩
        case rest =>
          obtain ⟨er, rfl, hrd⟩ := hcut
          refine open_kkQ (by assumption) ?_
          have HRD3 := Lib.hid hrd
          have c0 : wc.cell? ⟨xb, 0, none⟩ = some (.pointer (some ⟨b, 0, none⟩)) := hrd.c0
          have k0 : wc.cell? ⟨fb, 0, none⟩ = some (.int .i64 kd) := hrd.act.cell 0
          have k2 : wc.cell? ⟨fb, 2, none⟩ = some (.int .u64 (an : Int)) := hrd.act.cell 2
          have k4 : wc.cell? ⟨fb, 4, none⟩ = some (.int .i64 kp) := hrd.act.cell 4
          have hw5 : IntKind.u64.wrap ((an : Int) % 5) = (an : Int) % 5 := by rw [IntKind.wrap_u64]; omega
          have hw6 : IntKind.i64.wrap ((an : Int) % 5) = (an : Int) % 5 := by rw [IntKind.wrap_i64]; omega
          have her := hrd.err
          clear hrd HRD2
          rcases her with rfl | rfl
          · by_cases d5 : kd = 5
            · subst d5
              go_wp2_with (first
                | (go_at_call 45; refine (CrRd.isDead (HRD3.out.next stp)).mono ?_; rintro e w6 ⟨rfl, hw6⟩; subst w6)
                | (go_at_call 43; refine (CrAt.again (HRD3.out.cr.next stp) hm (by omega) hx5 (by omega)).mono ?_; rintro e w7 ⟨rfl, hcr7⟩; have c07 : w7.cell? ⟨xb, 0, none⟩ = some (.pointer (some ⟨b, 0, none⟩)) := hcr7.c0; have HC7 := Lib.hid hcr7; clear hcr7)
                | (go_at_call 44; refine (CrAt.arm (n := -1) (HC7.out.next stp) (by unfold I64; omega)).mono ?_; rintro e w8 ⟨rfl, hcr8⟩; have HC8 := Lib.hid hcr8; clear hcr8))
              go_roundw
              case rel => exact ⟨k + 1, by go_num, HLT.out, Lib.hid (HC8.out.next stp)⟩
              case measure => simp [Go.RowKit.intOf]; omega

            · have e5 : (kd == 5) = false := by simp [d5]
              go_wp2_with (first
                | (go_at_call 45; refine (CrRd.isDead (HRD3.out.next stp)).mono ?_; rintro e w6 ⟨rfl, hw6⟩; subst w6)
                | (go_at_call 44; refine (CrAt.arm (n := -1) (HRD3.out.cr.next stp) (by unfold I64; omega)).mono ?_; rintro e w8 ⟨rfl, hcr8⟩; have HC8 := Lib.hid hcr8; clear hcr8))
              go_roundw
              case rel => exact ⟨k + 1, by go_num, HLT.out, Lib.hid (HC8.out.next stp)⟩
              case measure => simp [Go.RowKit.intOf]; omega
          ·
            go_wp2_with (first
              | (go_at_call 45; refine (CrRd.isDead (HRD3.out.next stp)).mono ?_; rintro e w6 ⟨rfl, hw6⟩; subst w6)
              | (go_at_call 43; refine (CrAt.again (HRD3.out.cr.next stp) hm (by omega) hx5 (by omega)).mono ?_; rintro e w7 ⟨rfl, hcr7⟩; have c07 : w7.cell? ⟨xb, 0, none⟩ = some (.pointer (some ⟨b, 0, none⟩)) := hcr7.c0; have HC7 := Lib.hid hcr7; clear hcr7)
              | (go_at_call 44; refine (CrAt.arm (n := -1) (HC7.out.next stp) (by unfold I64; omega)).mono ?_; rintro e w8 ⟨rfl, hcr8⟩; have HC8 := Lib.hid hcr8; clear hcr8))
            go_roundw
            case rel => exact ⟨k + 1, by go_num, HLT.out, Lib.hid (HC8.out.next stp)⟩
            case measure => simp [Go.RowKit.intOf]; omega

    · have hd : decide ((k : Int) < (n : Int)) = false := decide_eq_false (by omega)
      go_wp2_with (go_at_call 43; refine (CrAt.again (HCR.out.next stp) hm (by omega) (by unfold I64; omega) (by omega)).mono ?_; rintro e w6 ⟨rfl, hcr6⟩; have HC6 := Lib.hid hcr6; clear hcr6)
      go_ret
      exact ⟨rfl, HC6.out.step0.trans stp⟩
end Go.Proofs.YthebdlkmoailaaaGreatDoor
