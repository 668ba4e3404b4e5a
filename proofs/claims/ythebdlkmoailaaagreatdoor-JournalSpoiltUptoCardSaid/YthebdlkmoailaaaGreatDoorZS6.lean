/-
  Walk: JournalSpoilt.
-/
import Derived.Test.YthebdlkmoailaaaGreatDoorZP13
set_option linter.unusedVariables false
set_option linter.unusedSimpArgs false
namespace Go.Proofs.YthebdlkmoailaaaGreatDoor
open Go.RowKit Go.Gr Go.Maps
open Go.Proofs (encStr)
set_option linter.unusedSimpArgs false
set_option linter.unusedVariables false
set_option maxRecDepth 100000 in
set_option maxHeartbeats 8000000 in
theorem jSpoilt_ {w : World} {M : Nat → Prop} {v : Value} {two : List (List (List UInt8))} {at_ : Int} {y : UInt8} (hAW : ∀ W : World, Calls Tryz.prog 10 #[] W fun e w' => e = .returned (.bool true) ∧ Step W w') (h : (Ty.slice (Ty.slice Ty.bytes)).rep w M [v] two) (hat : I64 at_) :
    Calls Tryz.prog 5 #[v, .int .i64 at_, .int .u8 (y.toNat : Int)] w fun e w' => e = .returned (.bool true) ∧ Step w w' := by
  obtain ⟨a, c, rfl, _, _, hl⟩ := Ty.slice_val h
  rw [lim_eq] at hl
  have H : Hid ((Ty.slice (Ty.slice Ty.bytes)).rep w (fun c => w.heap.size ≤ c) [.slice a two.length c] two) := Lib.hid (Ty.keep _ h (fun b hb _ => ⟨rfl, by omega⟩))
  have HAW := Lib.hid hAW
  clear h hAW
  by_cases h2 : two.length < 2
  · have hd : decide ((two.length : Int) < 2) = true := decide_eq_true (by omega)
    go_enter Tryz.func5, Tryz.ntmps5
    go_wp2_with (go_at_call 10; refine (HAW.out _).mono ?_; rintro e w1 ⟨rfl, hS1⟩; have HS1 : Hid (Step w w1) := Lib.hid (Step.trans stp hS1); clear hS1)
    go_ret
    exact ⟨rfl, HS1.out.trans stp⟩
  have hd : decide ((two.length : Int) < 2) = false := decide_eq_false (by omega)
  have hlt0 : 0 < two.length := by omega
  have hlt1 : 1 < two.length := by omega
  have hI0 : (0 : Int) < (two.length : Int) := by omega
  have hI1 : (1 : Int) < (two.length : Int) := by omega
  obtain ⟨b1, o1, u1, ha1, hb1, _, hu1, hc1⟩ := Ty.slice_at1 rfl H.out hlt0
  obtain ⟨b2, o2, u2, ha2, _, _, hu2, hc2⟩ := Ty.slice_at1 rfl H.out hlt1
  subst ha1
  obtain ⟨rfl, rfl⟩ : b2 = b1 ∧ o2 = o1 := by
    injection ha2 with h
    injection h with h1 h2
    exact ⟨h1.symm, h2.symm⟩
  obtain ⟨x1, y1, rfl, _, _, _⟩ := Ty.slice_val hu1
  obtain ⟨x2, y2, rfl, _, _, _⟩ := Ty.slice_val hu2
  have HSH1 : Hid (∀ W : World, Step w W → Calls Tryz.prog 13 #[.slice x1 two[0].length y1] W fun e w' => ∃ v', e = .returned v' ∧ Gr.Own Ty.bytes 40 w' (fun c => w.heap.size ≤ c) W.heap.size v' (shortB two[0]) ∧ Step W w') := Lib.hid (fun W hW => shorts_ (Ty.step _ hu1 hW))
  have HSH2 : Hid (∀ W : World, Step w W → Calls Tryz.prog 13 #[.slice x2 two[1].length y2] W fun e w' => ∃ v', e = .returned v' ∧ Gr.Own Ty.bytes 40 w' (fun c => w.heap.size ≤ c) W.heap.size v' (shortB two[1]) ∧ Step W w') := Lib.hid (fun W hW => shorts_ (Ty.step _ hu2 hW))
  have HOK : Hid (((∀ x ∈ shortB two[0], x.length ≤ 600) ∧ (shortB two[0]).length ≤ 10) ∧ ((∀ x ∈ shortB two[1], x.length ≤ 600) ∧ (shortB two[1]).length ≤ 10)) := Lib.hid ⟨shortB_ok _, shortB_ok _⟩
  generalize shortB two[0] = F at *
  generalize shortB two[1] = S at *
  generalize two[0].length = t0 at *
  generalize two[1].length = t1 at *
  rw [Nat.add_zero] at hc1
  clear hu1 hu2 ha2
  go_enter Tryz.func5, Tryz.ntmps5
  go_upto_region 5 with (go_at_call 10; refine (HAW.out _).mono ?_; rintro e w1 ⟨rfl, hS1⟩; have p1 : w1.cell? ⟨b2, o2, none⟩ = some (.slice x1 t0 y1) := (Step.cell (Step.trans stp hS1) hb1 _).trans hc1; have p2 : w1.cell? ⟨b2, o2 + 1, none⟩ = some (.slice x2 t1 y2) := (Step.cell (Step.trans stp hS1) hb1 _).trans hc2; have HS1 : Hid (Step w w1) := Lib.hid (Step.trans stp hS1); clear hS1)
  clear HAW H
  refine wp_region_held_drew (S := (fun w' => w'.cell? ⟨b2, o2, none⟩ = some (.slice x1 t0 y1) ∧ w'.cell? ⟨b2, o2 + 1, none⟩ = some (.slice x2 t1 y2))) (by kernel_rfl) ?_ (fun hHeld => ?_)
  · (go_keep)
  refine tkH 0 ?_
  try simp only [Act.put, gtA, gtB, gtC, gtD, gtE, gtF]
  refine tkH 1 ?_
  try simp only [Act.put, gtA, gtB, gtC, gtD, gtE, gtF]
  refine tkH 2 ?_
  try simp only [Act.put, gtA, gtB, gtC, gtD, gtE, gtF]
  refine tkH 4 ?_
  try simp only [Act.put, gtA, gtB, gtC, gtD, gtE, gtF]
  refine tkH 5 ?_
  try simp only [Act.put, gtA, gtB, gtC, gtD, gtE, gtF]
  refine tkH 6 ?_
  try simp only [Act.put, gtA, gtB, gtC, gtD, gtE, gtF]
  refine rdH (rs := [3]) (.cons rfl (fun K hK => ?_) .nil)
  try simp only [gtA, gtB, gtC]
  go_simp
  (go_at_call 13; refine (HSH1.out _ (HS1.out.trans stp)).mono ?_; rintro e w2 ⟨v2, rfl, hA2, hS2⟩; obtain ⟨a2, n2, c2, rfl, HN2⟩ := hA2.valN; have HA2 := Lib.hid hA2; have HS2 : Hid (Step w w2) := Lib.hid (HS1.out.trans (Step.trans stp hS2)); have q1 : w2.cell? ⟨b2, o2, none⟩ = some (.slice x1 t0 y1) := (HS2.out.cell hb1 _).trans hc1; have q2 : w2.cell? ⟨b2, o2 + 1, none⟩ = some (.slice x2 t1 y2) := (HS2.out.cell hb1 _).trans hc2; clear hA2 hS2)
  refine hK.out _ _ ?_ (fun hHeld => ?_)
  · (go_keep)
  clear hK K
  try simp only [Act.put, gtA, gtB, gtC, gtD, gtE, gtF]
  refine rdH (rs := [7]) (.cons rfl (fun K hK => ?_) .nil)
  try simp only [gtA, gtB, gtC]
  go_simp
  (go_at_call 13; refine (HSH2.out _ (HS2.out.trans stp)).mono ?_; rintro e w3 ⟨v3, rfl, hA3, hS3⟩; obtain ⟨a3, n3, c3, rfl, HN3⟩ := hA3.valN; have HA3 := Lib.hid hA3; have HS3 : Hid (Step w2 w3) := Lib.hid (Step.trans stp hS3); have r1 : w3.cell? ⟨b2, o2, none⟩ = some (.slice x1 t0 y1) := (Step.cell (HS2.out.trans HS3.out) hb1 _).trans hc1; have r2 : w3.cell? ⟨b2, o2 + 1, none⟩ = some (.slice x2 t1 y2) := (Step.cell (HS2.out.trans HS3.out) hb1 _).trans hc2; clear hA3 hS3)
  refine hK.out _ _ ?_ (fun hHeld => ?_)
  · (go_keep)
  clear hK K
  try simp only [Act.put, gtA, gtB, gtC, gtD, gtE, gtF]
  refine tkH 8 ?_
  try simp only [Act.put, gtA, gtB, gtC, gtD, gtE, gtF]
  refine tkH 9 ?_
  try simp only [Act.put, gtA, gtB, gtC, gtD, gtE, gtF]
  refine wpAnyH_done (by kernel_rfl) ?_ _
  have HT : Hid (Two w w3 (fun c => w3.heap.size ≤ c) (.slice a2 n2 c2) (.slice a3 n3 c3) F S) := Lib.hid ⟨HS2.out.trans HS3.out, fun c hc => Nat.le_trans (HS2.out.trans HS3.out).size hc, Ty.step _ (Own.rep' (Own.less HA2.out (M' := fun c => w3.heap.size ≤ c) (fun c _ hc => Nat.le_trans (HS2.out.trans HS3.out).size hc)) (fun c hc hm => by have h1 := (HA2.out.lt hc).2; have h2 := HS3.out.size; have h3 : w3.heap.size ≤ c := hm; omega)) HS3.out, Own.rep' (Own.less HA3.out (M' := fun c => w3.heap.size ≤ c) (fun c _ hc => Nat.le_trans (HS2.out.trans HS3.out).size hc)) (fun c hc hm => by have h1 := (HA3.out.lt hc).2; have h3 : w3.heap.size ≤ c := hm; omega)⟩
  have HF1 : Hid (n2 = F.length) := HN2
  have HF2 : Hid (n3 = S.length) := HN3
  clear HA2 HA3 HSH1 HSH2 HS1 HS2 p1 p2 q1 q2 r1 r2 hc1 hc2 hb1 HN2 HN3 HS3
  go_upto_region 7 with (go_at_call 11; refine (dNew_ _ 1073741824).mono ?_; rintro e w4 ⟨rfl, hb4, hS4⟩; have HB4 := Lib.hid hb4; have HT4 : Hid (Two w w4 (fun c => w3.heap.size ≤ c) (.slice a2 n2 c2) (.slice a3 n3 c3) F S) := Lib.hid (HT.out.next (Step.trans stp hS4)); clear hb4 hS4)
  obtain ⟨b, hb⟩ : ∃ b, b = w3.heap.size := ⟨_, rfl⟩
  rw [← hb] at HB4 HT4 ⊢
  clear hb HT
  go_upto_region 8 with (go_at_call 12; refine (SpT.open0 (CellsAt.step HB4.out stp) (HT4.out.next stp)).mono ?_; rintro e w5 ⟨l, rfl, M5, hs5⟩; have HS5 := Lib.hid hs5; clear hs5)
  clear HB4 HT4
  have hnl : ∀ W : World, (binOp .eql 26 (.pointer (some ⟨l, 0, none⟩)) (.pointer none)).run Tryz.prog W = .ok (.bool false) W := fun W => by kernel_rfl
  obtain ⟨⟨hF6, hFl⟩, hS6, hSl⟩ := HOK.out
  have HF6 := Lib.hid hF6
  have HA6 : Hid (∀ r ∈ F ++ S, r.length ≤ 600) := Lib.hid (fun r h => (List.mem_append.1 h).elim (hF6 r) (hS6 r))
  have hAl : (F ++ S).length = n2 + n3 := by rw [List.length_append, HF1.out, HF2.out]
  rw [← HF1.out] at hFl
  rw [← HF2.out] at hSl
  clear hF6 hS6 HOK
  go_upto_region 11 with (first
    | (go_at_call 15; refine (Copies_ _ _ _ _ (Ty.step _ HS5.out.two.r1 stp)).mono ?_; rintro e w6 ⟨v6, rfl, hA6, hS6⟩; obtain ⟨a6, n6, c6, rfl, HN6⟩ := hA6.valN; have HV6 := Lib.hid (own_slice hA6); have HS6 : Hid (Step w5 w6) := Lib.hid (Step.trans stp hS6); clear hA6 hS6 HN6)
    | (go_at_call 14; refine (SpT.append (R' := F) (HS5.out.next (HS6.out.trans stp)) (Ty.step _ HV6.out stp) (by simp) HF6.out (by simp) (by rw [← HF1.out]; exact hFl) (by omega)).mono ?_; rintro e w7 ⟨⟨u7, rfl⟩, M7, hs7⟩; have HS7 := Lib.hid hs7; clear hs7))
  clear HS5 HS6 HV6
  obtain ⟨SZ, hSZ⟩ : ∃ SZ : Nat, SZ = (if F = [] then [] else fileW F).length := ⟨_, rfl⟩
  have HSZ : Hid (∀ W : World, Step w7 W → Calls Tryz.prog 24 #[.pointer (some ⟨b, 0, none⟩), encStr [119, 46, 49]] W fun e w' => e = .returned (.int .i64 (SZ : Int)) ∧ w' = W) := Lib.hid (fun W hW => by
    obtain ⟨⟨D, h1, _⟩, _⟩ := HS7.out.next hW
    rw [hSZ]
    exact h1.size)
  have HSE := Lib.hid hSZ
  clear hSZ
  go_upto_region 13 with (first
    | (go_at_call 24; refine (HSZ.out _ stp).mono ?_; rintro e w8 ⟨rfl, hw8⟩; subst w8)
    | (go_at_call 15; refine (Copies_ _ _ _ _ (Ty.step _ HS7.out.two.r2 stp)).mono ?_; rintro e w9 ⟨v9, rfl, hA9, hS9⟩; obtain ⟨a9, n9, c9, rfl, HN9⟩ := hA9.valN; have HV9 := Lib.hid (own_slice hA9); have HS9 : Hid (Step w7 w9) := Lib.hid (Step.trans stp hS9); clear hA9 hS9 HN9)
    | (go_at_call 14; refine (SpT.append (R' := F ++ S) (HS7.out.next (HS9.out.trans stp)) (Ty.step _ HV9.out stp) rfl HA6.out (by rw [← HF1.out]; exact hFl) (by rw [← HF2.out]; exact hSl) (by omega)).mono ?_; rintro e w10 ⟨⟨u10, rfl⟩, M10, hs10⟩; have HS10 := Lib.hid hs10; clear hs10))
  clear HS7 HS9 HV9 HSZ
  have hw0 : IntKind.i64.wrap ((n2 : Int) + (n3 : Int)) = (n2 : Int) + (n3 : Int) := by rw [IntKind.wrap_i64]; omega
  by_cases hA : F ++ S = []
  · have hz : n2 + n3 = 0 := by rw [← hAl, hA]; rfl
    have hz2 : (((n2 : Int) + (n3 : Int)) == 0) = true := by simp; omega
    rw [hA] at HS10
    go_wp2_with (go_at_call 25; refine (SpS.readNo (HS10.out.next stp).sps.choose_spec.1).mono ?_; rintro e w11 ⟨rfl, hw11⟩; subst w11)
    go_ret
    exact ⟨rfl, HS10.out.two.step.trans stp⟩
  have hz : 0 < n2 + n3 := by rw [← hAl]; exact List.length_pos_iff.2 hA
  have hz2 : (((n2 : Int) + (n3 : Int)) == 0) = false := by simp; omega
  have HNE := Lib.hid hA
  obtain ⟨A, hAe⟩ : ∃ A, A = F ++ S := ⟨_, rfl⟩
  rw [← hAe] at HS10 HA6 hAl HNE
  have HAE := Lib.hid hAe
  clear hAe hA
  have HAN : Hid (A.length = n2 + n3) := Lib.hid hAl
  clear hAl
  have HRD : Hid (∀ W : World, Step w10 W → Calls Tryz.prog 25 #[.pointer (some ⟨b, 0, none⟩), encStr [119, 46, 49]] W fun e w' => ∃ v, e = .returned (.tuple #[v, .int .i64 0]) ∧ Gr.Own Ty.byte 5 w' (· < W.heap.size) W.heap.size v (fileW A) ∧ Step W w') := Lib.hid (fun W hW => by
    obtain ⟨⟨D, h1, _⟩, _⟩ := HS10.out.next hW
    exact h1.read HNE.out)
  have HM10 : Hid (∀ c, M10 c → c < w10.heap.size) := Lib.hid (by
    obtain ⟨⟨D, h1, _⟩, _⟩ := HS10.out
    exact h1.old)
  go_upto_region 14 with (go_at_call 25; refine (HRD.out _ stp).mono ?_; rintro e w11 ⟨v11, rfl, hA11, hS11⟩; obtain ⟨a11, n11, c11, rfl, HN11⟩ := hA11.valN; have HA11 := Lib.hid hA11; have HS11 : Hid (Step w10 w11) := Lib.hid (Step.trans stp hS11); clear hA11 hS11)
  have hn11 : n11 ≤ 20000 := by
    rw [HN11.out]
    exact fileW_small HA6.out (by rw [HAN.out]; omega)
  clear HRD
  by_cases hneg : at_ < 0
  · have hdn : decide (at_ < 0) = true := decide_eq_true hneg
    go_wp2
    go_ret
    exact ⟨rfl, HS10.out.two.step.trans (HS11.out.trans stp)⟩
  obtain ⟨i, rfl⟩ : ∃ i : Nat, at_ = (i : Int) := ⟨at_.toNat, by omega⟩
  have hdn : decide ((i : Int) < 0) = false := decide_eq_false hneg
  by_cases hbig : n11 ≤ i
  · have hdb : decide ((n11 : Int) ≤ (i : Int)) = true := decide_eq_true (by omega)
    go_wp2
    go_ret
    exact ⟨rfl, HS10.out.two.step.trans (HS11.out.trans stp)⟩
  have hdb : decide ((n11 : Int) ≤ (i : Int)) = false := decide_eq_false (by omega)
  by_cases hy : y = 0
  · have hy0 : ((y.toNat : Int) == 0) = true := by rw [hy]; rfl
    go_wp2
    go_ret
    exact ⟨rfl, HS10.out.two.step.trans (HS11.out.trans stp)⟩
  have hy0 : ((y.toNat : Int) == 0) = false := by
    rw [beq_eq_false_iff_ne]
    intro h
    exact hy (UInt8.toNat_inj.1 (by simpa using h))
  have hiN : i < (fileW A).length := by rw [← HN11.out]; omega
  obtain ⟨g, hga, hgl, hcell, hfro⟩ := (BR.of HA11.out).at hiN
  subst hga
  have hgw := (HA11.out.lt rfl).1
  have HX := Lib.hid (xor_bv (fileW A)[i] y)
  have HSP : Hid (spoil y i (fileW A) = (fileW A).set i ((fileW A)[i] ^^^ y)) := Lib.hid (spoil_set hiN)
  have HI := Lib.hid hiN

  generalize (fileW A)[i] = X at *
  go_upto_region 19 with fail
  refine wp_code (fun wx => Step w10 wx ∧ Ty.bytes.rep wx M10 [.slice (some ⟨g, 0, none⟩) n11 c11] (spoil y i (fileW A))) ⟨(HS11.out.setCell (p := ⟨g, i, none⟩) hgw _), ?_⟩ ?_
  · rw [HSP.out, HX.out]
    exact (BR.store (BR.of HA11.out) _).rep (fun c hc hm => by
      have h1 := (HA11.out.lt hc).1
      have h2 := HM10.out c hm
      omega)
  rintro w12 ⟨hS12, hz12⟩
  have HS12 := Lib.hid hS12
  have HZ12 := Lib.hid hz12
  clear hS12 hz12 HA11 HS11 HX HSP hcell hfro hgl hgw HM10
  go_upto_region 21 with (first
    | (go_at_call 26; refine (SpT.trim (HS10.out.next (HS12.out.trans stp)) HNE.out (by omega)).mono ?_; rintro e w13 ⟨⟨u13, rfl⟩, M13, hs13, hg13⟩; have HS13 := Lib.hid hs13; have HZ13 := Lib.hid (hg13.keep (Ty.step _ HZ12.out stp)); clear hs13 hg13)
    | (go_at_call 27; refine (SxT.append (HS13.out.next stp) (Ty.step _ HZ13.out stp) (by rw [spoil_len, ← HN11.out]; exact hn11)).mono ?_; rintro e w14 ⟨⟨u14, rfl⟩, M14, hs14⟩; have HS14 := Lib.hid hs14; clear hs14))
  clear HS10 HS12 HZ12 HS13 HZ13
  go_upto_region 22 with (go_at_call 12; refine (SxT.open (HS14.out.next stp) hy HA6.out (by rw [HAN.out]; omega) HNE.out HI.out).mono ?_; rintro e w15 ⟨l15, rfl, M15, j, hs15, haj⟩; have HS15 := Lib.hid hs15; have HAJ := Lib.hid haj; clear hs15 haj)
  clear HS14 HA6
  have hj : j < n2 + n3 := by rw [← HAN.out]; exact HAJ.out.1
  obtain ⟨RR, hRR⟩ : ∃ RR, RR = A.take j := ⟨_, rfl⟩
  rw [← hRR] at HS15
  have hRl : RR.length = j := by rw [hRR, List.length_take, HAN.out]; omega
  have HNX : Hid (∀ W : World, Step w15 W → Calls Tryz.prog 17 #[.pointer (some ⟨l15, 0, none⟩)] W fun e w' => e = .returned (.int .u64 (j : Int)) ∧ Step W w') := Lib.hid (fun W hW => by
    have h := (HS15.out.next' hW).nextI
    rw [hRl] at h
    exact h)
  have HRC : Hid (∀ W : World, Step w15 W → Calls Tryz.prog 16 #[.pointer (some ⟨l15, 0, none⟩), .int .u64 0, .int .u64 (j : Int)] W fun e w' => ∃ v, e = .returned (.tuple #[v, .int .i64 0]) ∧ (Ty.slice Ty.bytes).rep w' (· < W.heap.size) [v] RR ∧ Step W w') := Lib.hid (fun W hW => by
    have h := (HS15.out.next' hW).records (by omega)
    rw [hRl] at h
    exact h)
  have HRL := Lib.hid hRl
  have HRR := Lib.hid hRR
  clear hRl hRR
  have HSJ : Hid (SZ ≤ i → n2 ≤ j) := Lib.hid (fun h => by
    rcases Nat.eq_zero_or_pos n2 with h0 | h0
    · omega
    · have hF : F ≠ [] := fun h => by rw [HF1.out, h] at h0; simp at h0
      refine HAJ.out.2 n2 ?_
      rw [HAE.out, HF1.out, List.take_left']
      · rw [HSE.out, if_neg hF] at h
        exact h
      · rfl)
  have hw1 : IntKind.u64.wrap ((n2 : Int) + (n3 : Int)) = (n2 : Int) + (n3 : Int) := by rw [IntKind.wrap_u64]; omega
  have hw2 : IntKind.u64.wrap (n2 : Int) = (n2 : Int) := by rw [IntKind.wrap_u64]; omega
  have hdj : decide ((n2 : Int) + (n3 : Int) ≤ (j : Int)) = false := decide_eq_false (by omega)
  have HSx : Hid (Step w15 w15) := Lib.hid (Step.refl _)
  by_cases hsz : SZ ≤ i
  · have hd1 : decide ((SZ : Int) ≤ (i : Int)) = true := decide_eq_true (by omega)
    have hnj := HSJ.out hsz
    have hd2 : decide ((j : Int) < (n2 : Int)) = false := decide_eq_false (by omega)
    go_upto_region 24 with (go_at_call 17; refine (HNX.out _ (HSx.out.trans stp)).mono ?_; rintro e w16 ⟨rfl, hS16⟩; have HSx : Hid (Step w15 w16) := Lib.hid (HSx.out.trans (Step.trans stp hS16)); clear hS16)
    go_upto_region 25 with (first
      | (go_at_call 16; refine (HRC.out _ (HSx.out.trans stp)).mono ?_; rintro e w18 ⟨v18, rfl, hr18, hS18⟩; obtain ⟨a18, c18, rfl, _, _, _⟩ := Ty.slice_val hr18; have HR18 := Lib.hid (Ty.less _ hr18 (M' := M15) (fun c _ hc => by have h1 := HS15.out.old c hc; have h2 := (HSx.out.trans stp).size; exact Nat.lt_of_lt_of_le h1 h2)); have HSy : Hid (Step w15 w18) := Lib.hid (HSx.out.trans (Step.trans stp hS18)); clear hr18 hS18)
      | (go_at_call 17; refine (HNX.out _ (HSx.out.trans stp)).mono ?_; rintro e w17 ⟨rfl, hS17⟩; have HSx : Hid (Step w15 w17) := Lib.hid (HSx.out.trans (Step.trans stp hS17)); clear hS17))
    rw [HRL.out]
    go_upto_region 26 with (go_at_call 12; refine (JsT.again (HS15.out.next' (HSy.out.trans stp)) (by rw [HRL.out]; omega)).mono ?_; rintro e w19 ⟨l19, rfl, M19, hs19, hg19, hn19⟩; have HS19 := Lib.hid hs19; have HR19 := Lib.hid (hg19.keep (Ty.step _ HR18.out stp)); have HNO := Lib.hid hn19; clear hs19 hg19 hn19)
    rw [HRL.out] at HNO
    have HLM : Hid (F.length + S.length ≤ lim) := Lib.hid (by rw [← HF1.out, ← HF2.out, lim_eq]; omega)
    go_upto_region 27 with (first
      | (go_at_call 15; refine (Copies_ _ _ _ _ (Ty.step _ HS19.out.two.r1 stp)).mono ?_; rintro e w20 ⟨v20, rfl, hA20, hS20⟩; obtain ⟨a20, n20, c20, rfl, HN20⟩ := hA20.valN; have HSR : Hid (Src Ty.bytes w20 (fun c => False ∨ (Value.slice a20 n20 c20).ownBlock = some c) (.slice a3 n3 c3) S) := Lib.hid (Src.of (Ty.keep _ HS19.out.two.r2 (fun c hc hm => ⟨hS20.heap hc, fun hx => by have h1 := (hA20.lt hx).1; omega⟩)) (fun _ _ h => h.resolve_left id)); have HA20 := Lib.hid (Gr.Own.less hA20 (M' := fun _ => False) (fun _ _ h => h.elim)); have HS20 : Hid (Step w19 w20) := Lib.hid (Step.trans stp hS20); clear hA20 hS20)
      | (at_builtin; refine wpList_append_acc (w0 := w19) (E := Ty.bytes) (ys := S) rfl (.tmp 137) (.tmp 138) rfl stShort (HS20.out.trans stp) (Gr.Own.step HA20.out stp) HSR.out HLM.out (by rfl) (by rfl) ?_; intro v21 w21 hA21 hB21 hG21 hn21; obtain ⟨a21, n21, c21, rfl, HN21⟩ := hA21.valN; have HA21 := Lib.hid hA21; have HS21 : Hid (Step w19 w21) := Lib.hid hB21; clear hA21 hB21 hG21 hn21))
    have hN21 : n21 = n2 + n3 := by rw [HN21.out, List.length_append, HF1.out, HF2.out]
    have HV21 : Hid ((Ty.slice Ty.bytes).rep w21 (fun _ => False) [.slice a21 n21 c21] A) := Lib.hid (by rw [HAE.out]; exact own_slice HA21.out)
    have HNN : Hid (∀ W : World, Step w19 W → Calls Tryz.prog 17 #[.pointer (some ⟨l19, 0, none⟩)] W fun e w' => e = .returned (.int .u64 (j : Int)) ∧ Step W w') := Lib.hid (fun W hW => by
      have h := (HS19.out.next' hW).nextI
      rw [HRL.out] at h
      exact h)
    have HEQ : Hid (∀ (W : World) (c' : Nat), Step w21 W → c' = c21 → Calls Tryz.prog 18 #[.slice a18 j c18, .slice a21 j c'] W fun e w' => e = .returned (.bool true) ∧ Step W w') := Lib.hid (fun W c' hW hc => by
      subst hc
      have h8 := slice_takeP (k := j) HV21.out (by rw [HAN.out]; omega)
      rw [← HRR.out] at h8
      have h9 := HR19.out
      rw [HRL.out] at h9
      exact Equals_same (Ty.step _ h9 (HS21.out.trans hW)) (Ty.step _ h8 hW))
    have hcap : n21 ≤ c21 := by
      obtain ⟨_, _, hv, h1, _⟩ := HV21.out
      simp only [List.cons.injEq, Value.slice.injEq, and_true] at hv
      obtain ⟨_, h2, h3⟩ := hv
      omega
    have hwj : IntKind.u64.wrap (j : Int) = (j : Int) := by rw [IntKind.wrap_u64]; omega
    have e1 : (j : Int) ≤ (n21 : Int) := by omega
    have e2 : (j : Int) ≤ (c21 : Int) := by omega
    have e3 : (n21 : Int) ≤ (c21 : Int) := by omega
    have HSz : Hid (Step w21 w21) := Lib.hid (Step.refl _)
    clear HA20 HSR HN21 HA21
    go_wp2_with (first
      | (go_at_call 17; refine (HNN.out _ (HS21.out.trans (HSz.out.trans stp))).mono ?_; rintro e w22 ⟨rfl, hS22⟩; have HSz : Hid (Step w21 w22) := Lib.hid (HSz.out.trans (Step.trans stp hS22)); clear hS22)
      | (go_at_call 17; refine (HNO.out _ (HS21.out.trans (HSz.out.trans stp))).mono ?_; rintro e w22 ⟨rfl, hS22⟩; have HSz : Hid (Step w21 w22) := Lib.hid (HSz.out.trans (Step.trans stp hS22)); clear hS22)
      | (go_at_call 18; refine (HEQ.out _ _ (HSz.out.trans stp) (by omega)).mono ?_; rintro e w23 ⟨rfl, hS23⟩; have HSz : Hid (Step w21 w23) := Lib.hid (HSz.out.trans (Step.trans stp hS23)); clear hS23))
    go_ret
    exact ⟨rfl, HS19.out.two.step.trans (HS21.out.trans (HSz.out.trans stp))⟩

  · have hd1 : decide ((SZ : Int) ≤ (i : Int)) = false := decide_eq_false (by omega)
    go_upto_region 24 with (go_at_call 17; refine (HNX.out _ (HSx.out.trans stp)).mono ?_; rintro e w16 ⟨rfl, hS16⟩; have HSx : Hid (Step w15 w16) := Lib.hid (HSx.out.trans (Step.trans stp hS16)); clear hS16)
    go_upto_region 25 with (first
      | (go_at_call 16; refine (HRC.out _ (HSx.out.trans stp)).mono ?_; rintro e w18 ⟨v18, rfl, hr18, hS18⟩; obtain ⟨a18, c18, rfl, _, _, _⟩ := Ty.slice_val hr18; have HR18 := Lib.hid (Ty.less _ hr18 (M' := M15) (fun c _ hc => by have h1 := HS15.out.old c hc; have h2 := (HSx.out.trans stp).size; exact Nat.lt_of_lt_of_le h1 h2)); have HSy : Hid (Step w15 w18) := Lib.hid (HSx.out.trans (Step.trans stp hS18)); clear hr18 hS18)
      | (go_at_call 17; refine (HNX.out _ (HSx.out.trans stp)).mono ?_; rintro e w17 ⟨rfl, hS17⟩; have HSx : Hid (Step w15 w17) := Lib.hid (HSx.out.trans (Step.trans stp hS17)); clear hS17))
    rw [HRL.out]
    go_upto_region 26 with (go_at_call 12; refine (JsT.again (HS15.out.next' (HSy.out.trans stp)) (by rw [HRL.out]; omega)).mono ?_; rintro e w19 ⟨l19, rfl, M19, hs19, hg19, hn19⟩; have HS19 := Lib.hid hs19; have HR19 := Lib.hid (hg19.keep (Ty.step _ HR18.out stp)); have HNO := Lib.hid hn19; clear hs19 hg19 hn19)
    rw [HRL.out] at HNO
    have HLM : Hid (F.length + S.length ≤ lim) := Lib.hid (by rw [← HF1.out, ← HF2.out, lim_eq]; omega)
    go_upto_region 27 with (first
      | (go_at_call 15; refine (Copies_ _ _ _ _ (Ty.step _ HS19.out.two.r1 stp)).mono ?_; rintro e w20 ⟨v20, rfl, hA20, hS20⟩; obtain ⟨a20, n20, c20, rfl, HN20⟩ := hA20.valN; have HSR : Hid (Src Ty.bytes w20 (fun c => False ∨ (Value.slice a20 n20 c20).ownBlock = some c) (.slice a3 n3 c3) S) := Lib.hid (Src.of (Ty.keep _ HS19.out.two.r2 (fun c hc hm => ⟨hS20.heap hc, fun hx => by have h1 := (hA20.lt hx).1; omega⟩)) (fun _ _ h => h.resolve_left id)); have HA20 := Lib.hid (Gr.Own.less hA20 (M' := fun _ => False) (fun _ _ h => h.elim)); have HS20 : Hid (Step w19 w20) := Lib.hid (Step.trans stp hS20); clear hA20 hS20)
      | (at_builtin; refine wpList_append_acc (w0 := w19) (E := Ty.bytes) (ys := S) rfl (.tmp 137) (.tmp 138) rfl stShort (HS20.out.trans stp) (Gr.Own.step HA20.out stp) HSR.out HLM.out (by rfl) (by rfl) ?_; intro v21 w21 hA21 hB21 hG21 hn21; obtain ⟨a21, n21, c21, rfl, HN21⟩ := hA21.valN; have HA21 := Lib.hid hA21; have HS21 : Hid (Step w19 w21) := Lib.hid hB21; clear hA21 hB21 hG21 hn21))
    have hN21 : n21 = n2 + n3 := by rw [HN21.out, List.length_append, HF1.out, HF2.out]
    have HV21 : Hid ((Ty.slice Ty.bytes).rep w21 (fun _ => False) [.slice a21 n21 c21] A) := Lib.hid (by rw [HAE.out]; exact own_slice HA21.out)
    have HNN : Hid (∀ W : World, Step w19 W → Calls Tryz.prog 17 #[.pointer (some ⟨l19, 0, none⟩)] W fun e w' => e = .returned (.int .u64 (j : Int)) ∧ Step W w') := Lib.hid (fun W hW => by
      have h := (HS19.out.next' hW).nextI
      rw [HRL.out] at h
      exact h)
    have HEQ : Hid (∀ (W : World) (c' : Nat), Step w21 W → c' = c21 → Calls Tryz.prog 18 #[.slice a18 j c18, .slice a21 j c'] W fun e w' => e = .returned (.bool true) ∧ Step W w') := Lib.hid (fun W c' hW hc => by
      subst hc
      have h8 := slice_takeP (k := j) HV21.out (by rw [HAN.out]; omega)
      rw [← HRR.out] at h8
      have h9 := HR19.out
      rw [HRL.out] at h9
      exact Equals_same (Ty.step _ h9 (HS21.out.trans hW)) (Ty.step _ h8 hW))
    have hcap : n21 ≤ c21 := by
      obtain ⟨_, _, hv, h1, _⟩ := HV21.out
      simp only [List.cons.injEq, Value.slice.injEq, and_true] at hv
      obtain ⟨_, h2, h3⟩ := hv
      omega
    have hwj : IntKind.u64.wrap (j : Int) = (j : Int) := by rw [IntKind.wrap_u64]; omega
    have e1 : (j : Int) ≤ (n21 : Int) := by omega
    have e2 : (j : Int) ≤ (c21 : Int) := by omega
    have e3 : (n21 : Int) ≤ (c21 : Int) := by omega
    have HSz : Hid (Step w21 w21) := Lib.hid (Step.refl _)
    clear HA20 HSR HN21 HA21
    go_wp2_with (first
      | (go_at_call 17; refine (HNN.out _ (HS21.out.trans (HSz.out.trans stp))).mono ?_; rintro e w22 ⟨rfl, hS22⟩; have HSz : Hid (Step w21 w22) := Lib.hid (HSz.out.trans (Step.trans stp hS22)); clear hS22)
      | (go_at_call 17; refine (HNO.out _ (HS21.out.trans (HSz.out.trans stp))).mono ?_; rintro e w22 ⟨rfl, hS22⟩; have HSz : Hid (Step w21 w22) := Lib.hid (HSz.out.trans (Step.trans stp hS22)); clear hS22)
      | (go_at_call 18; refine (HEQ.out _ _ (HSz.out.trans stp) (by omega)).mono ?_; rintro e w23 ⟨rfl, hS23⟩; have HSz : Hid (Step w21 w23) := Lib.hid (HSz.out.trans (Step.trans stp hS23)); clear hS23))
    go_ret
    exact ⟨rfl, HS19.out.two.step.trans (HS21.out.trans (HSz.out.trans stp))⟩

end Go.Proofs.YthebdlkmoailaaaGreatDoor
