/-
  Walk: a drive's Crash.
-/
import Derived.Test.YthebdlkmoailaaaGreatDoorZP6
set_option linter.unusedVariables false
set_option linter.unusedSimpArgs false
namespace Go.Proofs.YthebdlkmoailaaaGreatDoor
open Go.RowKit Go.Gr Go.Maps
open Go.Proofs (encStr)
set_option linter.unusedSimpArgs false
set_option linter.unusedVariables false
theorem allU_take {q : List DDeed} {k : Nat} (h : k < q.length) : allU (q.take (k + 1)) = allU (q.take k) + q[k].units := by
  unfold allU
  rw [List.take_succ_eq_append_getElem h, List.map_append, List.sum_append]
  simp
theorem fitsQ_units : ∀ {q : List DDeed} {f : List DPair}, fitsQ q f → ∀ x ∈ q, x.units ≤ 68719476737
  | [], _, _, x, hx => by simp at hx
  | y :: q, f, h, x, hx => by
    rcases List.mem_cons.1 hx with rfl | hx
    · cases x with
      | wr s k d => have := h.1.2.1; simp [DDeed.units]; omega
      | tr s z => simp [DDeed.units]
      | rm s => simp [DDeed.units]
    · exact fitsQ_units h.2 x hx
theorem allU_le {q : List DDeed} (h : ∀ x ∈ q, x.units ≤ 68719476737) : allU q ≤ q.length * 68719476737 := by
  induction q with
  | nil => simp [allU]
  | cons x q ih =>
    have h1 := ih (fun y hy => h y (List.mem_cons_of_mem _ hy))
    have h2 := h x List.mem_cons_self
    unfold allU at h1 ⊢
    rw [List.map_cons, List.sum_cons, List.length_cons]
    omega
/-- Behind a crash: the drive's memory. -/
theorem crash_end {w w4 w5 w6 w8 : World} {M : Nat → Prop} {b mf : Nat} {sf sn v6 : Option Nat} {D : DDr} {keep : Int} {fs : List DPair} (ho : ∀ c, DM b sf sn c → M c) (hold : ∀ c, M c → c < w.heap.size) (hmf : w.heap.size ≤ mf) (HS4 : Step w w4) (HT5 : Turn (fun c => c = mf) w4 w5) (HM5 : MapR Tryz.prog 9 DPair.key flR w5 (fun c => M c ∨ c = mf) mf fs) (HS6 : Step w5 w6)
    (HF6 : FilesAt w6 (fun c => (M c ∨ c = mf) ∨ v6 = some c) (.map v6) fs) (HV6 : ∀ m, v6 = some m → w5.heap.size ≤ m ∧ m < w6.heap.size) (hT8 : Turn (fun c => c = b) w6 w8) (HC8 : DrAt w8 b (.map (some mf)) (.map v6) (.slice none 0 0) D.room false 0 false) (hcf : crashF D keep = fs) (hlen : fs.length ≤ 1000000) :
    ∃ M' sf' sn', DriveAt w8 M' b sf' sn' (crashD D keep) ∧ DGo b w M sf sn w8 M' sf' sn' := by
  have hblt := hold b (ho b (.inl rfl))
  have hz8 := hT8.size
  have hz6 := HS6.size
  have hz5 := HT5.size
  have hz4 := HS4.size
  have hml := HM5.lt
  have hcd : crashD D keep = ⟨fs, fs, [], D.room, false, 0, false⟩ := by unfold crashD; rw [hcf]
  rw [hcd]
  refine ⟨fun c => (M c ∨ c = mf) ∨ v6 = some c, some mf, v6, ⟨⟨.slice none 0 0, HC8, nil_deeds⟩, .inr ⟨mf, rfl, .inl (.inr rfl), ?_⟩, ?_, fun m h1 h2 => ?_, fun c hc => ?_, fun c hc => ?_, ⟨trivial, rfl, by simpa using hlen, (fun h => by cases h), by simp [I64]⟩⟩, ⟨?_, fun c hc => .inl (.inl hc), fun c hc hx => ?_, fun c hc hx => ?_⟩⟩
  · refine MapR.keep keep_flR HM5 ((hT8.block mf (by omega) (by omega)).trans (HS6.heap hml)) (fun c hc hn => ⟨(hT8.block c (by omega) (fun e => hn (by rw [e]; exact .inl (ho b (.inl rfl))))).trans (HS6.heap hc), fun hx => ?_⟩)
    rcases hx with hx | hx
    · exact hn hx
    · have := (HV6 c hx).1; omega
  · refine HF6.keep2 (fun m hm => ⟨hT8.block m (HV6 m hm).2 (by have := (HV6 m hm).1; omega), .inr hm⟩) (fun c hc hn => ⟨hT8.block c hc (fun e => hn (by rw [e]; exact .inl (.inl (ho b (.inl rfl))))), hn⟩)
  · injection h1 with h1
    subst h1
    have := (HV6 mf h2).1; omega
  · rcases hc with rfl | hc | hc
    · exact .inl (.inl (ho _ (.inl rfl)))
    · injection hc with hc; exact .inl (.inr hc.symm)
    · exact .inr hc
  · rcases hc with (hc | rfl) | hc
    · have := hold c hc; omega
    · omega
    · have := (HV6 c hc).2; omega
  · have h1 : Turn (fun c => w.heap.size ≤ c ∨ DM b sf sn c) w w4 := Turn.of HS4
    have h2 := h1.trans (HT5.mono (fun c hc hx => .inl (by rw [hx]; exact hmf)))
    exact (h2.then HS6).trans (hT8.mono (fun c hc hx => .inr (.inl hx)))
  · rcases hx with (hx | rfl) | hx
    · exact hx
    · omega
    · have := (HV6 c hx).1; omega
  · rcases hx with hx | hx | hx
    · exact .inl hx
    · injection hx with hx; omega
    · have := (HV6 c hx).1; omega
set_option maxRecDepth 100000 in
set_option maxHeartbeats 8000000 in
theorem dCrash_ {w : World} {M : Nat → Prop} {b : Nat} {sf sn : Option Nat} {D : DDr} {keep : Int} (h : DriveAt w M b sf sn D) (hk : I64 keep) :
    Calls Tryz.prog 38 #[.pointer (some ⟨b, 0, none⟩), .int .i64 keep] w fun y w' => y = .returned (.tuple #[]) ∧ ∃ M' sf' sn', DriveAt w' M' b sf' sn' (crashD D keep) ∧ DGo b w M sf sn w' M' sf' sn' := by
  obtain ⟨⟨queue, hr, hqu⟩, hs, hsn, hne, ho, hold, hwf⟩ := h
  obtain ⟨qa, qc, rfl, hqc, _, hql⟩ := Ty.slice_val hqu
  have hfew := hwf.few
  have hu := fitsQ_units hwf.fit
  have HAU : Hid (∀ k, k ≤ D.queue.length → allU (D.queue.take k) ≤ k * 68719476737) := Lib.hid (fun k hk => by
    have := allU_le (q := D.queue.take k) (fun x hx => hu x (List.mem_of_mem_take hx))
    rw [List.length_take, Nat.min_eq_left hk] at this
    exact this)
  have c2 : w.cell? ⟨b, 2, none⟩ = some (.slice qa D.queue.length qc) := hr.cell 2
  have HR := Lib.hid hr
  have HQ := Lib.hid hqu
  have HS := Lib.hid hs
  have HSN := Lib.hid hsn
  have HWF := Lib.hid hwf
  have hblt := hr.lt
  clear hr hqu hs hsn hu
  have hn : D.queue.length ≤ 1000000 := by omega
  go_enter Tryz.func38, Tryz.ntmps38
  go_wp2
  go_loopw [4, 16] (fun av iv w' => ∃ k : Nat, iv = .int .i64 (k : Int) ∧ k ≤ D.queue.length ∧ av = .int .i64 ((allU (D.queue.take k) : Nat) + 1 : Int) ∧ Hid (Step w w')) (fun _ iv _ => D.queue.length - (Go.RowKit.intOf iv).toNat)
  case atStart => exact ⟨0, rfl, Nat.zero_le _, by simp [allU], Lib.hid (Step.refl _)⟩
  case round =>
    obtain ⟨k, rfl, hkq, rfl, HST⟩ := hrel
    by_cases hlt : k < D.queue.length
    · have hd : decide ((k : Int) < (D.queue.length : Int)) = true := decide_eq_true (by omega)
      obtain ⟨b1, o1, u1, rfl, hb1, hMb1, hu1, hc1⟩ := Ty.slice_at1 rfl HQ.out hlt
      obtain ⟨t, v, fu, fd, rfl, hmu, -, -, hcf, -, hUN, -⟩ := deed_calls hu1
      have hc1' : wr.cell? ⟨b1, o1 + k, none⟩ = some (.iface t v) := (HST.out.cell hb1 _).trans hc1
      have HUN : Hid (∀ W : World, Step wr W → Calls Tryz.prog fu #[v] W fun y w' => y = .returned (.int .i64 (D.queue[k].units : Nat)) ∧ Step W w') := Lib.hid (fun W hW => hUN W M (Ty.step _ hu1 (HST.out.trans hW)))
      have htk : Hid (allU (D.queue.take (k + 1)) = allU (D.queue.take k) + D.queue[k].units) := Lib.hid (allU_take hlt)
      have h3 := HAU.out (k + 1) (by omega)
      rw [htk.out] at h3
      clear hUN hu1 hc1
      generalize D.queue[k].units = U at *
      generalize hA : allU (D.queue.take k) = A at *
      have HLT : Hid (k + 1 ≤ D.queue.length) := Lib.hid hlt
      go_wp2_with (refine (HUN.out _ stp).mono ?_; rintro y w2 ⟨rfl, hS2⟩; have HS2 : Hid (Step w w2) := Lib.hid (HST.out.trans (Step.trans stp hS2)); clear hS2)
      exact ⟨⟨k + 1, by go_num, HLT.out, by rw [htk.out]; congr 1; omega, HS2⟩, by simp [Go.RowKit.intOf]; omega⟩
    · have hd : decide ((k : Int) < (D.queue.length : Int)) = false := decide_eq_false (by omega)
      have hke : D.queue.take k = D.queue := List.take_of_length_le (by omega)
      have h3 := HAU.out D.queue.length (Nat.le_refl _)
      rw [List.take_length] at h3
      rw [hke]
      obtain ⟨A, hA⟩ : ∃ A, A = allU D.queue := ⟨_, rfl⟩
      rw [← hA] at h3 ⊢
      have hA0 : ((A : Int) + 1 == 0) = false := by rw [beq_eq_false_iff_ne]; omega
      have hAn : ¬ ((A : Int) + 1 = 0) := by omega
      obtain ⟨hk1, hk2⟩ := hk
      have HAA := Lib.hid hA
      clear hA
      obtain ⟨K, hK⟩ : ∃ K : Nat, K = (keep % ((A : Int) + 1)).toNat := ⟨_, rfl⟩
      have hKI : (K : Int) = keep % ((A : Int) + 1) := by rw [hK]; exact Int.toNat_of_nonneg (Int.emod_nonneg _ (by omega))
      have hKle : K ≤ A := by
        have := Int.emod_lt_of_pos keep (show (0 : Int) < (A : Int) + 1 by omega)
        omega
      have HCF : Hid (crashF D keep = replay D.queue K D.safe) := Lib.hid (by unfold crashF; rw [← HAA.out, ← hK])
      have htm : keep.tmod ((A : Int) + 1) = if 0 ≤ keep ∨ keep % ((A : Int) + 1) = 0 then (K : Int) else (K : Int) - ((A : Int) + 1) := by
        rw [Int.tmod_eq_emod, hKI]
        by_cases h0 : 0 ≤ keep
        · simp [h0]
        · by_cases h1 : ((A : Int) + 1) ∣ keep
          · have := Int.emod_eq_zero_of_dvd h1
            simp [this, h1]
          · have h2 : ¬ keep % ((A : Int) + 1) = 0 := fun h => h1 (Int.dvd_of_emod_eq_zero h)
            simp [h0, h1, h2]
            omega
      clear HAA HAU hK hk1 hk2 HWF hKI
      by_cases hs0 : 0 ≤ keep ∨ keep % ((A : Int) + 1) = 0
      · rw [if_pos hs0] at htm
        have hd7 : decide ((K : Int) < 0) = false := decide_eq_false (by omega)
        go_upto_region 9 with fail
        have c0r : wr.cell? ⟨b, 0, none⟩ = some (.map sf) := (HST.out.cell hblt 0).trans (HR.out.cell 0)
        go_upto_region 10 with (go_at_call 65; refine (mClone_ (FilesAt.step HS.out (HST.out.trans stp))).mono ?_; rintro e w3 ⟨v3, rfl, hF3, hS3, hv3, hv4, -⟩; have HF3 := Lib.hid hF3; have HS3 : Hid (Step w w3) := Lib.hid (HST.out.trans (Step.trans stp hS3)); have HV3 : Hid (∀ m, v3 = some m → w.heap.size ≤ m) := Lib.hid (fun m hm => by have := hv3 m hm; have := HST.out.size; have := Step.size (show Step wr _ from by (repeat (first | exact Step.refl _ | refine Step.alloc ?_ _ | refine Step.drew ?_ | refine Step.drewN ?_ _ | refine Step.setCell ?_ (by first | exact Nat.le_refl _ | assumption | omega | (simp; done) | (simp; omega)) _ | assumption | refine Step.trans ?_ (by assumption : Step _ _)))); omega); clear hF3 hS3 hv3 hv4)
        have c23 : w3.cell? ⟨b, 2, none⟩ = some (.slice qa D.queue.length qc) := (HS3.out.cell hblt 2).trans c2
        rcases v3 with _ | mf
        · have hsafe : D.safe = [] := by
            rcases HF3.out with ⟨_, h⟩ | ⟨m, h, _⟩
            · exact h
            · cases h
          have hnil : ∀ W : World, (binOp .eql 83 (.map none) (.map none)).run Tryz.prog W = .ok (.bool true) W := fun W => eql_map_nil W _ _ _ none Tryz.underlying83
          have hmm := @run_makeMap Tryz.prog
          go_upto_region 12 with fail
          obtain ⟨mf, hmfe⟩ : ∃ mf, mf = w3.heap.size := ⟨_, rfl⟩
          rw [← hmfe]
          refine wp_code (fun wx => Step w wx ∧ MapR Tryz.prog 9 DPair.key flR wx (fun c => M c ∨ c = mf) mf D.safe) ⟨HS3.out.trans stp, by rw [hsafe]; exact MapR.empty (by rw [hmfe]; exact heap_alloc_new _ _)⟩ ?_
          rintro w4 ⟨hS4, hM4⟩
          have c24 : w4.cell? ⟨b, 2, none⟩ = some (.slice qa D.queue.length qc) := (hS4.cell hblt 2).trans c2
          have HS4 := Lib.hid hS4
          have HM4 := Lib.hid hM4
          have hmf : w.heap.size ≤ mf := by rw [hmfe]; exact HS3.out.size
          clear hS4 hM4 hmfe c23 HF3 HV3 HS3 hsafe HST
          go_wp2
          go_loopw [1, 46] (fun kv iv w' => ∃ (k kk : Nat) (fs : List DPair), iv = .int .i64 (k : Int) ∧ k ≤ D.queue.length ∧ kv = .int .i64 (kk : Int) ∧ kk ≤ A ∧ Hid (MapR Tryz.prog 9 DPair.key flR w' (fun c => M c ∨ c = mf) mf fs) ∧ Hid (replay D.queue K D.safe = replay (D.queue.drop k) kk fs) ∧ Hid (kk = 0 ∨ fitsQ (D.queue.drop k) fs) ∧ Hid (fs.length ≤ D.safe.length + k) ∧ Hid (Turn (fun c => c = mf) w4 w')) (fun _ iv _ => D.queue.length - (Go.RowKit.intOf iv).toNat)
          case atStart => exact ⟨0, K, D.safe, rfl, Nat.zero_le _, rfl, hKle, HM4, Lib.hid rfl, Lib.hid (.inr hwf.fit), Lib.hid (Nat.le_refl _), Lib.hid (Turn.refl _ _)⟩
          case round =>
            obtain ⟨k, kk, fs, rfl, hkq, rfl, hkk, HM5, HRP, HFT, HLN, HT5⟩ := hrel
            have hbr : b < wr.heap.size := by have := HT5.out.size; have := HS4.out.size; omega
            have s5 : ∀ j, wr.cell? ⟨b, j, none⟩ = w.cell? ⟨b, j, none⟩ := fun j => (HT5.out.cell (by have := HS4.out.size; omega) (by omega) j).trans (HS4.out.cell hblt j)
            have t5 : ∀ j, wr.frozen? ⟨b, j, none⟩ = false := fun j => (HR.out.kept (w' := wr) ((HT5.out.block b (by have := HS4.out.size; omega) (by omega)).trans (HS4.out.heap hblt))).frozen j
            by_cases hlt : k < D.queue.length
            · have hd : decide ((k : Int) < (D.queue.length : Int)) = true := decide_eq_true (by omega)
              obtain ⟨b1, o1, u1, rfl, hb1, hMb1, hu1, hc1⟩ := Ty.slice_at1 rfl HQ.out hlt
              have hur : tDeed.rep wr (fun c => M c ∨ c = mf) [u1] D.queue[k] := tDeed.keep hu1 (fun c hc hn => ⟨(HT5.out.block c (by have := HS4.out.size; omega) (by omega)).trans (HS4.out.heap hc), fun h => h.elim hn (fun e => by omega)⟩)
              obtain ⟨t, v, fu, fd, rfl, hmu, hmd, hna, hcf, hcd, hUN, hDO⟩ := deed_calls hu1
              have hc1' : wr.cell? ⟨b1, o1 + k, none⟩ = some (.iface t v) := (HT5.out.cell (by have := HS4.out.size; omega) (by omega) _).trans ((HS4.out.cell hb1 _).trans hc1)
              have hdr : D.queue.drop k = D.queue[k] :: D.queue.drop (k + 1) := List.drop_eq_getElem_cons hlt
              rw [hdr] at HRP HFT
              have HLT : Hid (k + 1 ≤ D.queue.length) := Lib.hid hlt
              have hup := D.queue[k].units_pos
              have hu37 := fitsQ_units hwf.fit D.queue[k] (List.getElem_mem hlt)
              have HUN : Hid (∀ W : World, Step wr W → Calls Tryz.prog fu #[v] W fun y w' => y = .returned (.int .i64 (D.queue[k].units : Nat)) ∧ Step W w') := Lib.hid (fun W hW => hUN W _ (Ty.step _ hur hW))
              have HDO : Hid (∀ (W : World) (n : Nat), Step wr W → 1 ≤ n → n ≤ D.queue[k].units → D.queue[k].fits fs → Calls Tryz.prog fd #[v, .map (some mf), .int .i64 (n : Int)] W fun y w' => y = .returned (.tuple #[]) ∧ MapR Tryz.prog 9 DPair.key flR w' (fun c => M c ∨ c = mf) mf (D.queue[k].doB n fs) ∧ Turn (· = mf) W w') := Lib.hid (fun W n hW h1 h2 h3 => hDO W _ mf n fs (Ty.step _ hur hW) (HM5.out.step keep_flR hW) (.inr rfl) (fun c hc => by
                have hz := hW.size
                have hz5 := HT5.out.size
                have hz4 := HS4.out.size
                rcases hc with hc | hc
                · have := hold c hc; omega
                · have := HM4.out.lt; omega) h1 h2 h3 (by have := HLN.out; simp [maxLen]; omega))
              clear hUN hDO hur hu1 hc1 hdr
              generalize D.queue[k] = X at *
              generalize hre : D.queue.drop (k + 1) = rest at *
              have HRE := Lib.hid hre
              clear hre
              by_cases hk0 : kk = 0
              · subst hk0
                have HEND : Hid (crashF D keep = fs) := Lib.hid (by rw [HCF.out, HRP.out, replay, if_pos (by simp)])
                have hle : ((0 : Nat) : Int) ≤ (X.units : Int) := by omega
                have hle2 : ¬ ((X.units : Int) ≤ 0) := by omega
                generalize hUe : X.units = U at *
                clear HDO HM4
                go_upto_region 20 with (refine (HUN.out _ stp).mono ?_; rintro y w2 ⟨rfl, hS2⟩; have HS2 : Hid (Step wr w2) := Lib.hid (Step.trans stp hS2); clear hS2)
                have HM52 : Hid (MapR Tryz.prog 9 DPair.key flR w2 (fun c => M c ∨ c = mf) mf fs) := Lib.hid (HM5.out.step keep_flR HS2.out)
                have HT52 : Hid (Turn (fun c => c = mf) w4 w2) := Lib.hid (HT5.out.then HS2.out)
                have hbr2 : b < w2.heap.size := by have := HS2.out.size; omega
                clear s5 t5 HQ c2 c24 HRP HFT
                go_upto_region 21 with (go_at_call 65; refine (mClone_ (.inr ⟨mf, rfl, .inr rfl, HM52.out.step keep_flR stp⟩ : FilesAt _ (fun c => M c ∨ c = mf) (.map (some mf)) fs)).mono ?_; rintro e w6 ⟨v6, rfl, hF6, hS6, hv6, hv7, -⟩; have HF6 := Lib.hid hF6; have HS6 : Hid (Step w2 w6) := Lib.hid (Step.trans stp hS6); have HV6 : Hid (∀ m, v6 = some m → w2.heap.size ≤ m ∧ m < w6.heap.size) := Lib.hid (fun m hm => ⟨by have := hv6 m hm; have := Step.size (show Step w2 _ from by (repeat (first | exact Step.refl _ | refine Step.alloc ?_ _ | refine Step.drew ?_ | refine Step.drewN ?_ _ | refine Step.setCell ?_ (by first | exact Nat.le_refl _ | assumption | omega | (simp; done) | (simp; omega)) _ | assumption | refine Step.trans ?_ (by assumption : Step _ _)))); omega, hv7 m hm⟩); have hC6 : DrAt w6 b (.map sf) (.map sn) (.slice _ D.queue.length qc) D.room D.armed D.left D.dead := HR.out.kept ((HS6.out.heap hbr2).trans ((HT52.out.block b (by have := HS4.out.size; omega) (by omega)).trans (HS4.out.heap hblt))); have k0 : w6.cell? ⟨b, 0, none⟩ = some (.map sf) := hC6.cell 0; have k1 : w6.cell? ⟨b, 1, none⟩ = some (.map sn) := hC6.cell 1; have k2 : w6.cell? ⟨b, 2, none⟩ = some (.slice _ D.queue.length qc) := hC6.cell 2; have k3 : ∀ j, w6.frozen? ⟨b, j, none⟩ = false := fun j => hC6.frozen j; have HC6 := Lib.hid hC6; clear hF6 hS6 hv6 hv7 hC6)
                refine wp_code (fun wx => DrAt wx b (.map (some mf)) (.map v6) (.slice none 0 0) D.room D.armed D.left D.dead ∧ Turn (fun c => c = b) w6 wx) ⟨CellsAt.set (CellsAt.set (CellsAt.set HC6.out 0 _) 1 _) 2 _, (((Turn.refl (fun c => c = b) w6).setCell (p := ⟨b, 0, none⟩) (fun _ => rfl) _).setCell (p := ⟨b, 1, none⟩) (fun _ => rfl) _).setCell (p := ⟨b, 2, none⟩) (fun _ => rfl) _⟩ ?_
                clear k0 k1 k2 k3 HC6
                rintro w7 ⟨hC7, hT7⟩
                have k4 : w7.cell? ⟨b, 4, none⟩ = some (.bool D.armed) := hC7.cell 4
                have k5 : w7.cell? ⟨b, 5, none⟩ = some (.int .i64 D.left) := hC7.cell 5
                have k6 : w7.cell? ⟨b, 6, none⟩ = some (.bool D.dead) := hC7.cell 6
                have k7 : ∀ j, w7.frozen? ⟨b, j, none⟩ = false := fun j => hC7.frozen j
                have HC7 := Lib.hid hC7
                have HT7 := Lib.hid hT7
                clear hC7 hT7
                go_wp2
                have hT8 := ((HT7.out.setCell (p := ⟨b, 6, none⟩) (fun _ => rfl) (.bool false)).setCell (p := ⟨b, 4, none⟩) (fun _ => rfl) (.bool false)).setCell (p := ⟨b, 5, none⟩) (fun _ => rfl) (.int .i64 0)
                refine bodyPost_end (results_none rfl _ _ _) rfl ⟨rfl, crash_end ho hold hmf HS4.out HT52.out HM52.out HS6.out HF6.out HV6.out hT8 (CellsAt.set (CellsAt.set (CellsAt.set HC7.out 6 (.bool false)) 4 (.bool false)) 5 (.int .i64 0)) HEND.out (by have := HLN.out; omega)⟩

              · have hk0' : ((kk : Int) == 0) = false := by rw [beq_eq_false_iff_ne]; omega
                have hfit : X.fits fs := (HFT.out.resolve_left hk0).1
                have hfit2 : fitsQ rest (X.doB X.units fs) := (HFT.out.resolve_left hk0).2
                by_cases hle : kk ≤ X.units
                · have hRP2 : Hid (replay D.queue K D.safe = replay rest 0 (X.doB kk fs)) := Lib.hid (by rw [HRP.out, replay, Nat.min_eq_left hle, if_neg hk0, Nat.sub_self])
                  have hln2 := doB_len X kk fs
                  obtain ⟨z0, hz0⟩ : ∃ z0, z0 = 0 := ⟨_, rfl⟩
                  have hFT2 : Hid (z0 = 0 ∨ fitsQ rest (X.doB kk fs)) := Lib.hid (.inl hz0)
                  rw [← hz0] at hRP2
                  have HDX : Hid (∀ W : World, Step wr W → Calls Tryz.prog fd #[v, .map (some mf), .int .i64 ((kk : Nat) : Int)] W fun y w' => y = .returned (.tuple #[]) ∧ MapR Tryz.prog 9 DPair.key flR w' (fun c => M c ∨ c = mf) mf (X.doB kk fs) ∧ Turn (· = mf) W w') := Lib.hid (fun W hW => HDO.out W kk hW (by omega) (by omega) hfit)
                  generalize hUe : X.units = U at *
                  (try subst hn1)
                  clear HDO HM4 HFT
                  go_wp2_with (first
                    | (refine (HUN.out _ stp).mono ?_; rintro y w2 ⟨rfl, hS2⟩; have HS2 : Hid (Step wr w2) := Lib.hid (Step.trans stp hS2); clear hS2)
                    | (refine (HDX.out _ (HS2.out.trans stp)).mono ?_; rintro y w3 ⟨rfl, hM3, hT3⟩; have HM3 := Lib.hid hM3; have HT3 : Hid (Turn (fun c => c = mf) w4 w3) := Lib.hid ((HT5.out.then (HS2.out.trans stp)).trans hT3); clear hM3 hT3))
                  exact ⟨⟨k + 1, z0, X.doB kk fs, by go_num, HLT.out, by first | rfl | (congr 1; omega), by omega, HM3, Lib.hid (by rw [HRE.out]; exact hRP2.out), Lib.hid (by rw [HRE.out]; exact hFT2.out), Lib.hid (by have := HLN.out; omega), HT3⟩, by simp [Go.RowKit.intOf]; omega⟩

                · have hRP2 : Hid (replay D.queue K D.safe = replay rest (kk - X.units) (X.doB X.units fs)) := Lib.hid (by rw [HRP.out, replay, Nat.min_eq_right (by omega), if_neg (by omega)])
                  have hln2 := doB_len X X.units fs
                  obtain ⟨n1, hn1⟩ : ∃ n1, n1 = X.units := ⟨_, rfl⟩
                  rw [← hn1] at hRP2 hln2 hfit2
                  obtain ⟨z0, hz0⟩ : ∃ z0, z0 = kk - n1 := ⟨_, rfl⟩
                  rw [← hz0] at hRP2
                  have hFT2 : Hid (z0 = 0 ∨ fitsQ rest (X.doB n1 fs)) := Lib.hid (.inr hfit2)
                  have HDX : Hid (∀ W : World, Step wr W → Calls Tryz.prog fd #[v, .map (some mf), .int .i64 ((n1 : Nat) : Int)] W fun y w' => y = .returned (.tuple #[]) ∧ MapR Tryz.prog 9 DPair.key flR w' (fun c => M c ∨ c = mf) mf (X.doB n1 fs) ∧ Turn (· = mf) W w') := Lib.hid (fun W hW => HDO.out W n1 hW (by omega) (by omega) hfit)
                  generalize hUe : X.units = U at *
                  (try subst hn1)
                  clear HDO HM4 HFT
                  go_wp2_with (first
                    | (refine (HUN.out _ stp).mono ?_; rintro y w2 ⟨rfl, hS2⟩; have HS2 : Hid (Step wr w2) := Lib.hid (Step.trans stp hS2); clear hS2)
                    | (refine (HDX.out _ (HS2.out.trans stp)).mono ?_; rintro y w3 ⟨rfl, hM3, hT3⟩; have HM3 := Lib.hid hM3; have HT3 : Hid (Turn (fun c => c = mf) w4 w3) := Lib.hid ((HT5.out.then (HS2.out.trans stp)).trans hT3); clear hM3 hT3))
                  exact ⟨⟨k + 1, z0, X.doB n1 fs, by go_num, HLT.out, by first | rfl | (congr 1; omega), by omega, HM3, Lib.hid (by rw [HRE.out]; exact hRP2.out), Lib.hid (by rw [HRE.out]; exact hFT2.out), Lib.hid (by have := HLN.out; omega), HT3⟩, by simp [Go.RowKit.intOf]; omega⟩

            · have hd : decide ((k : Int) < (D.queue.length : Int)) = false := decide_eq_false (by omega)
              have hke : D.queue.drop k = [] := List.drop_of_length_le (by omega)
              have HEND : Hid (crashF D keep = fs) := Lib.hid (by rw [HCF.out, HRP.out, hke]; rfl)
              clear s5 t5 HQ c2 c24 HRP HFT
              go_upto_region 21 with (go_at_call 65; refine (mClone_ (.inr ⟨mf, rfl, .inr rfl, HM5.out.step keep_flR stp⟩ : FilesAt _ (fun c => M c ∨ c = mf) (.map (some mf)) fs)).mono ?_; rintro e w6 ⟨v6, rfl, hF6, hS6, hv6, hv7, -⟩; have HF6 := Lib.hid hF6; have HS6 : Hid (Step wr w6) := Lib.hid (Step.trans stp hS6); have HV6 : Hid (∀ m, v6 = some m → wr.heap.size ≤ m ∧ m < w6.heap.size) := Lib.hid (fun m hm => ⟨by have := hv6 m hm; have := Step.size (show Step wr _ from by (repeat (first | exact Step.refl _ | refine Step.alloc ?_ _ | refine Step.drew ?_ | refine Step.drewN ?_ _ | refine Step.setCell ?_ (by first | exact Nat.le_refl _ | assumption | omega | (simp; done) | (simp; omega)) _ | assumption | refine Step.trans ?_ (by assumption : Step _ _)))); omega, hv7 m hm⟩); have hC6 : DrAt w6 b (.map sf) (.map sn) (.slice _ D.queue.length qc) D.room D.armed D.left D.dead := HR.out.kept ((HS6.out.heap hbr).trans ((HT5.out.block b (by have := HS4.out.size; omega) (by omega)).trans (HS4.out.heap hblt))); have k0 : w6.cell? ⟨b, 0, none⟩ = some (.map sf) := hC6.cell 0; have k1 : w6.cell? ⟨b, 1, none⟩ = some (.map sn) := hC6.cell 1; have k2 : w6.cell? ⟨b, 2, none⟩ = some (.slice _ D.queue.length qc) := hC6.cell 2; have k3 : ∀ j, w6.frozen? ⟨b, j, none⟩ = false := fun j => hC6.frozen j; have HC6 := Lib.hid hC6; clear hF6 hS6 hv6 hv7 hC6)
              refine wp_code (fun wx => DrAt wx b (.map (some mf)) (.map v6) (.slice none 0 0) D.room D.armed D.left D.dead ∧ Turn (fun c => c = b) w6 wx) ⟨CellsAt.set (CellsAt.set (CellsAt.set HC6.out 0 _) 1 _) 2 _, (((Turn.refl (fun c => c = b) w6).setCell (p := ⟨b, 0, none⟩) (fun _ => rfl) _).setCell (p := ⟨b, 1, none⟩) (fun _ => rfl) _).setCell (p := ⟨b, 2, none⟩) (fun _ => rfl) _⟩ ?_
              clear k0 k1 k2 k3 HC6
              rintro w7 ⟨hC7, hT7⟩
              have k4 : w7.cell? ⟨b, 4, none⟩ = some (.bool D.armed) := hC7.cell 4
              have k5 : w7.cell? ⟨b, 5, none⟩ = some (.int .i64 D.left) := hC7.cell 5
              have k6 : w7.cell? ⟨b, 6, none⟩ = some (.bool D.dead) := hC7.cell 6
              have k7 : ∀ j, w7.frozen? ⟨b, j, none⟩ = false := fun j => hC7.frozen j
              have HC7 := Lib.hid hC7
              have HT7 := Lib.hid hT7
              clear hC7 hT7
              go_wp2
              have hT8 := ((HT7.out.setCell (p := ⟨b, 6, none⟩) (fun _ => rfl) (.bool false)).setCell (p := ⟨b, 4, none⟩) (fun _ => rfl) (.bool false)).setCell (p := ⟨b, 5, none⟩) (fun _ => rfl) (.int .i64 0)
              refine bodyPost_end (results_none rfl _ _ _) rfl ⟨rfl, crash_end ho hold hmf HS4.out HT5.out HM5.out HS6.out HF6.out HV6.out hT8 (CellsAt.set (CellsAt.set (CellsAt.set HC7.out 6 (.bool false)) 4 (.bool false)) 5 (.int .i64 0)) HEND.out (by have := HLN.out; omega)⟩


        · have hnil : ∀ W : World, (binOp .eql 83 (.map (some mf)) (.map none)).run Tryz.prog W = .ok (.bool false) W := fun W => eql_map_nil W _ _ _ (some mf) Tryz.underlying83
          have hmf : w.heap.size ≤ mf := HV3.out mf rfl
          have HM4 : Hid (MapR Tryz.prog 9 DPair.key flR w3 (fun c => M c ∨ c = mf) mf D.safe) := Lib.hid (by
            rcases HF3.out with ⟨h, _⟩ | ⟨m, h, _, hm⟩
            · cases h
            · obtain rfl : mf = m := by injection h with h; injection h
              refine MapR.keep keep_flR hm rfl (fun c hc hn => ⟨rfl, fun h => hn (h.imp id (fun e => by rw [e]))⟩))
          obtain ⟨w4, rfl⟩ : ∃ w4, w4 = w3 := ⟨_, rfl⟩
          have HS4 := HS3
          have c24 := c23
          clear c0r HF3 HV3 HST c23
          go_wp2
          go_loopw [1, 46] (fun kv iv w' => ∃ (k kk : Nat) (fs : List DPair), iv = .int .i64 (k : Int) ∧ k ≤ D.queue.length ∧ kv = .int .i64 (kk : Int) ∧ kk ≤ A ∧ Hid (MapR Tryz.prog 9 DPair.key flR w' (fun c => M c ∨ c = mf) mf fs) ∧ Hid (replay D.queue K D.safe = replay (D.queue.drop k) kk fs) ∧ Hid (kk = 0 ∨ fitsQ (D.queue.drop k) fs) ∧ Hid (fs.length ≤ D.safe.length + k) ∧ Hid (Turn (fun c => c = mf) w4 w')) (fun _ iv _ => D.queue.length - (Go.RowKit.intOf iv).toNat)
          case atStart => exact ⟨0, K, D.safe, rfl, Nat.zero_le _, rfl, hKle, HM4, Lib.hid rfl, Lib.hid (.inr hwf.fit), Lib.hid (Nat.le_refl _), Lib.hid (Turn.refl _ _)⟩
          case round =>
            obtain ⟨k, kk, fs, rfl, hkq, rfl, hkk, HM5, HRP, HFT, HLN, HT5⟩ := hrel
            have hbr : b < wr.heap.size := by have := HT5.out.size; have := HS4.out.size; omega
            have s5 : ∀ j, wr.cell? ⟨b, j, none⟩ = w.cell? ⟨b, j, none⟩ := fun j => (HT5.out.cell (by have := HS4.out.size; omega) (by omega) j).trans (HS4.out.cell hblt j)
            have t5 : ∀ j, wr.frozen? ⟨b, j, none⟩ = false := fun j => (HR.out.kept (w' := wr) ((HT5.out.block b (by have := HS4.out.size; omega) (by omega)).trans (HS4.out.heap hblt))).frozen j
            by_cases hlt : k < D.queue.length
            · have hd : decide ((k : Int) < (D.queue.length : Int)) = true := decide_eq_true (by omega)
              obtain ⟨b1, o1, u1, rfl, hb1, hMb1, hu1, hc1⟩ := Ty.slice_at1 rfl HQ.out hlt
              have hur : tDeed.rep wr (fun c => M c ∨ c = mf) [u1] D.queue[k] := tDeed.keep hu1 (fun c hc hn => ⟨(HT5.out.block c (by have := HS4.out.size; omega) (by omega)).trans (HS4.out.heap hc), fun h => h.elim hn (fun e => by omega)⟩)
              obtain ⟨t, v, fu, fd, rfl, hmu, hmd, hna, hcf, hcd, hUN, hDO⟩ := deed_calls hu1
              have hc1' : wr.cell? ⟨b1, o1 + k, none⟩ = some (.iface t v) := (HT5.out.cell (by have := HS4.out.size; omega) (by omega) _).trans ((HS4.out.cell hb1 _).trans hc1)
              have hdr : D.queue.drop k = D.queue[k] :: D.queue.drop (k + 1) := List.drop_eq_getElem_cons hlt
              rw [hdr] at HRP HFT
              have HLT : Hid (k + 1 ≤ D.queue.length) := Lib.hid hlt
              have hup := D.queue[k].units_pos
              have hu37 := fitsQ_units hwf.fit D.queue[k] (List.getElem_mem hlt)
              have HUN : Hid (∀ W : World, Step wr W → Calls Tryz.prog fu #[v] W fun y w' => y = .returned (.int .i64 (D.queue[k].units : Nat)) ∧ Step W w') := Lib.hid (fun W hW => hUN W _ (Ty.step _ hur hW))
              have HDO : Hid (∀ (W : World) (n : Nat), Step wr W → 1 ≤ n → n ≤ D.queue[k].units → D.queue[k].fits fs → Calls Tryz.prog fd #[v, .map (some mf), .int .i64 (n : Int)] W fun y w' => y = .returned (.tuple #[]) ∧ MapR Tryz.prog 9 DPair.key flR w' (fun c => M c ∨ c = mf) mf (D.queue[k].doB n fs) ∧ Turn (· = mf) W w') := Lib.hid (fun W n hW h1 h2 h3 => hDO W _ mf n fs (Ty.step _ hur hW) (HM5.out.step keep_flR hW) (.inr rfl) (fun c hc => by
                have hz := hW.size
                have hz5 := HT5.out.size
                have hz4 := HS4.out.size
                rcases hc with hc | hc
                · have := hold c hc; omega
                · have := HM4.out.lt; omega) h1 h2 h3 (by have := HLN.out; simp [maxLen]; omega))
              clear hUN hDO hur hu1 hc1 hdr
              generalize D.queue[k] = X at *
              generalize hre : D.queue.drop (k + 1) = rest at *
              have HRE := Lib.hid hre
              clear hre
              by_cases hk0 : kk = 0
              · subst hk0
                have HEND : Hid (crashF D keep = fs) := Lib.hid (by rw [HCF.out, HRP.out, replay, if_pos (by simp)])
                have hle : ((0 : Nat) : Int) ≤ (X.units : Int) := by omega
                have hle2 : ¬ ((X.units : Int) ≤ 0) := by omega
                generalize hUe : X.units = U at *
                clear HDO HM4
                go_upto_region 20 with (refine (HUN.out _ stp).mono ?_; rintro y w2 ⟨rfl, hS2⟩; have HS2 : Hid (Step wr w2) := Lib.hid (Step.trans stp hS2); clear hS2)
                have HM52 : Hid (MapR Tryz.prog 9 DPair.key flR w2 (fun c => M c ∨ c = mf) mf fs) := Lib.hid (HM5.out.step keep_flR HS2.out)
                have HT52 : Hid (Turn (fun c => c = mf) w4 w2) := Lib.hid (HT5.out.then HS2.out)
                have hbr2 : b < w2.heap.size := by have := HS2.out.size; omega
                clear s5 t5 HQ c2 c24 HRP HFT
                go_upto_region 21 with (go_at_call 65; refine (mClone_ (.inr ⟨mf, rfl, .inr rfl, HM52.out.step keep_flR stp⟩ : FilesAt _ (fun c => M c ∨ c = mf) (.map (some mf)) fs)).mono ?_; rintro e w6 ⟨v6, rfl, hF6, hS6, hv6, hv7, -⟩; have HF6 := Lib.hid hF6; have HS6 : Hid (Step w2 w6) := Lib.hid (Step.trans stp hS6); have HV6 : Hid (∀ m, v6 = some m → w2.heap.size ≤ m ∧ m < w6.heap.size) := Lib.hid (fun m hm => ⟨by have := hv6 m hm; have := Step.size (show Step w2 _ from by (repeat (first | exact Step.refl _ | refine Step.alloc ?_ _ | refine Step.drew ?_ | refine Step.drewN ?_ _ | refine Step.setCell ?_ (by first | exact Nat.le_refl _ | assumption | omega | (simp; done) | (simp; omega)) _ | assumption | refine Step.trans ?_ (by assumption : Step _ _)))); omega, hv7 m hm⟩); have hC6 : DrAt w6 b (.map sf) (.map sn) (.slice _ D.queue.length qc) D.room D.armed D.left D.dead := HR.out.kept ((HS6.out.heap hbr2).trans ((HT52.out.block b (by have := HS4.out.size; omega) (by omega)).trans (HS4.out.heap hblt))); have k0 : w6.cell? ⟨b, 0, none⟩ = some (.map sf) := hC6.cell 0; have k1 : w6.cell? ⟨b, 1, none⟩ = some (.map sn) := hC6.cell 1; have k2 : w6.cell? ⟨b, 2, none⟩ = some (.slice _ D.queue.length qc) := hC6.cell 2; have k3 : ∀ j, w6.frozen? ⟨b, j, none⟩ = false := fun j => hC6.frozen j; have HC6 := Lib.hid hC6; clear hF6 hS6 hv6 hv7 hC6)
                refine wp_code (fun wx => DrAt wx b (.map (some mf)) (.map v6) (.slice none 0 0) D.room D.armed D.left D.dead ∧ Turn (fun c => c = b) w6 wx) ⟨CellsAt.set (CellsAt.set (CellsAt.set HC6.out 0 _) 1 _) 2 _, (((Turn.refl (fun c => c = b) w6).setCell (p := ⟨b, 0, none⟩) (fun _ => rfl) _).setCell (p := ⟨b, 1, none⟩) (fun _ => rfl) _).setCell (p := ⟨b, 2, none⟩) (fun _ => rfl) _⟩ ?_
                clear k0 k1 k2 k3 HC6
                rintro w7 ⟨hC7, hT7⟩
                have k4 : w7.cell? ⟨b, 4, none⟩ = some (.bool D.armed) := hC7.cell 4
                have k5 : w7.cell? ⟨b, 5, none⟩ = some (.int .i64 D.left) := hC7.cell 5
                have k6 : w7.cell? ⟨b, 6, none⟩ = some (.bool D.dead) := hC7.cell 6
                have k7 : ∀ j, w7.frozen? ⟨b, j, none⟩ = false := fun j => hC7.frozen j
                have HC7 := Lib.hid hC7
                have HT7 := Lib.hid hT7
                clear hC7 hT7
                go_wp2
                have hT8 := ((HT7.out.setCell (p := ⟨b, 6, none⟩) (fun _ => rfl) (.bool false)).setCell (p := ⟨b, 4, none⟩) (fun _ => rfl) (.bool false)).setCell (p := ⟨b, 5, none⟩) (fun _ => rfl) (.int .i64 0)
                refine bodyPost_end (results_none rfl _ _ _) rfl ⟨rfl, crash_end ho hold hmf HS4.out HT52.out HM52.out HS6.out HF6.out HV6.out hT8 (CellsAt.set (CellsAt.set (CellsAt.set HC7.out 6 (.bool false)) 4 (.bool false)) 5 (.int .i64 0)) HEND.out (by have := HLN.out; omega)⟩

              · have hk0' : ((kk : Int) == 0) = false := by rw [beq_eq_false_iff_ne]; omega
                have hfit : X.fits fs := (HFT.out.resolve_left hk0).1
                have hfit2 : fitsQ rest (X.doB X.units fs) := (HFT.out.resolve_left hk0).2
                by_cases hle : kk ≤ X.units
                · have hRP2 : Hid (replay D.queue K D.safe = replay rest 0 (X.doB kk fs)) := Lib.hid (by rw [HRP.out, replay, Nat.min_eq_left hle, if_neg hk0, Nat.sub_self])
                  have hln2 := doB_len X kk fs
                  obtain ⟨z0, hz0⟩ : ∃ z0, z0 = 0 := ⟨_, rfl⟩
                  have hFT2 : Hid (z0 = 0 ∨ fitsQ rest (X.doB kk fs)) := Lib.hid (.inl hz0)
                  rw [← hz0] at hRP2
                  have HDX : Hid (∀ W : World, Step wr W → Calls Tryz.prog fd #[v, .map (some mf), .int .i64 ((kk : Nat) : Int)] W fun y w' => y = .returned (.tuple #[]) ∧ MapR Tryz.prog 9 DPair.key flR w' (fun c => M c ∨ c = mf) mf (X.doB kk fs) ∧ Turn (· = mf) W w') := Lib.hid (fun W hW => HDO.out W kk hW (by omega) (by omega) hfit)
                  generalize hUe : X.units = U at *
                  (try subst hn1)
                  clear HDO HM4 HFT
                  go_wp2_with (first
                    | (refine (HUN.out _ stp).mono ?_; rintro y w2 ⟨rfl, hS2⟩; have HS2 : Hid (Step wr w2) := Lib.hid (Step.trans stp hS2); clear hS2)
                    | (refine (HDX.out _ (HS2.out.trans stp)).mono ?_; rintro y w3 ⟨rfl, hM3, hT3⟩; have HM3 := Lib.hid hM3; have HT3 : Hid (Turn (fun c => c = mf) w4 w3) := Lib.hid ((HT5.out.then (HS2.out.trans stp)).trans hT3); clear hM3 hT3))
                  exact ⟨⟨k + 1, z0, X.doB kk fs, by go_num, HLT.out, by first | rfl | (congr 1; omega), by omega, HM3, Lib.hid (by rw [HRE.out]; exact hRP2.out), Lib.hid (by rw [HRE.out]; exact hFT2.out), Lib.hid (by have := HLN.out; omega), HT3⟩, by simp [Go.RowKit.intOf]; omega⟩

                · have hRP2 : Hid (replay D.queue K D.safe = replay rest (kk - X.units) (X.doB X.units fs)) := Lib.hid (by rw [HRP.out, replay, Nat.min_eq_right (by omega), if_neg (by omega)])
                  have hln2 := doB_len X X.units fs
                  obtain ⟨n1, hn1⟩ : ∃ n1, n1 = X.units := ⟨_, rfl⟩
                  rw [← hn1] at hRP2 hln2 hfit2
                  obtain ⟨z0, hz0⟩ : ∃ z0, z0 = kk - n1 := ⟨_, rfl⟩
                  rw [← hz0] at hRP2
                  have hFT2 : Hid (z0 = 0 ∨ fitsQ rest (X.doB n1 fs)) := Lib.hid (.inr hfit2)
                  have HDX : Hid (∀ W : World, Step wr W → Calls Tryz.prog fd #[v, .map (some mf), .int .i64 ((n1 : Nat) : Int)] W fun y w' => y = .returned (.tuple #[]) ∧ MapR Tryz.prog 9 DPair.key flR w' (fun c => M c ∨ c = mf) mf (X.doB n1 fs) ∧ Turn (· = mf) W w') := Lib.hid (fun W hW => HDO.out W n1 hW (by omega) (by omega) hfit)
                  generalize hUe : X.units = U at *
                  (try subst hn1)
                  clear HDO HM4 HFT
                  go_wp2_with (first
                    | (refine (HUN.out _ stp).mono ?_; rintro y w2 ⟨rfl, hS2⟩; have HS2 : Hid (Step wr w2) := Lib.hid (Step.trans stp hS2); clear hS2)
                    | (refine (HDX.out _ (HS2.out.trans stp)).mono ?_; rintro y w3 ⟨rfl, hM3, hT3⟩; have HM3 := Lib.hid hM3; have HT3 : Hid (Turn (fun c => c = mf) w4 w3) := Lib.hid ((HT5.out.then (HS2.out.trans stp)).trans hT3); clear hM3 hT3))
                  exact ⟨⟨k + 1, z0, X.doB n1 fs, by go_num, HLT.out, by first | rfl | (congr 1; omega), by omega, HM3, Lib.hid (by rw [HRE.out]; exact hRP2.out), Lib.hid (by rw [HRE.out]; exact hFT2.out), Lib.hid (by have := HLN.out; omega), HT3⟩, by simp [Go.RowKit.intOf]; omega⟩

            · have hd : decide ((k : Int) < (D.queue.length : Int)) = false := decide_eq_false (by omega)
              have hke : D.queue.drop k = [] := List.drop_of_length_le (by omega)
              have HEND : Hid (crashF D keep = fs) := Lib.hid (by rw [HCF.out, HRP.out, hke]; rfl)
              clear s5 t5 HQ c2 c24 HRP HFT
              go_upto_region 21 with (go_at_call 65; refine (mClone_ (.inr ⟨mf, rfl, .inr rfl, HM5.out.step keep_flR stp⟩ : FilesAt _ (fun c => M c ∨ c = mf) (.map (some mf)) fs)).mono ?_; rintro e w6 ⟨v6, rfl, hF6, hS6, hv6, hv7, -⟩; have HF6 := Lib.hid hF6; have HS6 : Hid (Step wr w6) := Lib.hid (Step.trans stp hS6); have HV6 : Hid (∀ m, v6 = some m → wr.heap.size ≤ m ∧ m < w6.heap.size) := Lib.hid (fun m hm => ⟨by have := hv6 m hm; have := Step.size (show Step wr _ from by (repeat (first | exact Step.refl _ | refine Step.alloc ?_ _ | refine Step.drew ?_ | refine Step.drewN ?_ _ | refine Step.setCell ?_ (by first | exact Nat.le_refl _ | assumption | omega | (simp; done) | (simp; omega)) _ | assumption | refine Step.trans ?_ (by assumption : Step _ _)))); omega, hv7 m hm⟩); have hC6 : DrAt w6 b (.map sf) (.map sn) (.slice _ D.queue.length qc) D.room D.armed D.left D.dead := HR.out.kept ((HS6.out.heap hbr).trans ((HT5.out.block b (by have := HS4.out.size; omega) (by omega)).trans (HS4.out.heap hblt))); have k0 : w6.cell? ⟨b, 0, none⟩ = some (.map sf) := hC6.cell 0; have k1 : w6.cell? ⟨b, 1, none⟩ = some (.map sn) := hC6.cell 1; have k2 : w6.cell? ⟨b, 2, none⟩ = some (.slice _ D.queue.length qc) := hC6.cell 2; have k3 : ∀ j, w6.frozen? ⟨b, j, none⟩ = false := fun j => hC6.frozen j; have HC6 := Lib.hid hC6; clear hF6 hS6 hv6 hv7 hC6)
              refine wp_code (fun wx => DrAt wx b (.map (some mf)) (.map v6) (.slice none 0 0) D.room D.armed D.left D.dead ∧ Turn (fun c => c = b) w6 wx) ⟨CellsAt.set (CellsAt.set (CellsAt.set HC6.out 0 _) 1 _) 2 _, (((Turn.refl (fun c => c = b) w6).setCell (p := ⟨b, 0, none⟩) (fun _ => rfl) _).setCell (p := ⟨b, 1, none⟩) (fun _ => rfl) _).setCell (p := ⟨b, 2, none⟩) (fun _ => rfl) _⟩ ?_
              clear k0 k1 k2 k3 HC6
              rintro w7 ⟨hC7, hT7⟩
              have k4 : w7.cell? ⟨b, 4, none⟩ = some (.bool D.armed) := hC7.cell 4
              have k5 : w7.cell? ⟨b, 5, none⟩ = some (.int .i64 D.left) := hC7.cell 5
              have k6 : w7.cell? ⟨b, 6, none⟩ = some (.bool D.dead) := hC7.cell 6
              have k7 : ∀ j, w7.frozen? ⟨b, j, none⟩ = false := fun j => hC7.frozen j
              have HC7 := Lib.hid hC7
              have HT7 := Lib.hid hT7
              clear hC7 hT7
              go_wp2
              have hT8 := ((HT7.out.setCell (p := ⟨b, 6, none⟩) (fun _ => rfl) (.bool false)).setCell (p := ⟨b, 4, none⟩) (fun _ => rfl) (.bool false)).setCell (p := ⟨b, 5, none⟩) (fun _ => rfl) (.int .i64 0)
              refine bodyPost_end (results_none rfl _ _ _) rfl ⟨rfl, crash_end ho hold hmf HS4.out HT5.out HM5.out HS6.out HF6.out HV6.out hT8 (CellsAt.set (CellsAt.set (CellsAt.set HC7.out 6 (.bool false)) 4 (.bool false)) 5 (.int .i64 0)) HEND.out (by have := HLN.out; omega)⟩



      · rw [if_neg hs0] at htm
        have hd7 : decide ((K : Int) - ((A : Int) + 1) < 0) = true := decide_eq_true (by omega)
        have hsum : (K : Int) - ((A : Int) + 1) + ((A : Int) + 1) = (K : Int) := by omega
        go_upto_region 9 with fail
        have c0r : wr.cell? ⟨b, 0, none⟩ = some (.map sf) := (HST.out.cell hblt 0).trans (HR.out.cell 0)
        go_upto_region 10 with (go_at_call 65; refine (mClone_ (FilesAt.step HS.out (HST.out.trans stp))).mono ?_; rintro e w3 ⟨v3, rfl, hF3, hS3, hv3, hv4, -⟩; have HF3 := Lib.hid hF3; have HS3 : Hid (Step w w3) := Lib.hid (HST.out.trans (Step.trans stp hS3)); have HV3 : Hid (∀ m, v3 = some m → w.heap.size ≤ m) := Lib.hid (fun m hm => by have := hv3 m hm; have := HST.out.size; have := Step.size (show Step wr _ from by (repeat (first | exact Step.refl _ | refine Step.alloc ?_ _ | refine Step.drew ?_ | refine Step.drewN ?_ _ | refine Step.setCell ?_ (by first | exact Nat.le_refl _ | assumption | omega | (simp; done) | (simp; omega)) _ | assumption | refine Step.trans ?_ (by assumption : Step _ _)))); omega); clear hF3 hS3 hv3 hv4)
        have c23 : w3.cell? ⟨b, 2, none⟩ = some (.slice qa D.queue.length qc) := (HS3.out.cell hblt 2).trans c2
        rcases v3 with _ | mf
        · have hsafe : D.safe = [] := by
            rcases HF3.out with ⟨_, h⟩ | ⟨m, h, _⟩
            · exact h
            · cases h
          have hnil : ∀ W : World, (binOp .eql 83 (.map none) (.map none)).run Tryz.prog W = .ok (.bool true) W := fun W => eql_map_nil W _ _ _ none Tryz.underlying83
          have hmm := @run_makeMap Tryz.prog
          go_upto_region 12 with fail
          obtain ⟨mf, hmfe⟩ : ∃ mf, mf = w3.heap.size := ⟨_, rfl⟩
          rw [← hmfe]
          refine wp_code (fun wx => Step w wx ∧ MapR Tryz.prog 9 DPair.key flR wx (fun c => M c ∨ c = mf) mf D.safe) ⟨HS3.out.trans stp, by rw [hsafe]; exact MapR.empty (by rw [hmfe]; exact heap_alloc_new _ _)⟩ ?_
          rintro w4 ⟨hS4, hM4⟩
          have c24 : w4.cell? ⟨b, 2, none⟩ = some (.slice qa D.queue.length qc) := (hS4.cell hblt 2).trans c2
          have HS4 := Lib.hid hS4
          have HM4 := Lib.hid hM4
          have hmf : w.heap.size ≤ mf := by rw [hmfe]; exact HS3.out.size
          clear hS4 hM4 hmfe c23 HF3 HV3 HS3 hsafe HST
          go_wp2
          go_loopw [1, 46] (fun kv iv w' => ∃ (k kk : Nat) (fs : List DPair), iv = .int .i64 (k : Int) ∧ k ≤ D.queue.length ∧ kv = .int .i64 (kk : Int) ∧ kk ≤ A ∧ Hid (MapR Tryz.prog 9 DPair.key flR w' (fun c => M c ∨ c = mf) mf fs) ∧ Hid (replay D.queue K D.safe = replay (D.queue.drop k) kk fs) ∧ Hid (kk = 0 ∨ fitsQ (D.queue.drop k) fs) ∧ Hid (fs.length ≤ D.safe.length + k) ∧ Hid (Turn (fun c => c = mf) w4 w')) (fun _ iv _ => D.queue.length - (Go.RowKit.intOf iv).toNat)
          case atStart => exact ⟨0, K, D.safe, rfl, Nat.zero_le _, rfl, hKle, HM4, Lib.hid rfl, Lib.hid (.inr hwf.fit), Lib.hid (Nat.le_refl _), Lib.hid (Turn.refl _ _)⟩
          case round =>
            obtain ⟨k, kk, fs, rfl, hkq, rfl, hkk, HM5, HRP, HFT, HLN, HT5⟩ := hrel
            have hbr : b < wr.heap.size := by have := HT5.out.size; have := HS4.out.size; omega
            have s5 : ∀ j, wr.cell? ⟨b, j, none⟩ = w.cell? ⟨b, j, none⟩ := fun j => (HT5.out.cell (by have := HS4.out.size; omega) (by omega) j).trans (HS4.out.cell hblt j)
            have t5 : ∀ j, wr.frozen? ⟨b, j, none⟩ = false := fun j => (HR.out.kept (w' := wr) ((HT5.out.block b (by have := HS4.out.size; omega) (by omega)).trans (HS4.out.heap hblt))).frozen j
            by_cases hlt : k < D.queue.length
            · have hd : decide ((k : Int) < (D.queue.length : Int)) = true := decide_eq_true (by omega)
              obtain ⟨b1, o1, u1, rfl, hb1, hMb1, hu1, hc1⟩ := Ty.slice_at1 rfl HQ.out hlt
              have hur : tDeed.rep wr (fun c => M c ∨ c = mf) [u1] D.queue[k] := tDeed.keep hu1 (fun c hc hn => ⟨(HT5.out.block c (by have := HS4.out.size; omega) (by omega)).trans (HS4.out.heap hc), fun h => h.elim hn (fun e => by omega)⟩)
              obtain ⟨t, v, fu, fd, rfl, hmu, hmd, hna, hcf, hcd, hUN, hDO⟩ := deed_calls hu1
              have hc1' : wr.cell? ⟨b1, o1 + k, none⟩ = some (.iface t v) := (HT5.out.cell (by have := HS4.out.size; omega) (by omega) _).trans ((HS4.out.cell hb1 _).trans hc1)
              have hdr : D.queue.drop k = D.queue[k] :: D.queue.drop (k + 1) := List.drop_eq_getElem_cons hlt
              rw [hdr] at HRP HFT
              have HLT : Hid (k + 1 ≤ D.queue.length) := Lib.hid hlt
              have hup := D.queue[k].units_pos
              have hu37 := fitsQ_units hwf.fit D.queue[k] (List.getElem_mem hlt)
              have HUN : Hid (∀ W : World, Step wr W → Calls Tryz.prog fu #[v] W fun y w' => y = .returned (.int .i64 (D.queue[k].units : Nat)) ∧ Step W w') := Lib.hid (fun W hW => hUN W _ (Ty.step _ hur hW))
              have HDO : Hid (∀ (W : World) (n : Nat), Step wr W → 1 ≤ n → n ≤ D.queue[k].units → D.queue[k].fits fs → Calls Tryz.prog fd #[v, .map (some mf), .int .i64 (n : Int)] W fun y w' => y = .returned (.tuple #[]) ∧ MapR Tryz.prog 9 DPair.key flR w' (fun c => M c ∨ c = mf) mf (D.queue[k].doB n fs) ∧ Turn (· = mf) W w') := Lib.hid (fun W n hW h1 h2 h3 => hDO W _ mf n fs (Ty.step _ hur hW) (HM5.out.step keep_flR hW) (.inr rfl) (fun c hc => by
                have hz := hW.size
                have hz5 := HT5.out.size
                have hz4 := HS4.out.size
                rcases hc with hc | hc
                · have := hold c hc; omega
                · have := HM4.out.lt; omega) h1 h2 h3 (by have := HLN.out; simp [maxLen]; omega))
              clear hUN hDO hur hu1 hc1 hdr
              generalize D.queue[k] = X at *
              generalize hre : D.queue.drop (k + 1) = rest at *
              have HRE := Lib.hid hre
              clear hre
              by_cases hk0 : kk = 0
              · subst hk0
                have HEND : Hid (crashF D keep = fs) := Lib.hid (by rw [HCF.out, HRP.out, replay, if_pos (by simp)])
                have hle : ((0 : Nat) : Int) ≤ (X.units : Int) := by omega
                have hle2 : ¬ ((X.units : Int) ≤ 0) := by omega
                generalize hUe : X.units = U at *
                clear HDO HM4
                go_upto_region 20 with (refine (HUN.out _ stp).mono ?_; rintro y w2 ⟨rfl, hS2⟩; have HS2 : Hid (Step wr w2) := Lib.hid (Step.trans stp hS2); clear hS2)
                have HM52 : Hid (MapR Tryz.prog 9 DPair.key flR w2 (fun c => M c ∨ c = mf) mf fs) := Lib.hid (HM5.out.step keep_flR HS2.out)
                have HT52 : Hid (Turn (fun c => c = mf) w4 w2) := Lib.hid (HT5.out.then HS2.out)
                have hbr2 : b < w2.heap.size := by have := HS2.out.size; omega
                clear s5 t5 HQ c2 c24 HRP HFT
                go_upto_region 21 with (go_at_call 65; refine (mClone_ (.inr ⟨mf, rfl, .inr rfl, HM52.out.step keep_flR stp⟩ : FilesAt _ (fun c => M c ∨ c = mf) (.map (some mf)) fs)).mono ?_; rintro e w6 ⟨v6, rfl, hF6, hS6, hv6, hv7, -⟩; have HF6 := Lib.hid hF6; have HS6 : Hid (Step w2 w6) := Lib.hid (Step.trans stp hS6); have HV6 : Hid (∀ m, v6 = some m → w2.heap.size ≤ m ∧ m < w6.heap.size) := Lib.hid (fun m hm => ⟨by have := hv6 m hm; have := Step.size (show Step w2 _ from by (repeat (first | exact Step.refl _ | refine Step.alloc ?_ _ | refine Step.drew ?_ | refine Step.drewN ?_ _ | refine Step.setCell ?_ (by first | exact Nat.le_refl _ | assumption | omega | (simp; done) | (simp; omega)) _ | assumption | refine Step.trans ?_ (by assumption : Step _ _)))); omega, hv7 m hm⟩); have hC6 : DrAt w6 b (.map sf) (.map sn) (.slice _ D.queue.length qc) D.room D.armed D.left D.dead := HR.out.kept ((HS6.out.heap hbr2).trans ((HT52.out.block b (by have := HS4.out.size; omega) (by omega)).trans (HS4.out.heap hblt))); have k0 : w6.cell? ⟨b, 0, none⟩ = some (.map sf) := hC6.cell 0; have k1 : w6.cell? ⟨b, 1, none⟩ = some (.map sn) := hC6.cell 1; have k2 : w6.cell? ⟨b, 2, none⟩ = some (.slice _ D.queue.length qc) := hC6.cell 2; have k3 : ∀ j, w6.frozen? ⟨b, j, none⟩ = false := fun j => hC6.frozen j; have HC6 := Lib.hid hC6; clear hF6 hS6 hv6 hv7 hC6)
                refine wp_code (fun wx => DrAt wx b (.map (some mf)) (.map v6) (.slice none 0 0) D.room D.armed D.left D.dead ∧ Turn (fun c => c = b) w6 wx) ⟨CellsAt.set (CellsAt.set (CellsAt.set HC6.out 0 _) 1 _) 2 _, (((Turn.refl (fun c => c = b) w6).setCell (p := ⟨b, 0, none⟩) (fun _ => rfl) _).setCell (p := ⟨b, 1, none⟩) (fun _ => rfl) _).setCell (p := ⟨b, 2, none⟩) (fun _ => rfl) _⟩ ?_
                clear k0 k1 k2 k3 HC6
                rintro w7 ⟨hC7, hT7⟩
                have k4 : w7.cell? ⟨b, 4, none⟩ = some (.bool D.armed) := hC7.cell 4
                have k5 : w7.cell? ⟨b, 5, none⟩ = some (.int .i64 D.left) := hC7.cell 5
                have k6 : w7.cell? ⟨b, 6, none⟩ = some (.bool D.dead) := hC7.cell 6
                have k7 : ∀ j, w7.frozen? ⟨b, j, none⟩ = false := fun j => hC7.frozen j
                have HC7 := Lib.hid hC7
                have HT7 := Lib.hid hT7
                clear hC7 hT7
                go_wp2
                have hT8 := ((HT7.out.setCell (p := ⟨b, 6, none⟩) (fun _ => rfl) (.bool false)).setCell (p := ⟨b, 4, none⟩) (fun _ => rfl) (.bool false)).setCell (p := ⟨b, 5, none⟩) (fun _ => rfl) (.int .i64 0)
                refine bodyPost_end (results_none rfl _ _ _) rfl ⟨rfl, crash_end ho hold hmf HS4.out HT52.out HM52.out HS6.out HF6.out HV6.out hT8 (CellsAt.set (CellsAt.set (CellsAt.set HC7.out 6 (.bool false)) 4 (.bool false)) 5 (.int .i64 0)) HEND.out (by have := HLN.out; omega)⟩

              · have hk0' : ((kk : Int) == 0) = false := by rw [beq_eq_false_iff_ne]; omega
                have hfit : X.fits fs := (HFT.out.resolve_left hk0).1
                have hfit2 : fitsQ rest (X.doB X.units fs) := (HFT.out.resolve_left hk0).2
                by_cases hle : kk ≤ X.units
                · have hRP2 : Hid (replay D.queue K D.safe = replay rest 0 (X.doB kk fs)) := Lib.hid (by rw [HRP.out, replay, Nat.min_eq_left hle, if_neg hk0, Nat.sub_self])
                  have hln2 := doB_len X kk fs
                  obtain ⟨z0, hz0⟩ : ∃ z0, z0 = 0 := ⟨_, rfl⟩
                  have hFT2 : Hid (z0 = 0 ∨ fitsQ rest (X.doB kk fs)) := Lib.hid (.inl hz0)
                  rw [← hz0] at hRP2
                  have HDX : Hid (∀ W : World, Step wr W → Calls Tryz.prog fd #[v, .map (some mf), .int .i64 ((kk : Nat) : Int)] W fun y w' => y = .returned (.tuple #[]) ∧ MapR Tryz.prog 9 DPair.key flR w' (fun c => M c ∨ c = mf) mf (X.doB kk fs) ∧ Turn (· = mf) W w') := Lib.hid (fun W hW => HDO.out W kk hW (by omega) (by omega) hfit)
                  generalize hUe : X.units = U at *
                  (try subst hn1)
                  clear HDO HM4 HFT
                  go_wp2_with (first
                    | (refine (HUN.out _ stp).mono ?_; rintro y w2 ⟨rfl, hS2⟩; have HS2 : Hid (Step wr w2) := Lib.hid (Step.trans stp hS2); clear hS2)
                    | (refine (HDX.out _ (HS2.out.trans stp)).mono ?_; rintro y w3 ⟨rfl, hM3, hT3⟩; have HM3 := Lib.hid hM3; have HT3 : Hid (Turn (fun c => c = mf) w4 w3) := Lib.hid ((HT5.out.then (HS2.out.trans stp)).trans hT3); clear hM3 hT3))
                  exact ⟨⟨k + 1, z0, X.doB kk fs, by go_num, HLT.out, by first | rfl | (congr 1; omega), by omega, HM3, Lib.hid (by rw [HRE.out]; exact hRP2.out), Lib.hid (by rw [HRE.out]; exact hFT2.out), Lib.hid (by have := HLN.out; omega), HT3⟩, by simp [Go.RowKit.intOf]; omega⟩

                · have hRP2 : Hid (replay D.queue K D.safe = replay rest (kk - X.units) (X.doB X.units fs)) := Lib.hid (by rw [HRP.out, replay, Nat.min_eq_right (by omega), if_neg (by omega)])
                  have hln2 := doB_len X X.units fs
                  obtain ⟨n1, hn1⟩ : ∃ n1, n1 = X.units := ⟨_, rfl⟩
                  rw [← hn1] at hRP2 hln2 hfit2
                  obtain ⟨z0, hz0⟩ : ∃ z0, z0 = kk - n1 := ⟨_, rfl⟩
                  rw [← hz0] at hRP2
                  have hFT2 : Hid (z0 = 0 ∨ fitsQ rest (X.doB n1 fs)) := Lib.hid (.inr hfit2)
                  have HDX : Hid (∀ W : World, Step wr W → Calls Tryz.prog fd #[v, .map (some mf), .int .i64 ((n1 : Nat) : Int)] W fun y w' => y = .returned (.tuple #[]) ∧ MapR Tryz.prog 9 DPair.key flR w' (fun c => M c ∨ c = mf) mf (X.doB n1 fs) ∧ Turn (· = mf) W w') := Lib.hid (fun W hW => HDO.out W n1 hW (by omega) (by omega) hfit)
                  generalize hUe : X.units = U at *
                  (try subst hn1)
                  clear HDO HM4 HFT
                  go_wp2_with (first
                    | (refine (HUN.out _ stp).mono ?_; rintro y w2 ⟨rfl, hS2⟩; have HS2 : Hid (Step wr w2) := Lib.hid (Step.trans stp hS2); clear hS2)
                    | (refine (HDX.out _ (HS2.out.trans stp)).mono ?_; rintro y w3 ⟨rfl, hM3, hT3⟩; have HM3 := Lib.hid hM3; have HT3 : Hid (Turn (fun c => c = mf) w4 w3) := Lib.hid ((HT5.out.then (HS2.out.trans stp)).trans hT3); clear hM3 hT3))
                  exact ⟨⟨k + 1, z0, X.doB n1 fs, by go_num, HLT.out, by first | rfl | (congr 1; omega), by omega, HM3, Lib.hid (by rw [HRE.out]; exact hRP2.out), Lib.hid (by rw [HRE.out]; exact hFT2.out), Lib.hid (by have := HLN.out; omega), HT3⟩, by simp [Go.RowKit.intOf]; omega⟩

            · have hd : decide ((k : Int) < (D.queue.length : Int)) = false := decide_eq_false (by omega)
              have hke : D.queue.drop k = [] := List.drop_of_length_le (by omega)
              have HEND : Hid (crashF D keep = fs) := Lib.hid (by rw [HCF.out, HRP.out, hke]; rfl)
              clear s5 t5 HQ c2 c24 HRP HFT
              go_upto_region 21 with (go_at_call 65; refine (mClone_ (.inr ⟨mf, rfl, .inr rfl, HM5.out.step keep_flR stp⟩ : FilesAt _ (fun c => M c ∨ c = mf) (.map (some mf)) fs)).mono ?_; rintro e w6 ⟨v6, rfl, hF6, hS6, hv6, hv7, -⟩; have HF6 := Lib.hid hF6; have HS6 : Hid (Step wr w6) := Lib.hid (Step.trans stp hS6); have HV6 : Hid (∀ m, v6 = some m → wr.heap.size ≤ m ∧ m < w6.heap.size) := Lib.hid (fun m hm => ⟨by have := hv6 m hm; have := Step.size (show Step wr _ from by (repeat (first | exact Step.refl _ | refine Step.alloc ?_ _ | refine Step.drew ?_ | refine Step.drewN ?_ _ | refine Step.setCell ?_ (by first | exact Nat.le_refl _ | assumption | omega | (simp; done) | (simp; omega)) _ | assumption | refine Step.trans ?_ (by assumption : Step _ _)))); omega, hv7 m hm⟩); have hC6 : DrAt w6 b (.map sf) (.map sn) (.slice _ D.queue.length qc) D.room D.armed D.left D.dead := HR.out.kept ((HS6.out.heap hbr).trans ((HT5.out.block b (by have := HS4.out.size; omega) (by omega)).trans (HS4.out.heap hblt))); have k0 : w6.cell? ⟨b, 0, none⟩ = some (.map sf) := hC6.cell 0; have k1 : w6.cell? ⟨b, 1, none⟩ = some (.map sn) := hC6.cell 1; have k2 : w6.cell? ⟨b, 2, none⟩ = some (.slice _ D.queue.length qc) := hC6.cell 2; have k3 : ∀ j, w6.frozen? ⟨b, j, none⟩ = false := fun j => hC6.frozen j; have HC6 := Lib.hid hC6; clear hF6 hS6 hv6 hv7 hC6)
              refine wp_code (fun wx => DrAt wx b (.map (some mf)) (.map v6) (.slice none 0 0) D.room D.armed D.left D.dead ∧ Turn (fun c => c = b) w6 wx) ⟨CellsAt.set (CellsAt.set (CellsAt.set HC6.out 0 _) 1 _) 2 _, (((Turn.refl (fun c => c = b) w6).setCell (p := ⟨b, 0, none⟩) (fun _ => rfl) _).setCell (p := ⟨b, 1, none⟩) (fun _ => rfl) _).setCell (p := ⟨b, 2, none⟩) (fun _ => rfl) _⟩ ?_
              clear k0 k1 k2 k3 HC6
              rintro w7 ⟨hC7, hT7⟩
              have k4 : w7.cell? ⟨b, 4, none⟩ = some (.bool D.armed) := hC7.cell 4
              have k5 : w7.cell? ⟨b, 5, none⟩ = some (.int .i64 D.left) := hC7.cell 5
              have k6 : w7.cell? ⟨b, 6, none⟩ = some (.bool D.dead) := hC7.cell 6
              have k7 : ∀ j, w7.frozen? ⟨b, j, none⟩ = false := fun j => hC7.frozen j
              have HC7 := Lib.hid hC7
              have HT7 := Lib.hid hT7
              clear hC7 hT7
              go_wp2
              have hT8 := ((HT7.out.setCell (p := ⟨b, 6, none⟩) (fun _ => rfl) (.bool false)).setCell (p := ⟨b, 4, none⟩) (fun _ => rfl) (.bool false)).setCell (p := ⟨b, 5, none⟩) (fun _ => rfl) (.int .i64 0)
              refine bodyPost_end (results_none rfl _ _ _) rfl ⟨rfl, crash_end ho hold hmf HS4.out HT5.out HM5.out HS6.out HF6.out HV6.out hT8 (CellsAt.set (CellsAt.set (CellsAt.set HC7.out 6 (.bool false)) 4 (.bool false)) 5 (.int .i64 0)) HEND.out (by have := HLN.out; omega)⟩


        · have hnil : ∀ W : World, (binOp .eql 83 (.map (some mf)) (.map none)).run Tryz.prog W = .ok (.bool false) W := fun W => eql_map_nil W _ _ _ (some mf) Tryz.underlying83
          have hmf : w.heap.size ≤ mf := HV3.out mf rfl
          have HM4 : Hid (MapR Tryz.prog 9 DPair.key flR w3 (fun c => M c ∨ c = mf) mf D.safe) := Lib.hid (by
            rcases HF3.out with ⟨h, _⟩ | ⟨m, h, _, hm⟩
            · cases h
            · obtain rfl : mf = m := by injection h with h; injection h
              refine MapR.keep keep_flR hm rfl (fun c hc hn => ⟨rfl, fun h => hn (h.imp id (fun e => by rw [e]))⟩))
          obtain ⟨w4, rfl⟩ : ∃ w4, w4 = w3 := ⟨_, rfl⟩
          have HS4 := HS3
          have c24 := c23
          clear c0r HF3 HV3 HST c23
          go_wp2
          go_loopw [1, 46] (fun kv iv w' => ∃ (k kk : Nat) (fs : List DPair), iv = .int .i64 (k : Int) ∧ k ≤ D.queue.length ∧ kv = .int .i64 (kk : Int) ∧ kk ≤ A ∧ Hid (MapR Tryz.prog 9 DPair.key flR w' (fun c => M c ∨ c = mf) mf fs) ∧ Hid (replay D.queue K D.safe = replay (D.queue.drop k) kk fs) ∧ Hid (kk = 0 ∨ fitsQ (D.queue.drop k) fs) ∧ Hid (fs.length ≤ D.safe.length + k) ∧ Hid (Turn (fun c => c = mf) w4 w')) (fun _ iv _ => D.queue.length - (Go.RowKit.intOf iv).toNat)
          case atStart => exact ⟨0, K, D.safe, rfl, Nat.zero_le _, rfl, hKle, HM4, Lib.hid rfl, Lib.hid (.inr hwf.fit), Lib.hid (Nat.le_refl _), Lib.hid (Turn.refl _ _)⟩
          case round =>
            obtain ⟨k, kk, fs, rfl, hkq, rfl, hkk, HM5, HRP, HFT, HLN, HT5⟩ := hrel
            have hbr : b < wr.heap.size := by have := HT5.out.size; have := HS4.out.size; omega
            have s5 : ∀ j, wr.cell? ⟨b, j, none⟩ = w.cell? ⟨b, j, none⟩ := fun j => (HT5.out.cell (by have := HS4.out.size; omega) (by omega) j).trans (HS4.out.cell hblt j)
            have t5 : ∀ j, wr.frozen? ⟨b, j, none⟩ = false := fun j => (HR.out.kept (w' := wr) ((HT5.out.block b (by have := HS4.out.size; omega) (by omega)).trans (HS4.out.heap hblt))).frozen j
            by_cases hlt : k < D.queue.length
            · have hd : decide ((k : Int) < (D.queue.length : Int)) = true := decide_eq_true (by omega)
              obtain ⟨b1, o1, u1, rfl, hb1, hMb1, hu1, hc1⟩ := Ty.slice_at1 rfl HQ.out hlt
              have hur : tDeed.rep wr (fun c => M c ∨ c = mf) [u1] D.queue[k] := tDeed.keep hu1 (fun c hc hn => ⟨(HT5.out.block c (by have := HS4.out.size; omega) (by omega)).trans (HS4.out.heap hc), fun h => h.elim hn (fun e => by omega)⟩)
              obtain ⟨t, v, fu, fd, rfl, hmu, hmd, hna, hcf, hcd, hUN, hDO⟩ := deed_calls hu1
              have hc1' : wr.cell? ⟨b1, o1 + k, none⟩ = some (.iface t v) := (HT5.out.cell (by have := HS4.out.size; omega) (by omega) _).trans ((HS4.out.cell hb1 _).trans hc1)
              have hdr : D.queue.drop k = D.queue[k] :: D.queue.drop (k + 1) := List.drop_eq_getElem_cons hlt
              rw [hdr] at HRP HFT
              have HLT : Hid (k + 1 ≤ D.queue.length) := Lib.hid hlt
              have hup := D.queue[k].units_pos
              have hu37 := fitsQ_units hwf.fit D.queue[k] (List.getElem_mem hlt)
              have HUN : Hid (∀ W : World, Step wr W → Calls Tryz.prog fu #[v] W fun y w' => y = .returned (.int .i64 (D.queue[k].units : Nat)) ∧ Step W w') := Lib.hid (fun W hW => hUN W _ (Ty.step _ hur hW))
              have HDO : Hid (∀ (W : World) (n : Nat), Step wr W → 1 ≤ n → n ≤ D.queue[k].units → D.queue[k].fits fs → Calls Tryz.prog fd #[v, .map (some mf), .int .i64 (n : Int)] W fun y w' => y = .returned (.tuple #[]) ∧ MapR Tryz.prog 9 DPair.key flR w' (fun c => M c ∨ c = mf) mf (D.queue[k].doB n fs) ∧ Turn (· = mf) W w') := Lib.hid (fun W n hW h1 h2 h3 => hDO W _ mf n fs (Ty.step _ hur hW) (HM5.out.step keep_flR hW) (.inr rfl) (fun c hc => by
                have hz := hW.size
                have hz5 := HT5.out.size
                have hz4 := HS4.out.size
                rcases hc with hc | hc
                · have := hold c hc; omega
                · have := HM4.out.lt; omega) h1 h2 h3 (by have := HLN.out; simp [maxLen]; omega))
              clear hUN hDO hur hu1 hc1 hdr
              generalize D.queue[k] = X at *
              generalize hre : D.queue.drop (k + 1) = rest at *
              have HRE := Lib.hid hre
              clear hre
              by_cases hk0 : kk = 0
              · subst hk0
                have HEND : Hid (crashF D keep = fs) := Lib.hid (by rw [HCF.out, HRP.out, replay, if_pos (by simp)])
                have hle : ((0 : Nat) : Int) ≤ (X.units : Int) := by omega
                have hle2 : ¬ ((X.units : Int) ≤ 0) := by omega
                generalize hUe : X.units = U at *
                clear HDO HM4
                go_upto_region 20 with (refine (HUN.out _ stp).mono ?_; rintro y w2 ⟨rfl, hS2⟩; have HS2 : Hid (Step wr w2) := Lib.hid (Step.trans stp hS2); clear hS2)
                have HM52 : Hid (MapR Tryz.prog 9 DPair.key flR w2 (fun c => M c ∨ c = mf) mf fs) := Lib.hid (HM5.out.step keep_flR HS2.out)
                have HT52 : Hid (Turn (fun c => c = mf) w4 w2) := Lib.hid (HT5.out.then HS2.out)
                have hbr2 : b < w2.heap.size := by have := HS2.out.size; omega
                clear s5 t5 HQ c2 c24 HRP HFT
                go_upto_region 21 with (go_at_call 65; refine (mClone_ (.inr ⟨mf, rfl, .inr rfl, HM52.out.step keep_flR stp⟩ : FilesAt _ (fun c => M c ∨ c = mf) (.map (some mf)) fs)).mono ?_; rintro e w6 ⟨v6, rfl, hF6, hS6, hv6, hv7, -⟩; have HF6 := Lib.hid hF6; have HS6 : Hid (Step w2 w6) := Lib.hid (Step.trans stp hS6); have HV6 : Hid (∀ m, v6 = some m → w2.heap.size ≤ m ∧ m < w6.heap.size) := Lib.hid (fun m hm => ⟨by have := hv6 m hm; have := Step.size (show Step w2 _ from by (repeat (first | exact Step.refl _ | refine Step.alloc ?_ _ | refine Step.drew ?_ | refine Step.drewN ?_ _ | refine Step.setCell ?_ (by first | exact Nat.le_refl _ | assumption | omega | (simp; done) | (simp; omega)) _ | assumption | refine Step.trans ?_ (by assumption : Step _ _)))); omega, hv7 m hm⟩); have hC6 : DrAt w6 b (.map sf) (.map sn) (.slice _ D.queue.length qc) D.room D.armed D.left D.dead := HR.out.kept ((HS6.out.heap hbr2).trans ((HT52.out.block b (by have := HS4.out.size; omega) (by omega)).trans (HS4.out.heap hblt))); have k0 : w6.cell? ⟨b, 0, none⟩ = some (.map sf) := hC6.cell 0; have k1 : w6.cell? ⟨b, 1, none⟩ = some (.map sn) := hC6.cell 1; have k2 : w6.cell? ⟨b, 2, none⟩ = some (.slice _ D.queue.length qc) := hC6.cell 2; have k3 : ∀ j, w6.frozen? ⟨b, j, none⟩ = false := fun j => hC6.frozen j; have HC6 := Lib.hid hC6; clear hF6 hS6 hv6 hv7 hC6)
                refine wp_code (fun wx => DrAt wx b (.map (some mf)) (.map v6) (.slice none 0 0) D.room D.armed D.left D.dead ∧ Turn (fun c => c = b) w6 wx) ⟨CellsAt.set (CellsAt.set (CellsAt.set HC6.out 0 _) 1 _) 2 _, (((Turn.refl (fun c => c = b) w6).setCell (p := ⟨b, 0, none⟩) (fun _ => rfl) _).setCell (p := ⟨b, 1, none⟩) (fun _ => rfl) _).setCell (p := ⟨b, 2, none⟩) (fun _ => rfl) _⟩ ?_
                clear k0 k1 k2 k3 HC6
                rintro w7 ⟨hC7, hT7⟩
                have k4 : w7.cell? ⟨b, 4, none⟩ = some (.bool D.armed) := hC7.cell 4
                have k5 : w7.cell? ⟨b, 5, none⟩ = some (.int .i64 D.left) := hC7.cell 5
                have k6 : w7.cell? ⟨b, 6, none⟩ = some (.bool D.dead) := hC7.cell 6
                have k7 : ∀ j, w7.frozen? ⟨b, j, none⟩ = false := fun j => hC7.frozen j
                have HC7 := Lib.hid hC7
                have HT7 := Lib.hid hT7
                clear hC7 hT7
                go_wp2
                have hT8 := ((HT7.out.setCell (p := ⟨b, 6, none⟩) (fun _ => rfl) (.bool false)).setCell (p := ⟨b, 4, none⟩) (fun _ => rfl) (.bool false)).setCell (p := ⟨b, 5, none⟩) (fun _ => rfl) (.int .i64 0)
                refine bodyPost_end (results_none rfl _ _ _) rfl ⟨rfl, crash_end ho hold hmf HS4.out HT52.out HM52.out HS6.out HF6.out HV6.out hT8 (CellsAt.set (CellsAt.set (CellsAt.set HC7.out 6 (.bool false)) 4 (.bool false)) 5 (.int .i64 0)) HEND.out (by have := HLN.out; omega)⟩

              · have hk0' : ((kk : Int) == 0) = false := by rw [beq_eq_false_iff_ne]; omega
                have hfit : X.fits fs := (HFT.out.resolve_left hk0).1
                have hfit2 : fitsQ rest (X.doB X.units fs) := (HFT.out.resolve_left hk0).2
                by_cases hle : kk ≤ X.units
                · have hRP2 : Hid (replay D.queue K D.safe = replay rest 0 (X.doB kk fs)) := Lib.hid (by rw [HRP.out, replay, Nat.min_eq_left hle, if_neg hk0, Nat.sub_self])
                  have hln2 := doB_len X kk fs
                  obtain ⟨z0, hz0⟩ : ∃ z0, z0 = 0 := ⟨_, rfl⟩
                  have hFT2 : Hid (z0 = 0 ∨ fitsQ rest (X.doB kk fs)) := Lib.hid (.inl hz0)
                  rw [← hz0] at hRP2
                  have HDX : Hid (∀ W : World, Step wr W → Calls Tryz.prog fd #[v, .map (some mf), .int .i64 ((kk : Nat) : Int)] W fun y w' => y = .returned (.tuple #[]) ∧ MapR Tryz.prog 9 DPair.key flR w' (fun c => M c ∨ c = mf) mf (X.doB kk fs) ∧ Turn (· = mf) W w') := Lib.hid (fun W hW => HDO.out W kk hW (by omega) (by omega) hfit)
                  generalize hUe : X.units = U at *
                  (try subst hn1)
                  clear HDO HM4 HFT
                  go_wp2_with (first
                    | (refine (HUN.out _ stp).mono ?_; rintro y w2 ⟨rfl, hS2⟩; have HS2 : Hid (Step wr w2) := Lib.hid (Step.trans stp hS2); clear hS2)
                    | (refine (HDX.out _ (HS2.out.trans stp)).mono ?_; rintro y w3 ⟨rfl, hM3, hT3⟩; have HM3 := Lib.hid hM3; have HT3 : Hid (Turn (fun c => c = mf) w4 w3) := Lib.hid ((HT5.out.then (HS2.out.trans stp)).trans hT3); clear hM3 hT3))
                  exact ⟨⟨k + 1, z0, X.doB kk fs, by go_num, HLT.out, by first | rfl | (congr 1; omega), by omega, HM3, Lib.hid (by rw [HRE.out]; exact hRP2.out), Lib.hid (by rw [HRE.out]; exact hFT2.out), Lib.hid (by have := HLN.out; omega), HT3⟩, by simp [Go.RowKit.intOf]; omega⟩

                · have hRP2 : Hid (replay D.queue K D.safe = replay rest (kk - X.units) (X.doB X.units fs)) := Lib.hid (by rw [HRP.out, replay, Nat.min_eq_right (by omega), if_neg (by omega)])
                  have hln2 := doB_len X X.units fs
                  obtain ⟨n1, hn1⟩ : ∃ n1, n1 = X.units := ⟨_, rfl⟩
                  rw [← hn1] at hRP2 hln2 hfit2
                  obtain ⟨z0, hz0⟩ : ∃ z0, z0 = kk - n1 := ⟨_, rfl⟩
                  rw [← hz0] at hRP2
                  have hFT2 : Hid (z0 = 0 ∨ fitsQ rest (X.doB n1 fs)) := Lib.hid (.inr hfit2)
                  have HDX : Hid (∀ W : World, Step wr W → Calls Tryz.prog fd #[v, .map (some mf), .int .i64 ((n1 : Nat) : Int)] W fun y w' => y = .returned (.tuple #[]) ∧ MapR Tryz.prog 9 DPair.key flR w' (fun c => M c ∨ c = mf) mf (X.doB n1 fs) ∧ Turn (· = mf) W w') := Lib.hid (fun W hW => HDO.out W n1 hW (by omega) (by omega) hfit)
                  generalize hUe : X.units = U at *
                  (try subst hn1)
                  clear HDO HM4 HFT
                  go_wp2_with (first
                    | (refine (HUN.out _ stp).mono ?_; rintro y w2 ⟨rfl, hS2⟩; have HS2 : Hid (Step wr w2) := Lib.hid (Step.trans stp hS2); clear hS2)
                    | (refine (HDX.out _ (HS2.out.trans stp)).mono ?_; rintro y w3 ⟨rfl, hM3, hT3⟩; have HM3 := Lib.hid hM3; have HT3 : Hid (Turn (fun c => c = mf) w4 w3) := Lib.hid ((HT5.out.then (HS2.out.trans stp)).trans hT3); clear hM3 hT3))
                  exact ⟨⟨k + 1, z0, X.doB n1 fs, by go_num, HLT.out, by first | rfl | (congr 1; omega), by omega, HM3, Lib.hid (by rw [HRE.out]; exact hRP2.out), Lib.hid (by rw [HRE.out]; exact hFT2.out), Lib.hid (by have := HLN.out; omega), HT3⟩, by simp [Go.RowKit.intOf]; omega⟩

            · have hd : decide ((k : Int) < (D.queue.length : Int)) = false := decide_eq_false (by omega)
              have hke : D.queue.drop k = [] := List.drop_of_length_le (by omega)
              have HEND : Hid (crashF D keep = fs) := Lib.hid (by rw [HCF.out, HRP.out, hke]; rfl)
              clear s5 t5 HQ c2 c24 HRP HFT
              go_upto_region 21 with (go_at_call 65; refine (mClone_ (.inr ⟨mf, rfl, .inr rfl, HM5.out.step keep_flR stp⟩ : FilesAt _ (fun c => M c ∨ c = mf) (.map (some mf)) fs)).mono ?_; rintro e w6 ⟨v6, rfl, hF6, hS6, hv6, hv7, -⟩; have HF6 := Lib.hid hF6; have HS6 : Hid (Step wr w6) := Lib.hid (Step.trans stp hS6); have HV6 : Hid (∀ m, v6 = some m → wr.heap.size ≤ m ∧ m < w6.heap.size) := Lib.hid (fun m hm => ⟨by have := hv6 m hm; have := Step.size (show Step wr _ from by (repeat (first | exact Step.refl _ | refine Step.alloc ?_ _ | refine Step.drew ?_ | refine Step.drewN ?_ _ | refine Step.setCell ?_ (by first | exact Nat.le_refl _ | assumption | omega | (simp; done) | (simp; omega)) _ | assumption | refine Step.trans ?_ (by assumption : Step _ _)))); omega, hv7 m hm⟩); have hC6 : DrAt w6 b (.map sf) (.map sn) (.slice _ D.queue.length qc) D.room D.armed D.left D.dead := HR.out.kept ((HS6.out.heap hbr).trans ((HT5.out.block b (by have := HS4.out.size; omega) (by omega)).trans (HS4.out.heap hblt))); have k0 : w6.cell? ⟨b, 0, none⟩ = some (.map sf) := hC6.cell 0; have k1 : w6.cell? ⟨b, 1, none⟩ = some (.map sn) := hC6.cell 1; have k2 : w6.cell? ⟨b, 2, none⟩ = some (.slice _ D.queue.length qc) := hC6.cell 2; have k3 : ∀ j, w6.frozen? ⟨b, j, none⟩ = false := fun j => hC6.frozen j; have HC6 := Lib.hid hC6; clear hF6 hS6 hv6 hv7 hC6)
              refine wp_code (fun wx => DrAt wx b (.map (some mf)) (.map v6) (.slice none 0 0) D.room D.armed D.left D.dead ∧ Turn (fun c => c = b) w6 wx) ⟨CellsAt.set (CellsAt.set (CellsAt.set HC6.out 0 _) 1 _) 2 _, (((Turn.refl (fun c => c = b) w6).setCell (p := ⟨b, 0, none⟩) (fun _ => rfl) _).setCell (p := ⟨b, 1, none⟩) (fun _ => rfl) _).setCell (p := ⟨b, 2, none⟩) (fun _ => rfl) _⟩ ?_
              clear k0 k1 k2 k3 HC6
              rintro w7 ⟨hC7, hT7⟩
              have k4 : w7.cell? ⟨b, 4, none⟩ = some (.bool D.armed) := hC7.cell 4
              have k5 : w7.cell? ⟨b, 5, none⟩ = some (.int .i64 D.left) := hC7.cell 5
              have k6 : w7.cell? ⟨b, 6, none⟩ = some (.bool D.dead) := hC7.cell 6
              have k7 : ∀ j, w7.frozen? ⟨b, j, none⟩ = false := fun j => hC7.frozen j
              have HC7 := Lib.hid hC7
              have HT7 := Lib.hid hT7
              clear hC7 hT7
              go_wp2
              have hT8 := ((HT7.out.setCell (p := ⟨b, 6, none⟩) (fun _ => rfl) (.bool false)).setCell (p := ⟨b, 4, none⟩) (fun _ => rfl) (.bool false)).setCell (p := ⟨b, 5, none⟩) (fun _ => rfl) (.int .i64 0)
              refine bodyPost_end (results_none rfl _ _ _) rfl ⟨rfl, crash_end ho hold hmf HS4.out HT5.out HM5.out HS6.out HF6.out HV6.out hT8 (CellsAt.set (CellsAt.set (CellsAt.set HC7.out 6 (.bool false)) 4 (.bool false)) 5 (.int .i64 0)) HEND.out (by have := HLN.out; omega)⟩



end Go.Proofs.YthebdlkmoailaaaGreatDoor
