/-
  Walk: a journal's Append.
-/
import Derived.Test.YthebdlkmoailaaaGreatDoorZP8
set_option linter.unusedVariables false
set_option linter.unusedSimpArgs false
namespace Go.Proofs.YthebdlkmoailaaaGreatDoor
open Go.RowKit Go.Gr Go.Maps
open Go.Proofs (encStr)
set_option linter.unusedSimpArgs false
set_option linter.unusedVariables false
theorem DriveAt.beside {w w' : World} {M M' X : Nat → Prop} {b : Nat} {sf sn : Option Nat} {D : DDr} (h : DriveAt w M b sf sn D) (T : Turn X w w') (hX : ∀ c, c < w.heap.size → X c → M c ∧ ¬ DM b sf sn c) (hm : ∀ c, M c → M' c) (hless : ∀ c, c < w.heap.size → M' c → M c) (hM' : ∀ c, M' c → c < w'.heap.size) : DriveAt w' M' b sf sn D :=
  h.keep (fun c hc => ⟨T.block c (h.lt hc) (fun hx => (hX c (h.lt hc) hx).2 hc), hm c (h.own c hc)⟩) (fun c hc hn => ⟨T.block c hc (fun hx => hn (hX c hc hx).1), fun hx => hn (hless c hc hx)⟩) hM'
theorem LogAt.mono {w : World} {M M' : Nat → Prop} {l b : Nat} {g : Option Nat} {pre : List UInt8} {L : DLog} (h : LogAt w M l b g pre L) (hm : ∀ c, M c → M' c) : LogAt w M' l b g pre L := ⟨h.row, hm _ h.own, fun c hc => ⟨hm _ (h.gown c hc).1, (h.gown c hc).2⟩, h.ne, h.most⟩
theorem JGo.fromD {b l : Nat} (g : Option Nat) {w w1 w2 : World} {M M1 M2 : Nat → Prop} {sf sn sf2 sn2 : Option Nat} (h : Step w w1) (hm : ∀ c, M c → M1 c) (hless : ∀ c, c < w.heap.size → M1 c → M c) (k : DGo b w1 M1 sf sn w2 M2 sf2 sn2) : JGo b l w M sf sn g w2 M2 sf2 sn2 g := by
  have hz := h.size
  refine ⟨(Turn.of h).trans (k.turn.mono fun c hc hx => ?_), fun c hc => k.more c (hm c hc), fun c hc hx => hless c hc (k.less c (by omega) hx), fun c hc hx => hx.imp (k.own c (by omega)) id⟩
  rcases hx with hx | hx
  · exact .inl (by omega)
  · exact .inr (.inl hx)
theorem JGo.turned {b l : Nat} {w w1 w2 : World} {M M1 M2 X : Nat → Prop} {sf sn g sf1 sn1 g1 g2 : Option Nat} (h : JGo b l w M sf sn g w1 M1 sf1 sn1 g1) (T : Turn X w1 w2) (hX : ∀ c, c < w.heap.size → X c → JM b sf sn l g c) (hm : ∀ c, M1 c → M2 c) (hless : ∀ c, c < w1.heap.size → M2 c → M1 c) (hown : ∀ c, c < w1.heap.size → JM b sf1 sn1 l g2 c → JM b sf1 sn1 l g1 c) : JGo b l w M sf sn g w2 M2 sf1 sn1 g2 := by
  have hz := h.turn.size
  refine ⟨h.turn.trans (T.mono fun c _ hx => ?_), fun c hc => hm c (h.more c hc), fun c hc hx => h.less c hc (hless c (by omega) hx), fun c hc hx => h.own c hc (hown c (by omega) hx)⟩
  rcases Nat.lt_or_ge c w.heap.size with hlt | hge
  · exact .inr (hX c hlt hx)
  · exact .inl hge
/-- Behind an append: the file's cells, the journal's own and its row have turned. -/
theorem append_end {w w9 w13 : World} {M M' : Nat → Prop} {b l fb : Nat} {sf sn sf' sn' g : Option Nat} {pre : List UInt8} {L : DLog} {D2 : DDr} {cs : Array Value} {e : TypeId} {v13 : Value} {fs : List DFile} (hG : JGo b l w M sf sn g w9 M' sf' sn' g) (hD : DriveAt w9 M' b sf' sn' D2) (hL : LogAt w9 M' l b g pre L) (hM : M' fb) (hfw : w.heap.size ≤ fb) (hB : CellsAt w9 fb cs e) (hfb : fb ≠ b)
    (T : Turn (fun c => c = fb ∨ c = l ∨ g = some c) w9 w13) (hlg : LgAt w13 l b pre L.most v13 false) (hfr : FRow w13 v13 fs) (hbk : blkOf v13 = g ∨ ∃ c, blkOf v13 = some c ∧ w9.heap.size ≤ c) :
    ∃ M3 sf3 sn3 g3, DriveAt w13 M3 b sf3 sn3 D2 ∧ LogAt w13 M3 l b g3 pre { L with files := fs, closed := false } ∧ JGo b l w M sf sn g w13 M3 sf3 sn3 g3 := by
  obtain ⟨fv9, hlg9, hfr9, hgb9⟩ := hL.row
  have hless : ∀ c, c < w9.heap.size → (M' c ∨ blkOf v13 = some c) → M' c := fun c hc hx => by
    rcases hx with hx | hx
    · exact hx
    · rcases hbk with h | ⟨c', h, h2⟩
      · exact (hL.gown c (h.symm.trans hx)).1
      · obtain rfl : c' = c := by rw [h] at hx; injection hx
        omega
  refine ⟨fun c => M' c ∨ blkOf v13 = some c, sf', sn', blkOf v13, hD.beside T (fun c hc hx => ?_) (fun c hc => .inl hc) hless (fun c hc => ?_), ⟨⟨v13, hlg, hfr, rfl⟩, .inl hL.own, fun c hc => ⟨.inr hc, ?_⟩, hL.ne, hL.most⟩, hG.turned T (fun c hc hx => ?_) (fun c hc => .inl hc) hless (fun c hc hx => ?_)⟩
  · rcases hx with rfl | rfl | hx
    · exact ⟨hM, hD.notDM hB hfb⟩
    · exact ⟨hL.own, hD.notDM hlg9 hL.ne⟩
    · obtain ⟨cur, hcur⟩ := hfr9.obj (hgb9.trans hx)
      exact ⟨(hL.gown c hx).1, hD.notDM hcur (hL.gown c hx).2.2⟩
  · rcases hc with hc | hc
    · exact Nat.lt_of_lt_of_le (hD.old c hc) T.size
    · exact hfr.lt hc
  · rcases hbk with h | ⟨c', h, h2⟩
    · exact (hL.gown c (h.symm.trans hc)).2
    · obtain rfl : c' = c := by rw [h] at hc; injection hc
      have h3 := hlg9.lt
      have h4 := hD.lt (.inl rfl)
      exact ⟨by omega, by omega⟩
  · rcases hx with rfl | rfl | hx
    · omega
    · exact .inr (.inl rfl)
    · exact .inr (.inr hx)
  · rcases hx with hx | hx | hx
    · exact .inl hx
    · exact .inr (.inl hx)
    · rcases hbk with h | ⟨c', h, h2⟩
      · exact .inr (.inr (h.symm.trans hx))
      · obtain rfl : c' = c := by rw [h] at hx; injection hx
        omega
/-- Does a record begin a new file? -/
def freshL (L : DLog) : Bool := L.files.isEmpty || (decide (L.most ≤ (lastF L.files).size) || (L.closed && decide ((lastF L.files).from_ < (lastF L.files).to_)))
/-- The file that records go into. -/
def openF (L : DLog) : DFile := if freshL L then ⟨(lastF L.files).serial + 1, (lastF L.files).to_, (lastF L.files).to_, 0⟩ else lastF L.files
theorem openF_to (L : DLog) : (openF L).to_ = (lastF L.files).to_ := by unfold openF; split <;> rfl
def headL (L : DLog) : List UInt8 := if freshL L then headB (openF L).serial (lastF L.files).to_ else []
def dataL (L : DLog) (recs : List (List UInt8)) : List UInt8 := headL L ++ sealsB recs
def grownF (L : DLog) (recs : List (List UInt8)) : DFile := { openF L with to_ := (openF L).to_ + recs.length, size := (openF L).size + (dataL L recs).length }
def pushL (L : DLog) (recs : List (List UInt8)) : DLog := { L with files := (if freshL L then L.files else L.files.dropLast) ++ [grownF L recs], closed := false }
def tooLong (recs : List (List UInt8)) : Bool := recs.any fun r => decide (1048576 < r.length)
/-- Append: what becomes of drive and journal, and the answer. -/
def appendJ (pre : List UInt8) (D : DDr) (L : DLog) (recs : List (List UInt8)) : (DDr × DLog) × Nat × Int :=
  if recs = [] then ((D, L), (lastF L.files).to_, 0)
  else if tooLong recs then ((D, L), 0, 2)
  else if (appendD D (nameB pre (openF L).serial) (dataL L recs)).2 = 0 then (((appendD D (nameB pre (openF L).serial) (dataL L recs)).1, pushL L recs), (lastF L.files).to_, 0)
  else (((appendD D (nameB pre (openF L).serial) (dataL L recs)).1, L), 0, (appendD D (nameB pre (openF L).serial) (dataL L recs)).2)
/-- What an Append asks for. -/
structure RoomJ (pre : List UInt8) (D : DDr) (L : DLog) (recs : List (List UInt8)) : Prop where
  prel : pre.length ≤ 998
  serial : (openF L).serial < 100
  used : usedB D.seen ≤ 1099511627776
  room0 : 0 ≤ D.room
  room1 : D.room ≤ 1099511627776
  data : (dataL L recs).length ≤ 4294967296
  file : (dataB D.seen (nameB pre (openF L).serial)).length ≤ 4294967296
  few : D.safe.length + D.queue.length < 1000000
  files : L.files.length < 1000000
  to_ : (lastF L.files).to_ + recs.length < 18446744073709551616
  size : 0 ≤ (openF L).size ∧ (openF L).size + (dataL L recs).length ≤ 1152921504606846976
theorem nameB_len (pre : List UInt8) (n : Nat) : (nameB pre n).length ≤ pre.length + 2 := by
  unfold nameB
  rw [List.length_append]
  have := decS_len n
  omega
theorem sealsB_take {recs : List (List UInt8)} {k : Nat} (h : k < recs.length) : sealsB (recs.take (k + 1)) = sealsB (recs.take k) ++ sealB recs[k] := by
  rw [List.take_succ_eq_append_getElem h, sealsB_append]
  simp [sealsB]
theorem sealsB_take_le (recs : List (List UInt8)) (k : Nat) : (sealsB (recs.take k)).length ≤ (sealsB recs).length := by
  have := congrArg List.length (sealsB_append (recs.take k) (recs.drop k))
  rw [List.take_append_drop, List.length_append] at this
  omega
theorem dataL_take {L : DLog} {recs : List (List UInt8)} (h : (dataL L recs).length ≤ 4294967296) {k : Nat} (hk : k < recs.length) : (headL L ++ sealsB (recs.take k)).length + (sealB recs[k]).length ≤ lim := by
  have h2 := sealsB_take_le recs (k + 1)
  rw [sealsB_take hk, List.length_append] at h2
  unfold dataL at h
  rw [List.length_append] at h ⊢
  rw [lim_eq]
  omega
set_option maxRecDepth 100000 in
set_option maxHeartbeats 8000000 in
theorem jAppend_ {w : World} {M M2 : Nat → Prop} {b l : Nat} {sf sn g : Option Nat} {pre : List UInt8} {D : DDr} {L : DLog} {rv : Value} {recs : List (List UInt8)} (hD : DriveAt w M b sf sn D) (hL : LogAt w M l b g pre L) (hr : (Ty.slice Ty.bytes).rep w M2 [rv] recs) (hR : RoomJ pre D L recs) :
    Calls Tryz.prog 14 #[.pointer (some ⟨l, 0, none⟩), rv] w fun e w' => e = .returned (.tuple #[.int .u64 ((appendJ pre D L recs).2.1 : Int), .int .i64 (appendJ pre D L recs).2.2]) ∧ ∃ M' sf' sn' g', DriveAt w' M' b sf' sn' (appendJ pre D L recs).1.1 ∧ LogAt w' M' l b g' pre (appendJ pre D L recs).1.2 ∧ JGo b l w M sf sn g w' M' sf' sn' g' := by
  obtain ⟨fv, hlg, hfr, hgb⟩ := hL.row
  obtain ⟨ra, rc, rfl, _, _, hrl⟩ := Ty.slice_val hr
  have HLAST := Lib.hid (fun (W : World) (hW : Step w W) => jLast_ (CellsAt.step hlg hW) (hfr.step hW))
  have HNEXT := Lib.hid (fun (W : World) (hW : Step w W) => jNext_ (CellsAt.step hlg hW) (hfr.step hW))
  have HD := Lib.hid hD
  have HL := Lib.hid hL
  have HR := Lib.hid hr
  have HRJ := Lib.hid hR
  obtain ⟨F0, hF0⟩ : ∃ F0, F0 = lastF L.files := ⟨_, rfl⟩
  rw [← hF0] at HLAST HNEXT
  have HF0 := Lib.hid hF0
  have hllt := hlg.lt
  by_cases h0 : recs = []
  · subst h0
    have hA : appendJ pre D L [] = ((D, L), F0.to_, 0) := by unfold appendJ; rw [if_pos rfl, hF0]
    rw [hA]
    clear hlg hfr hD hL hr hR hA hF0
    simp only [List.length_nil]
    go_enter Tryz.func14, Tryz.ntmps14
    go_wp2_with (first
      | (go_at_call 48; refine (HLAST.out _ (Step.refl _)).mono ?_; rintro e w1 ⟨rfl, hS1⟩; have HS1 := Lib.hid hS1; clear hS1)
      | (go_at_call 17; refine (HNEXT.out _ HS1.out).mono ?_; rintro e w2 ⟨rfl, hS2⟩; have HS2 := Lib.hid hS2; clear hS2))
    go_ret2
    have hst := HS1.out.trans HS2.out
    exact ⟨rfl, M, sf, sn, g, HD.out.step (hst.trans stp), HL.out.step (hst.trans stp), (JGo.refl b l w M sf sn g).then (hst.trans stp)⟩
  · have hpos : 0 < recs.length := List.length_pos_iff.2 h0
    obtain ⟨fa, fc, rfl⟩ := hfr.val
    have l0 : w.cell? ⟨l, 0, none⟩ = some (.pointer (some ⟨b, 0, none⟩)) := hlg.cell 0
    have l2 : w.cell? ⟨l, 2, none⟩ = some (.int .i64 L.most) := hlg.cell 2
    have l3 : w.cell? ⟨l, 3, none⟩ = some (.slice fa L.files.length fc) := hlg.cell 3
    have l4 : w.cell? ⟨l, 4, none⟩ = some (.bool L.closed) := hlg.cell 4
    have hF0ok : F0.serial < 1000 ∧ F0.from_ < 18446744073709551616 ∧ F0.to_ < 18446744073709551616 ∧ 0 ≤ F0.size ∧ F0.size ≤ 1152921504606846976 := by
      rcases files_cases L.files with h | ⟨i, f, h⟩
      · rw [hF0, h]; simp [lastF, DFile.none]
      · rw [hF0, h, lastF_snoc]
        have := hfr.2.1 f (by rw [h]; simp)
        exact ⟨this.serial, this.from_, this.to_, this.size.1, this.size.2⟩
    have hmost := hL.most
    have hfl := hR.files
    clear hD hL hr hR hF0 hlg hfr
    obtain ⟨n, hn⟩ : ∃ n, n = L.files.length := ⟨_, rfl⟩
    rw [← hn] at l3 hfl
    have HN := Lib.hid hn
    clear hn
    obtain ⟨CL, hCL⟩ : ∃ CL, CL = L.closed := ⟨_, rfl⟩
    rw [← hCL] at l4
    have HCL := Lib.hid hCL
    clear hCL
    by_cases c1 : n = 0
    · have hfr1 : Hid (freshL L = true) := Lib.hid (by unfold freshL; rw [List.length_eq_zero_iff.1 (HN.out.symm.trans c1)]; rfl)
      have hz0 : ((n : Int) == 0) = true := beq_iff_eq.2 (by omega)
      have C1 := Lib.hid c1
      clear c1
      go_enter Tryz.func14, Tryz.ntmps14
      go_upto_region 5 with (first
        | (go_at_call 48; refine (HLAST.out _ (Step.refl _)).mono ?_; rintro e w1 ⟨rfl, hS1⟩; have HS1 := Lib.hid hS1; clear hS1)
        | (go_at_call 17; refine (HNEXT.out _ HS1.out).mono ?_; rintro e w2 ⟨rfl, hS2⟩; have HS2 := Lib.hid (HS1.out.trans hS2); clear hS2))
      refine wp_code (fun wx => CellsAt wx w2.heap.size (flV F0) 89 ∧ Step w wx ∧ wx.heap.size = w2.heap.size + 1) ⟨CellsAt.new rfl, HS2.out.trans stp, by simp⟩ ?_
      rintro w3 ⟨hb3, hS3, hz3⟩
      obtain ⟨fb, hfb⟩ : ∃ fb, fb = w2.heap.size := ⟨_, rfl⟩
      rw [← hfb] at hb3 hz3 ⊢
      have hfbl : l < fb := by have := HS2.out.size; omega
      have hfbw : w.heap.size ≤ fb := by have := HS2.out.size; omega
      have HB3 := Lib.hid hb3
      have HS3 := Lib.hid hS3
      have m0 : w3.cell? ⟨l, 0, none⟩ = some (.pointer (some ⟨b, 0, none⟩)) := (hS3.cell hllt 0).trans l0
      have m2 : w3.cell? ⟨l, 2, none⟩ = some (.int .i64 L.most) := (hS3.cell hllt 2).trans l2
      have m3 : w3.cell? ⟨l, 3, none⟩ = some (.slice fa n fc) := (hS3.cell hllt 3).trans l3
      have m4 : w3.cell? ⟨l, 4, none⟩ = some _ := (hS3.cell hllt 4).trans l4
      have k0 : w3.cell? ⟨fb, 0, none⟩ = some (.int .u64 (F0.serial : Int)) := hb3.cell 0
      have k1 : w3.cell? ⟨fb, 1, none⟩ = some (.int .u64 (F0.from_ : Int)) := hb3.cell 1
      have k2 : w3.cell? ⟨fb, 2, none⟩ = some (.int .u64 (F0.to_ : Int)) := hb3.cell 2
      have k3 : w3.cell? ⟨fb, 3, none⟩ = some (.int .i64 F0.size) := hb3.cell 3
      have g0 : ∀ j, w3.frozen? ⟨fb, j, none⟩ = false := fun j => hb3.frozen j
      clear hb3 hS3 HS1 HLAST HNEXT hfb
      go_quiet (fail)

      refine wp_at (fun wx => CellsAt wx fb (flV F0) 89 ∧ Step w wx ∧ fb < wx.heap.size) ⟨HB3.out, HS3.out.trans stp, by show fb < w3.heap.size; omega⟩ ?_
      clear k0 k1 k2 k3 g0 HB3 HS3 m0 m2 m3 m4
      rintro w4 ⟨hb4, hS4, hz4⟩
      have k0 : w4.cell? ⟨fb, 0, none⟩ = some (.int .u64 (F0.serial : Int)) := hb4.cell 0
      have k1 : w4.cell? ⟨fb, 1, none⟩ = some (.int .u64 (F0.from_ : Int)) := hb4.cell 1
      have k2 : w4.cell? ⟨fb, 2, none⟩ = some (.int .u64 (F0.to_ : Int)) := hb4.cell 2
      have k3 : w4.cell? ⟨fb, 3, none⟩ = some (.int .i64 F0.size) := hb4.cell 3
      have g0 : ∀ j, w4.frozen? ⟨fb, j, none⟩ = false := fun j => hb4.frozen j
      have hsw : IntKind.u64.wrap ((F0.serial : Int) + 1) = (F0.serial : Int) + 1 := by rw [IntKind.wrap_u64]; omega
      have HB4 := Lib.hid hb4
      have HS4 := Lib.hid hS4
      obtain ⟨F1, hF1⟩ : ∃ F1, F1 = openF L := ⟨_, rfl⟩
      have hF1e : F1 = ⟨F0.serial + 1, F0.to_, F0.to_, 0⟩ := by rw [hF1]; unfold openF; rw [if_pos hfr1.out, ← HF0.out]
      have HHEAD : Hid (∀ W : World, Calls Tryz.prog 49 #[.int .u64 ((F0.serial : Int) + 1), .int .u64 (F0.to_ : Int)] W fun e w' => ∃ v', e = .returned (.tuple #[v', .int .i64 0]) ∧ Gr.Own Ty.byte 5 w' (· < W.heap.size) W.heap.size v' (headL L) ∧ Step W w') := Lib.hid (fun W => by
        have h := jHead_ (w := W) (a := F0.serial + 1) (b := F0.to_) (by omega) hF0ok.2.2.1
        have e : headL L = headB (F0.serial + 1) F0.to_ := by unfold headL; rw [if_pos hfr1.out, ← hF1, hF1e, ← HF0.out]
        rw [e]
        simpa using h)
      have HF1 := Lib.hid hF1
      have HF1E := Lib.hid hF1e
      clear hF1 hF1e hb4 hS4
      go_upto_region 8 with fail
      refine wp_code (fun wx => CellsAt wx fb (flV F1) 89 ∧ Step w wx ∧ fb < wx.heap.size) ⟨?_, ?_, by simpa using hz4⟩ ?_
      · have h := CellsAt.set (CellsAt.set (CellsAt.set (CellsAt.set HB4.out 0 (.int .u64 ((F0.serial : Int) + 1))) 1 (.int .u64 (F0.to_ : Int))) 2 (.int .u64 (F0.to_ : Int))) 3 (.int .i64 0)
        rw [HF1E.out]
        exact h
      · have h := HS4.out
        (repeat (first | exact Step.refl _ | refine Step.alloc ?_ _ | refine Step.drew ?_ | refine Step.drewN ?_ _ | refine Step.setCell ?_ (by first | exact Nat.le_refl _ | assumption | omega | (simp; done) | (simp; omega)) _ | assumption | refine Step.trans ?_ (by assumption : Step _ _)))
      clear k0 k1 k2 k3 g0 HB4 HS4 hz4
      rintro w5 ⟨hb5, hS5, hz5⟩
      have k0 : w5.cell? ⟨fb, 0, none⟩ = some (.int .u64 (F1.serial : Int)) := hb5.cell 0
      have hk : (F1.serial : Int) = (F0.serial : Int) + 1 := by rw [HF1E.out]; simp
      rw [hk] at k0
      have HB5 := Lib.hid hb5
      have HS5 := Lib.hid hS5
      clear hb5 hS5 hk
      go_upto_region 9 with (go_at_call 49; refine (HHEAD.out _).mono ?_; rintro e w6 ⟨v6, rfl, hA6, hS6⟩; obtain ⟨ha, hn6, hc, rfl, HN6⟩ := hA6.valN; have HA6 := Lib.hid hA6; have HS6 := Lib.hid hS6; clear hA6 hS6)
      refine wp_code (fun wx => CellsAt wx fb (flV F1) 89 ∧ Step w wx ∧ Gr.Own Ty.byte 5 wx (· < w.heap.size) w.heap.size (.slice ha hn6 hc) (headL L) ∧ fb < wx.heap.size) ⟨CellsAt.step HB5.out HS6.out, HS5.out.trans HS6.out, Gr.Own.base (Gr.Own.flat Ty.flat_byte HA6.out) HS5.out.size, Nat.lt_of_lt_of_le hz5 HS6.out.size⟩ ?_
      have HNE7 : Hid (∀ g, (Value.slice ha hn6 hc).ownBlock = some g → g ≠ fb) := Lib.hid (fun g hg er => by have := (HA6.out.lt hg).1; omega)
      rintro w7 ⟨hb7, hS7, hA7, hz7⟩
      have HB7 := Lib.hid hb7
      have HS7 := Lib.hid hS7
      have HA7 := Lib.hid hA7
      clear hb7 hS7 hA7 HB5 HS5 k0 HA6 HS6 HN6 hz5 HHEAD
      go_wp2
      go_loopw [8, 70] (fun ov iv w' => ∃ k : Nat, iv = .int .i64 (k : Int) ∧ k ≤ recs.length ∧ Hid (∀ j (hj : j < recs.length), j < k → (recs[j]).length ≤ 1048576) ∧ Hid (Gr.Own Ty.byte 5 w' (· < w.heap.size) w.heap.size ov (headL L ++ sealsB (recs.take k))) ∧ Hid (CellsAt w' fb (flV F1) 89) ∧ Hid (∀ g, ov.ownBlock = some g → g ≠ fb) ∧ Hid (Step w w')) (fun _ iv _ => recs.length - (Go.RowKit.intOf iv).toNat)
      case atStart => exact ⟨0, rfl, Nat.zero_le _, Lib.hid (fun j hj h => absurd h (by omega)), Lib.hid (by simpa [sealsB] using HA7.out), HB7, HNE7, HS7⟩
      case round =>
        obtain ⟨k, rfl, hk, HSH, HA, HB, HNE, HS⟩ := hrel
        obtain ⟨oa, on, oc, rfl, HON⟩ := HA.out.valN
        have hzr : fb < wr.heap.size := HB.out.lt
        by_cases hlt : k < recs.length
        · have hd : decide ((k : Int) < (recs.length : Int)) = true := decide_eq_true (by omega)
          obtain ⟨b1, o1, u1, rfl, hb1, _, hu1, hc1⟩ := Ty.slice_at1 rfl (Ty.step _ HR.out HS.out) hlt
          obtain ⟨K, hK⟩ : ∃ K, K = recs[k] := ⟨_, rfl⟩
          rw [← hK] at hu1
          obtain ⟨va, vc, hvv, _, _, hvl⟩ := Ty.slice_val hu1
          obtain rfl : u1 = .slice va K.length vc := by simpa using hvv
          have HU := Lib.hid hu1
          have hmem : K ∈ recs := by rw [hK]; exact List.getElem_mem hlt
          clear hvv hu1
          by_cases hbig : 1048576 < K.length
          · have HAJ : Hid (appendJ pre D L recs = ((D, L), 0, 2)) := Lib.hid (by
              unfold appendJ
              rw [if_neg h0, if_pos]
              unfold tooLong
              exact List.any_eq_true.2 ⟨K, hmem, by simpa using hbig⟩)
            have HSB := Lib.hid (pySeal_big HU.out hbig)
            clear hmem hK hbig
            generalize K.length = KL at *
            go_wp2_with (go_at_call 50; refine HSB.out.mono ?_; rintro e w8 ⟨rfl, hw8⟩; subst w8)
            go_ret2
            rw [HAJ.out]
            exact ⟨rfl, M, sf, sn, g, HD.out.step HS.out, HL.out.step HS.out, (JGo.refl b l w M sf sn g).then HS.out⟩
          · have hKs : K.length ≤ 1048576 := by omega
            have HSB := Lib.hid (pySeal_ HU.out hKs)
            have HSH2 : Hid (∀ j (hj : j < recs.length), j < k + 1 → (recs[j]).length ≤ 1048576) := Lib.hid (fun j hj hlt2 => by
              rcases Nat.lt_or_ge j k with h | h
              · exact HSH.out j hj h
              · obtain rfl : j = k := by omega
                rw [← hK]; exact hKs)
            have htk : Hid (headL L ++ sealsB (recs.take (k + 1)) = (headL L ++ sealsB (recs.take k)) ++ sealB K) := Lib.hid (by rw [sealsB_take hlt, hK, List.append_assoc])
            have hlt2 : Hid (k + 1 ≤ recs.length) := Lib.hid hlt
            have hkw : k + 1 < 9223372036854775807 := by have h := lim_eq; omega
            have hlm : Hid ((headL L ++ sealsB (recs.take k)).length + (sealB K).length ≤ lim) := Lib.hid (by rw [hK]; exact dataL_take HRJ.out.data hlt)
            clear hmem hK hbig HSH
            generalize K.length = KL at *
            go_wp2_with (first
              | (go_at_call 50; refine HSB.out.mono ?_; rintro e w8 ⟨v8, rfl, hA8, hS8⟩; obtain ⟨a8, n8, c8, rfl, HN8⟩ := hA8.valN; have HA8 := Lib.hid (Gr.Own.rep' hA8 (fun c hc hm => by have := (hA8.lt hc).1; omega)); have HA := Lib.hid (HA.out.step hS8); have HB := Lib.hid (CellsAt.step HB.out hS8); have HS := Lib.hid (HS.out.trans hS8); clear hA8 hS8)
              | (at_builtin; refine wpList_append_acc (w0 := w) (ys := sealB K) rfl (.tmp 82) (.tmp 83) rfl stBytes HS.out HA.out (Src.flat Ty.flat_byte HA8.out) hlm.out (by rfl) (by rfl) ?_; intro v9 w9 hA9 hB9 hG9 hn9; have HA9 := Lib.hid hA9; have HS9 := Lib.hid hB9; have HB9 : Hid (CellsAt w9 fb (flV F1) 89) := Lib.hid (HB.out.kept (hG9.block fb HB.out.lt (fun er => HNE.out _ er.symm rfl))); have HNE9 : Hid (∀ g, v9.ownBlock = some g → g ≠ fb) := Lib.hid (fun g hg er => by rcases hn9 with h | h; exact HNE.out g (by rw [← h]; exact hg) er; (rw [hg] at h; injection h with h; have := HB.out.lt; omega)); clear hA9 hB9 hG9 hn9))
            go_roundw
            case rel => exact ⟨k + 1, by go_num, hlt2.out, HSH2, by rw [htk.out]; exact HA9, HB9, HNE9, HS9⟩
            case measure => (have h2 := hlt2.out; simp [Go.RowKit.intOf]; omega)
        · have hd : decide ((k : Int) < (recs.length : Int)) = false := decide_eq_false (by omega)
          have hke : Hid (recs.take k = recs) := Lib.hid (List.take_of_length_le (by omega))
          have HTL : Hid (tooLong recs = false) := Lib.hid (by
            unfold tooLong
            rw [List.any_eq_false]
            intro r hr
            obtain ⟨j, hj, rfl⟩ := List.mem_iff_getElem.1 hr
            have := HSH.out j hj (by omega)
            simpa using this)
          rw [hke.out] at HA HON
          clear hke HSH
          go_upto_region 17 with fail
          obtain ⟨nm, hnm⟩ : ∃ nm, nm = nameB pre F1.serial := ⟨_, rfl⟩
          obtain ⟨D2, hD2⟩ : ∃ D2, D2 = (appendD D nm (dataL L recs)).1 := ⟨_, rfl⟩
          obtain ⟨e9, he9⟩ : ∃ e9, e9 = (appendD D nm (dataL L recs)).2 := ⟨_, rfl⟩
          have HAJ : Hid (appendJ pre D L recs = if e9 = 0 then ((D2, pushL L recs), F0.to_, 0) else ((D2, L), 0, e9)) := Lib.hid (by
            unfold appendJ
            rw [if_neg h0, if_neg (by rw [HTL.out]; simp), ← HF1.out, ← hnm, ← hD2, ← he9, ← HF0.out])
          have p0 : wr.cell? ⟨l, 0, none⟩ = some (.pointer (some ⟨b, 0, none⟩)) := (HS.out.cell hllt 0).trans l0
          have q0 : wr.cell? ⟨fb, 0, none⟩ = some (.int .u64 (F1.serial : Int)) := HB.out.cell 0
          have HNM : Hid (∀ W : World, Step wr W → Calls Tryz.prog 51 #[.pointer (some ⟨l, 0, none⟩), .int .u64 (F1.serial : Int)] W fun e w' => e = .returned (encStr nm) ∧ ∃ m, w' = W.drewN m) := Lib.hid (fun W hW => by
            obtain ⟨fv2, hlg2, _⟩ := HL.out.row
            rw [hnm]
            exact jName_ (CellsAt.step hlg2 (HS.out.trans hW)) (by rw [HF1.out]; exact HRJ.out.serial) (by have := HRJ.out.prel; omega))
          have HDF : Hid (∀ W : World, Step wr W → DriveAt W (fun c => M c ∨ c = fb) b sf sn D) := Lib.hid (fun W hW => by
            have hSW := HS.out.trans hW
            have hfz := Nat.lt_of_lt_of_le hzr hW.size
            refine HD.out.keep (fun c hc => ⟨hSW.heap (HD.out.lt hc), .inl (HD.out.own c hc)⟩) (fun c hc hn => ⟨hSW.heap hc, fun hx => hx.elim hn (fun e => by omega)⟩) (fun c hc => ?_)
            rcases hc with hc | rfl
            · exact Nat.lt_of_lt_of_le (HD.out.old c hc) hSW.size
            · exact hfz)
          have HAP : Hid (∀ W : World, Step wr W → Calls Tryz.prog 27 #[.pointer (some ⟨b, 0, none⟩), encStr nm, .slice oa on oc] W fun y w' => y = .returned (.int .i64 e9) ∧ ∃ M' sf' sn', DriveAt w' M' b sf' sn' D2 ∧ DGo b W (fun c => M c ∨ c = fb) sf sn w' M' sf' sn') := Lib.hid (fun W hW => by
            rw [hD2, he9]
            refine dAppend_ (M2 := fun _ => False) (HDF.out W hW) (Ty.step _ (Gr.Own.rep' (Gr.Own.flat Ty.flat_byte HA.out) (fun c hc hm => hm)) hW) ?_ HRJ.out.used HRJ.out.room0 HRJ.out.room1 ?_ HRJ.out.few
            · have := nameB_len pre F1.serial
              have := HRJ.out.prel
              rw [hnm]; omega
            · have h1 := HRJ.out.data
              have h2 := HRJ.out.file
              rw [← HF1.out, ← hnm] at h2
              omega)
          have HED := Lib.hid hD2
          have HON2 : Hid (on = (dataL L recs).length) := Lib.hid HON.out
          clear hnm hD2 he9 HON
          have hbl : b < w.heap.size := HD.out.lt (.inl rfl)
          refine wp_region_cut (S := (fun w' => w'.cell? ⟨l, 0, none⟩ = some (.pointer (some ⟨b, 0, none⟩)) ∧ w'.cell? ⟨fb, 0, none⟩ = some (.int .u64 (F1.serial : Int)))) 9 (by kernel_rfl) ?_ (fun hHeld => ?_)
          · (go_keep)
          refine tkC 0 [1, 2, 3, 9, 10] ?_
          try simp only [Act.put, gtA, gtB, gtC, gtD, gtE, gtF]
          refine tkC 1 [2, 3, 9, 10] ?_
          try simp only [Act.put, gtA, gtB, gtC, gtD, gtE, gtF]
          refine tkC 2 [3, 9, 10] ?_
          try simp only [Act.put, gtA, gtB, gtC, gtD, gtE, gtF]
          refine tkC 3 [9, 10] ?_
          try simp only [Act.put, gtA, gtB, gtC, gtD, gtE, gtF]
          refine tkC 4 [7, 9, 10] ?_
          try simp only [Act.put, gtA, gtB, gtC, gtD, gtE, gtF]
          refine tkC 5 [6, 7, 9, 10] ?_
          try simp only [Act.put, gtA, gtB, gtC, gtD, gtE, gtF]
          refine tkC 6 [7, 9, 10] ?_
          try simp only [Act.put, gtA, gtB, gtC, gtD, gtE, gtF]
          refine tkC 8 [9, 10] ?_
          try simp only [Act.put, gtA, gtB, gtC, gtD, gtE, gtF]
          refine rdC (rs := [7]) (.cons rfl (by decide) (fun K hK => ?_) .nil)
          try simp only [gtA, gtB, gtC]
          go_simp
          (go_at_call 51; refine (HNM.out _ stp).mono ?_; rintro e w8 ⟨rfl, m8, rfl⟩)
          refine hK.out _ _ ?_ (fun hHeld => ?_)
          · (go_keep)
          clear hK K
          try simp only [Act.put, gtA, gtB, gtC, gtD, gtE, gtF]
          refine rdC (rs := [9]) (.cut rfl (fun K hK => ?_))
          try simp only [gtA, gtB, gtC]
          go_simp
          (go_at_call 27; refine (HAP.out _ stp).mono ?_; rintro e w9 ⟨rfl, M', sf', sn', hD9, hG9⟩)
          refine hK.out _ _ trivial (fun hHeld => ?_)
          clear hK K
          try simp only [Act.put, gtA, gtB, gtC, gtD, gtE, gtF]
          have hTrue : True := trivial
          refine tkH 10 ?_
          try simp only [Act.put, gtA, gtB, gtC, gtD, gtE, gtF]
          refine wpAnyH_done (by kernel_rfl) ?_ _
          have HG9 := Lib.hid (JGo.fromD (l := l) (M := M) (w := w) g (HS.out.trans stp) (fun c hc => .inl hc) (fun c hc hx => hx.elim id (fun e => by omega)) hG9)
          have HL9 := Lib.hid (LogAt.beside ((HL.out.step (HS.out.trans stp)).mono (fun c hc => .inl hc)) (HDF.out _ stp) hG9)
          have HB9 : Hid (CellsAt w9 fb (flV F1) 89) := Lib.hid (by
            have h1 := CellsAt.step HB.out (stp : Step wr (wr.drewN (1 + m8)))
            have hlt9 := h1.lt
            exact h1.kept (hG9.turn.block fb h1.lt (fun hx => hx.elim (fun h => by omega) ((HDF.out _ stp).notDM (l := fb) h1 (by omega)))))
          have HMF : Hid (M' fb) := Lib.hid (hG9.more fb (.inr rfl))
          have HD9 := Lib.hid hD9
          clear hD9 hG9 HNM HAP HDF p0 q0 HA HNE HB HS hzr
          by_cases he : e9 = 0
          · subst he
            have HAJ2 := Lib.hid (HAJ.out.trans (if_pos rfl))
            clear HAJ
            have k0 : w9.cell? ⟨fb, 0, none⟩ = some (.int .u64 (F1.serial : Int)) := HB9.out.cell 0
            have k1 : w9.cell? ⟨fb, 1, none⟩ = some (.int .u64 (F1.from_ : Int)) := HB9.out.cell 1
            have k2 : w9.cell? ⟨fb, 2, none⟩ = some (.int .u64 (F1.to_ : Int)) := HB9.out.cell 2
            have k3 : w9.cell? ⟨fb, 3, none⟩ = some (.int .i64 F1.size) := HB9.out.cell 3
            have g0 : ∀ j, w9.frozen? ⟨fb, j, none⟩ = false := fun j => HB9.out.frozen j
            have hszr := HRJ.out.size
            have hto := HRJ.out.to_
            rw [← HF1.out, ← HON2.out] at hszr
            rw [← openF_to, ← HF1.out] at hto
            have hw1 : IntKind.i64.wrap (F1.size + (on : Int)) = F1.size + (on : Int) := by rw [IntKind.wrap_i64]; omega
            have hw2 : IntKind.u64.wrap (recs.length : Int) = (recs.length : Int) := by rw [IntKind.wrap_u64]; omega
            have hw3 : IntKind.u64.wrap ((F1.to_ : Int) + (recs.length : Int)) = (F1.to_ : Int) + (recs.length : Int) := by rw [IntKind.wrap_u64]; omega
            go_upto_region 23 with fail
            obtain ⟨F2, hF2⟩ : ∃ F2, F2 = grownF L recs := ⟨_, rfl⟩
            have hF2e : F2 = ⟨F1.serial, F1.from_, F1.to_ + recs.length, F1.size + on⟩ := by rw [hF2, HON2.out, HF1.out]; rfl
            have hpush : Hid (pushL L recs = { L with files := L.files ++ [F2], closed := false }) := Lib.hid (by rw [hF2]; unfold pushL; rw [hfr1.out]; rfl)
            have hser := HRJ.out.serial
            have hfew := HRJ.out.files
            rw [← HF1.out] at hser
            have hF1f : F1.from_ < 18446744073709551616 := by rw [HF1E.out]; exact hF0ok.2.2.1
            have hF2ok : F2.Ok := by rw [hF2e]; exact ⟨by show F1.serial < 1000; omega, hF1f, hto, by show 0 ≤ F1.size + (on : Int) ∧ F1.size + (on : Int) ≤ 1152921504606846976; omega⟩
            refine wp_code (fun wx => CellsAt wx fb (flV F2) 89 ∧ Turn (· = fb) w9 wx) ⟨?_, ?_⟩ ?_
            · have h := CellsAt.set (CellsAt.set HB9.out 3 (.int .i64 (F1.size + (on : Int)))) 2 (.int .u64 ((F1.to_ : Int) + (recs.length : Int)))
              rw [hF2e]
              exact h
            · refine Turn.setCell (M := fun x => x = fb) (Turn.setCell (M := fun x => x = fb) (Turn.refl _ w9) (fun _ => ?_) _) (fun _ => ?_) _ <;> rfl
            clear k0 k1 k2 k3 g0 hF2 hF2e hw1 hw2 hw3
            rintro w10 ⟨hb10, hT10⟩
            have hgf : ∀ c, g = some c → c < w.heap.size ∧ c ≠ fb ∧ c ≠ l ∧ c ≠ b := fun c hc => by
              obtain ⟨fv, _, hfr, hgb2⟩ := HL.out.row
              have h1 := hfr.lt (hgb2.trans hc)
              exact ⟨h1, by omega, (HL.out.gown c hc).2⟩
            obtain ⟨fv9, hlg9, hfr9, hgb9⟩ := HL9.out.row
            obtain ⟨a9, c9, rfl⟩ := hfr9.val
            have hlg10 := hlg9.kept (hT10.block l hlg9.lt (fun e => by omega))
            have hfr10 := hfr9.kept (fun c hc => hT10.block c (hfr9.lt hc) (hgf c (hgb9.symm.trans hc)).2.1)
            have m3 : w10.cell? ⟨l, 3, none⟩ = some (.slice a9 L.files.length c9) := hlg10.cell 3
            have k0 : w10.cell? ⟨fb, 0, none⟩ = some (.int .u64 (F2.serial : Int)) := hb10.cell 0
            have k1 : w10.cell? ⟨fb, 1, none⟩ = some (.int .u64 (F2.from_ : Int)) := hb10.cell 1
            have k2 : w10.cell? ⟨fb, 2, none⟩ = some (.int .u64 (F2.to_ : Int)) := hb10.cell 2
            have k3 : w10.cell? ⟨fb, 3, none⟩ = some (.int .i64 F2.size) := hb10.cell 3
            have hl10 : l < w10.heap.size := hlg10.lt
            have hfb10 : fb < w10.heap.size := hb10.lt
            have HLG10 := Lib.hid hlg10
            have HFR10 := Lib.hid hfr10
            have HT10 := Lib.hid hT10
            have hz910 := Lib.hid hT10.size
            clear hlg9 hfr9 hlg10 hfr10 hb10 hT10
            refine wp_region_cut (S := (fun w' => w'.cell? ⟨l, 3, none⟩ = some (.slice a9 L.files.length c9) ∧ w'.cell? ⟨fb, 0, none⟩ = some (.int .u64 (F2.serial : Int)) ∧ w'.cell? ⟨fb, 1, none⟩ = some (.int .u64 (F2.from_ : Int)) ∧ w'.cell? ⟨fb, 2, none⟩ = some (.int .u64 (F2.to_ : Int)) ∧ w'.cell? ⟨fb, 3, none⟩ = some (.int .i64 F2.size))) 10 (by kernel_rfl) ?_ (fun hHeld => ?_)
            · (go_keep)
            refine tkC 0 [8, 9, 10] ?_
            try simp only [Act.put, gtA, gtB, gtC, gtD, gtE, gtF]
            refine tkC 1 [2, 3, 4, 7, 8, 9, 10] ?_
            try simp only [Act.put, gtA, gtB, gtC, gtD, gtE, gtF]
            refine tkC 2 [3, 4, 7, 8, 9, 10] ?_
            try simp only [Act.put, gtA, gtB, gtC, gtD, gtE, gtF]
            refine tkC 3 [4, 7, 8, 9, 10] ?_
            try simp only [Act.put, gtA, gtB, gtC, gtD, gtE, gtF]
            refine tkC 4 [7, 8, 9, 10] ?_
            try simp only [Act.put, gtA, gtB, gtC, gtD, gtE, gtF]
            refine tkC 5 [6, 7, 8, 9, 10] ?_
            try simp only [Act.put, gtA, gtB, gtC, gtD, gtE, gtF]
            refine rdC (rs := [6]) (.cons rfl (by decide) (fun K hK => ?_) .nil)
            try simp only [gtA, gtB, gtC]
            go_simp
            refine hK.out _ _ ?_ (fun hHeld => ?_)
            · (go_keep)
            clear hK K
            try simp only [Act.put, gtA, gtB, gtC, gtD, gtE, gtF]
            refine rdC (rs := [7]) (.cons rfl (by decide) (fun K hK => ?_) .nil)
            try simp only [gtA, gtB, gtC]
            refine ite_then rfl ?_; refine wp_append_file (fs := L.files) (f := F2) (v := .slice a9 L.files.length c9) (.tmp 119) (.tmp 121) rfl (FRow.step HFR10.out stp) hF2ok hfew ?_ rfl rfl ?_; (intro j u hj; exact (CellsAt.cell (CellsAt.step (CellsAt.new (w := w10) (cs := flV F2) (e := 89) rfl) stp) j).trans (by rcases j with _ | _ | _ | _ | j <;> first | (simp at hj; done) | simpa using hj)); intro v11 w11 hFR11 hT11 hbk; obtain ⟨a11, c11, rfl⟩ := hFR11.val; have HT11 : Hid (Turn (fun c => blkOf (.slice a9 L.files.length c9) = some c) w10 w11) := Lib.hid ((Turn.of stp).trans hT11); have HFR11 := Lib.hid hFR11; have HBK : Hid (blkOf (.slice a11 (L.files ++ [F2]).length c11) = g ∨ ∃ c, blkOf (.slice a11 (L.files ++ [F2]).length c11) = some c ∧ w10.heap.size ≤ c) := Lib.hid (hbk.imp (fun h => h.trans hgb9) (fun h => ⟨_, h, by simp⟩)); have HLG11 := Lib.hid (HLG10.out.kept (HT11.out.block l hl10 (fun e => (hgf l (hgb9.symm.trans e)).2.2.1 rfl))); have s11 : ∀ j, w11.cell? ⟨l, j, none⟩ = w10.cell? ⟨l, j, none⟩ := fun j => HT11.out.cell hl10 (fun e => (hgf l (hgb9.symm.trans e)).2.2.1 rfl) j; have t11 : ∀ j, w11.cell? ⟨fb, j, none⟩ = w10.cell? ⟨fb, j, none⟩ := fun j => HT11.out.cell hfb10 (fun e => (hgf fb (hgb9.symm.trans e)).2.1 rfl) j; have f11 : ∀ j, w11.frozen? ⟨l, j, none⟩ = false := fun j => HLG11.out.frozen j; clear hFR11 hT11 hbk
            refine hK.out _ _ ?_ (fun hHeld => ?_)
            · (go_keep)
            clear hK K
            try simp only [Act.put, gtA, gtB, gtC, gtD, gtE, gtF]
            refine tkC 8 [9, 10] ?_
            try simp only [Act.put, gtA, gtB, gtC, gtD, gtE, gtF]
            refine tkC 9 [10] ?_
            try simp only [Act.put, gtA, gtB, gtC, gtD, gtE, gtF]
            refine rdC (rs := [10]) (.cut rfl (fun K hK => ?_))
            try simp only [gtA, gtB, gtC]
            go_simp
            refine hK.out _ _ trivial (fun hHeld => ?_)
            clear hK K
            try simp only [Act.put, gtA, gtB, gtC, gtD, gtE, gtF]
            have hTrue : True := trivial
            refine wpAnyH_done (by kernel_rfl) ?_ _
            have hgl11 : blkOf (.slice a11 (L.files ++ [F2]).length c11) ≠ some l := fun e => by
              rcases HBK.out with h | ⟨c, h, h2⟩
              · exact (hgf l (h.symm.trans e)).2.2.1 rfl
              · rw [h] at e
                injection e with e
                omega
            refine wp_at (fun wx => LgAt wx l b pre L.most (.slice a11 (L.files.length + 1) c11) L.closed ∧ FRow wx (.slice a11 (L.files.length + 1) c11) (L.files ++ [F2]) ∧ Turn (fun c => c = fb ∨ c = l ∨ g = some c) w9 wx) ⟨?_, ?_, ?_⟩ ?_
            · exact CellsAt.set HLG11.out 3 _
            · have h := HFR11.out.kept (w' := w11.setCell ⟨l, 3, none⟩ (.slice a11 (L.files.length + 1) c11)) (fun c hc => heap_setCell_other _ _ _ _ (fun e => hgl11 (hc.trans (congrArg some e))))
              rw [List.length_append, List.length_singleton] at h
              exact h
            · refine Turn.setCell (Turn.trans (HT10.out.mono fun c _ h => .inl h) (HT11.out.mono fun c _ h => .inr (.inr (hgb9.symm.trans h)))) (fun _ => .inr (.inl rfl)) _
            rw [List.length_append, List.length_singleton] at HBK hgl11
            clear m3 k0 k1 k2 k3 s11 t11 f11 HLG10 HFR10 HT10 HT11 HFR11 HLG11
            rintro w12 ⟨hlg12, hfr12, hT12⟩
            have m4 : w12.cell? ⟨l, 4, none⟩ = some (.bool L.closed) := hlg12.cell 4
            have f12 : ∀ j, w12.frozen? ⟨l, j, none⟩ = false := fun j => hlg12.frozen j
            have hz9 : w9.heap.size ≤ w10.heap.size := hz910.out
            have HLG12 := Lib.hid hlg12
            have HFR12 := Lib.hid hfr12
            have HT12 := Lib.hid hT12
            clear hlg12 hfr12 hT12
            go_wp2
            go_ret2
            rw [HAJ2.out, hpush.out]
            refine ⟨rfl, append_end HG9.out HD9.out HL9.out HMF.out hfbw HB9.out (by omega) (HT12.out.setCell (fun _ => .inr (.inl rfl)) _) (CellsAt.set HLG12.out 4 _) (HFR12.out.kept (fun c hc => heap_setCell_other _ _ _ _ (fun e => hgl11 (hc.trans (congrArg some e))))) (HBK.out.imp id (fun ⟨c, h, h2⟩ => ⟨c, h, by omega⟩))⟩


          · have heb : (e9 == 0) = false := beq_eq_false_iff_ne.2 he
            go_wp2
            go_ret2
            rw [HAJ.out, if_neg he]
            exact ⟨rfl, M', sf', sn', g, HD9.out, HL9.out, HG9.out⟩


    · have hz0 : ((n : Int) == 0) = false := beq_eq_false_iff_ne.2 (by omega)
      have hem : Hid (L.files.isEmpty = false) := Lib.hid (by
        rw [List.isEmpty_eq_false_iff]
        intro h
        exact c1 (by rw [HN.out, h]; rfl))
      have C1 := Lib.hid c1
      clear c1
      by_cases c2 : L.most ≤ F0.size
      · have hge : decide (L.most ≤ F0.size) = true := decide_eq_true c2
        have hfr1 : Hid (freshL L = true) := Lib.hid (by unfold freshL; rw [hem.out, ← HF0.out, hge]; rfl)
        go_enter Tryz.func14, Tryz.ntmps14
        go_upto_region 5 with (first
          | (go_at_call 48; refine (HLAST.out _ (Step.refl _)).mono ?_; rintro e w1 ⟨rfl, hS1⟩; have HS1 := Lib.hid hS1; clear hS1)
          | (go_at_call 17; refine (HNEXT.out _ HS1.out).mono ?_; rintro e w2 ⟨rfl, hS2⟩; have HS2 := Lib.hid (HS1.out.trans hS2); clear hS2))
        refine wp_code (fun wx => CellsAt wx w2.heap.size (flV F0) 89 ∧ Step w wx ∧ wx.heap.size = w2.heap.size + 1) ⟨CellsAt.new rfl, HS2.out.trans stp, by simp⟩ ?_
        rintro w3 ⟨hb3, hS3, hz3⟩
        obtain ⟨fb, hfb⟩ : ∃ fb, fb = w2.heap.size := ⟨_, rfl⟩
        rw [← hfb] at hb3 hz3 ⊢
        have hfbl : l < fb := by have := HS2.out.size; omega
        have hfbw : w.heap.size ≤ fb := by have := HS2.out.size; omega
        have HB3 := Lib.hid hb3
        have HS3 := Lib.hid hS3
        have m0 : w3.cell? ⟨l, 0, none⟩ = some (.pointer (some ⟨b, 0, none⟩)) := (hS3.cell hllt 0).trans l0
        have m2 : w3.cell? ⟨l, 2, none⟩ = some (.int .i64 L.most) := (hS3.cell hllt 2).trans l2
        have m3 : w3.cell? ⟨l, 3, none⟩ = some (.slice fa n fc) := (hS3.cell hllt 3).trans l3
        have m4 : w3.cell? ⟨l, 4, none⟩ = some _ := (hS3.cell hllt 4).trans l4
        have k0 : w3.cell? ⟨fb, 0, none⟩ = some (.int .u64 (F0.serial : Int)) := hb3.cell 0
        have k1 : w3.cell? ⟨fb, 1, none⟩ = some (.int .u64 (F0.from_ : Int)) := hb3.cell 1
        have k2 : w3.cell? ⟨fb, 2, none⟩ = some (.int .u64 (F0.to_ : Int)) := hb3.cell 2
        have k3 : w3.cell? ⟨fb, 3, none⟩ = some (.int .i64 F0.size) := hb3.cell 3
        have g0 : ∀ j, w3.frozen? ⟨fb, j, none⟩ = false := fun j => hb3.frozen j
        clear hb3 hS3 HS1 HLAST HNEXT hfb
        go_quiet (fail)

        refine wp_at (fun wx => CellsAt wx fb (flV F0) 89 ∧ Step w wx ∧ fb < wx.heap.size) ⟨HB3.out, HS3.out.trans stp, by show fb < w3.heap.size; omega⟩ ?_
        clear k0 k1 k2 k3 g0 HB3 HS3 m0 m2 m3 m4
        rintro w4 ⟨hb4, hS4, hz4⟩
        have k0 : w4.cell? ⟨fb, 0, none⟩ = some (.int .u64 (F0.serial : Int)) := hb4.cell 0
        have k1 : w4.cell? ⟨fb, 1, none⟩ = some (.int .u64 (F0.from_ : Int)) := hb4.cell 1
        have k2 : w4.cell? ⟨fb, 2, none⟩ = some (.int .u64 (F0.to_ : Int)) := hb4.cell 2
        have k3 : w4.cell? ⟨fb, 3, none⟩ = some (.int .i64 F0.size) := hb4.cell 3
        have g0 : ∀ j, w4.frozen? ⟨fb, j, none⟩ = false := fun j => hb4.frozen j
        have hsw : IntKind.u64.wrap ((F0.serial : Int) + 1) = (F0.serial : Int) + 1 := by rw [IntKind.wrap_u64]; omega
        have HB4 := Lib.hid hb4
        have HS4 := Lib.hid hS4
        obtain ⟨F1, hF1⟩ : ∃ F1, F1 = openF L := ⟨_, rfl⟩
        have hF1e : F1 = ⟨F0.serial + 1, F0.to_, F0.to_, 0⟩ := by rw [hF1]; unfold openF; rw [if_pos hfr1.out, ← HF0.out]
        have HHEAD : Hid (∀ W : World, Calls Tryz.prog 49 #[.int .u64 ((F0.serial : Int) + 1), .int .u64 (F0.to_ : Int)] W fun e w' => ∃ v', e = .returned (.tuple #[v', .int .i64 0]) ∧ Gr.Own Ty.byte 5 w' (· < W.heap.size) W.heap.size v' (headL L) ∧ Step W w') := Lib.hid (fun W => by
          have h := jHead_ (w := W) (a := F0.serial + 1) (b := F0.to_) (by omega) hF0ok.2.2.1
          have e : headL L = headB (F0.serial + 1) F0.to_ := by unfold headL; rw [if_pos hfr1.out, ← hF1, hF1e, ← HF0.out]
          rw [e]
          simpa using h)
        have HF1 := Lib.hid hF1
        have HF1E := Lib.hid hF1e
        clear hF1 hF1e hb4 hS4
        go_upto_region 8 with fail
        refine wp_code (fun wx => CellsAt wx fb (flV F1) 89 ∧ Step w wx ∧ fb < wx.heap.size) ⟨?_, ?_, by simpa using hz4⟩ ?_
        · have h := CellsAt.set (CellsAt.set (CellsAt.set (CellsAt.set HB4.out 0 (.int .u64 ((F0.serial : Int) + 1))) 1 (.int .u64 (F0.to_ : Int))) 2 (.int .u64 (F0.to_ : Int))) 3 (.int .i64 0)
          rw [HF1E.out]
          exact h
        · have h := HS4.out
          (repeat (first | exact Step.refl _ | refine Step.alloc ?_ _ | refine Step.drew ?_ | refine Step.drewN ?_ _ | refine Step.setCell ?_ (by first | exact Nat.le_refl _ | assumption | omega | (simp; done) | (simp; omega)) _ | assumption | refine Step.trans ?_ (by assumption : Step _ _)))
        clear k0 k1 k2 k3 g0 HB4 HS4 hz4
        rintro w5 ⟨hb5, hS5, hz5⟩
        have k0 : w5.cell? ⟨fb, 0, none⟩ = some (.int .u64 (F1.serial : Int)) := hb5.cell 0
        have hk : (F1.serial : Int) = (F0.serial : Int) + 1 := by rw [HF1E.out]; simp
        rw [hk] at k0
        have HB5 := Lib.hid hb5
        have HS5 := Lib.hid hS5
        clear hb5 hS5 hk
        go_upto_region 9 with (go_at_call 49; refine (HHEAD.out _).mono ?_; rintro e w6 ⟨v6, rfl, hA6, hS6⟩; obtain ⟨ha, hn6, hc, rfl, HN6⟩ := hA6.valN; have HA6 := Lib.hid hA6; have HS6 := Lib.hid hS6; clear hA6 hS6)
        refine wp_code (fun wx => CellsAt wx fb (flV F1) 89 ∧ Step w wx ∧ Gr.Own Ty.byte 5 wx (· < w.heap.size) w.heap.size (.slice ha hn6 hc) (headL L) ∧ fb < wx.heap.size) ⟨CellsAt.step HB5.out HS6.out, HS5.out.trans HS6.out, Gr.Own.base (Gr.Own.flat Ty.flat_byte HA6.out) HS5.out.size, Nat.lt_of_lt_of_le hz5 HS6.out.size⟩ ?_
        have HNE7 : Hid (∀ g, (Value.slice ha hn6 hc).ownBlock = some g → g ≠ fb) := Lib.hid (fun g hg er => by have := (HA6.out.lt hg).1; omega)
        rintro w7 ⟨hb7, hS7, hA7, hz7⟩
        have HB7 := Lib.hid hb7
        have HS7 := Lib.hid hS7
        have HA7 := Lib.hid hA7
        clear hb7 hS7 hA7 HB5 HS5 k0 HA6 HS6 HN6 hz5 HHEAD
        go_wp2
        go_loopw [8, 70] (fun ov iv w' => ∃ k : Nat, iv = .int .i64 (k : Int) ∧ k ≤ recs.length ∧ Hid (∀ j (hj : j < recs.length), j < k → (recs[j]).length ≤ 1048576) ∧ Hid (Gr.Own Ty.byte 5 w' (· < w.heap.size) w.heap.size ov (headL L ++ sealsB (recs.take k))) ∧ Hid (CellsAt w' fb (flV F1) 89) ∧ Hid (∀ g, ov.ownBlock = some g → g ≠ fb) ∧ Hid (Step w w')) (fun _ iv _ => recs.length - (Go.RowKit.intOf iv).toNat)
        case atStart => exact ⟨0, rfl, Nat.zero_le _, Lib.hid (fun j hj h => absurd h (by omega)), Lib.hid (by simpa [sealsB] using HA7.out), HB7, HNE7, HS7⟩
        case round =>
          obtain ⟨k, rfl, hk, HSH, HA, HB, HNE, HS⟩ := hrel
          obtain ⟨oa, on, oc, rfl, HON⟩ := HA.out.valN
          have hzr : fb < wr.heap.size := HB.out.lt
          by_cases hlt : k < recs.length
          · have hd : decide ((k : Int) < (recs.length : Int)) = true := decide_eq_true (by omega)
            obtain ⟨b1, o1, u1, rfl, hb1, _, hu1, hc1⟩ := Ty.slice_at1 rfl (Ty.step _ HR.out HS.out) hlt
            obtain ⟨K, hK⟩ : ∃ K, K = recs[k] := ⟨_, rfl⟩
            rw [← hK] at hu1
            obtain ⟨va, vc, hvv, _, _, hvl⟩ := Ty.slice_val hu1
            obtain rfl : u1 = .slice va K.length vc := by simpa using hvv
            have HU := Lib.hid hu1
            have hmem : K ∈ recs := by rw [hK]; exact List.getElem_mem hlt
            clear hvv hu1
            by_cases hbig : 1048576 < K.length
            · have HAJ : Hid (appendJ pre D L recs = ((D, L), 0, 2)) := Lib.hid (by
                unfold appendJ
                rw [if_neg h0, if_pos]
                unfold tooLong
                exact List.any_eq_true.2 ⟨K, hmem, by simpa using hbig⟩)
              have HSB := Lib.hid (pySeal_big HU.out hbig)
              clear hmem hK hbig
              generalize K.length = KL at *
              go_wp2_with (go_at_call 50; refine HSB.out.mono ?_; rintro e w8 ⟨rfl, hw8⟩; subst w8)
              go_ret2
              rw [HAJ.out]
              exact ⟨rfl, M, sf, sn, g, HD.out.step HS.out, HL.out.step HS.out, (JGo.refl b l w M sf sn g).then HS.out⟩
            · have hKs : K.length ≤ 1048576 := by omega
              have HSB := Lib.hid (pySeal_ HU.out hKs)
              have HSH2 : Hid (∀ j (hj : j < recs.length), j < k + 1 → (recs[j]).length ≤ 1048576) := Lib.hid (fun j hj hlt2 => by
                rcases Nat.lt_or_ge j k with h | h
                · exact HSH.out j hj h
                · obtain rfl : j = k := by omega
                  rw [← hK]; exact hKs)
              have htk : Hid (headL L ++ sealsB (recs.take (k + 1)) = (headL L ++ sealsB (recs.take k)) ++ sealB K) := Lib.hid (by rw [sealsB_take hlt, hK, List.append_assoc])
              have hlt2 : Hid (k + 1 ≤ recs.length) := Lib.hid hlt
              have hkw : k + 1 < 9223372036854775807 := by have h := lim_eq; omega
              have hlm : Hid ((headL L ++ sealsB (recs.take k)).length + (sealB K).length ≤ lim) := Lib.hid (by rw [hK]; exact dataL_take HRJ.out.data hlt)
              clear hmem hK hbig HSH
              generalize K.length = KL at *
              go_wp2_with (first
                | (go_at_call 50; refine HSB.out.mono ?_; rintro e w8 ⟨v8, rfl, hA8, hS8⟩; obtain ⟨a8, n8, c8, rfl, HN8⟩ := hA8.valN; have HA8 := Lib.hid (Gr.Own.rep' hA8 (fun c hc hm => by have := (hA8.lt hc).1; omega)); have HA := Lib.hid (HA.out.step hS8); have HB := Lib.hid (CellsAt.step HB.out hS8); have HS := Lib.hid (HS.out.trans hS8); clear hA8 hS8)
                | (at_builtin; refine wpList_append_acc (w0 := w) (ys := sealB K) rfl (.tmp 82) (.tmp 83) rfl stBytes HS.out HA.out (Src.flat Ty.flat_byte HA8.out) hlm.out (by rfl) (by rfl) ?_; intro v9 w9 hA9 hB9 hG9 hn9; have HA9 := Lib.hid hA9; have HS9 := Lib.hid hB9; have HB9 : Hid (CellsAt w9 fb (flV F1) 89) := Lib.hid (HB.out.kept (hG9.block fb HB.out.lt (fun er => HNE.out _ er.symm rfl))); have HNE9 : Hid (∀ g, v9.ownBlock = some g → g ≠ fb) := Lib.hid (fun g hg er => by rcases hn9 with h | h; exact HNE.out g (by rw [← h]; exact hg) er; (rw [hg] at h; injection h with h; have := HB.out.lt; omega)); clear hA9 hB9 hG9 hn9))
              go_roundw
              case rel => exact ⟨k + 1, by go_num, hlt2.out, HSH2, by rw [htk.out]; exact HA9, HB9, HNE9, HS9⟩
              case measure => (have h2 := hlt2.out; simp [Go.RowKit.intOf]; omega)
          · have hd : decide ((k : Int) < (recs.length : Int)) = false := decide_eq_false (by omega)
            have hke : Hid (recs.take k = recs) := Lib.hid (List.take_of_length_le (by omega))
            have HTL : Hid (tooLong recs = false) := Lib.hid (by
              unfold tooLong
              rw [List.any_eq_false]
              intro r hr
              obtain ⟨j, hj, rfl⟩ := List.mem_iff_getElem.1 hr
              have := HSH.out j hj (by omega)
              simpa using this)
            rw [hke.out] at HA HON
            clear hke HSH
            go_upto_region 17 with fail
            obtain ⟨nm, hnm⟩ : ∃ nm, nm = nameB pre F1.serial := ⟨_, rfl⟩
            obtain ⟨D2, hD2⟩ : ∃ D2, D2 = (appendD D nm (dataL L recs)).1 := ⟨_, rfl⟩
            obtain ⟨e9, he9⟩ : ∃ e9, e9 = (appendD D nm (dataL L recs)).2 := ⟨_, rfl⟩
            have HAJ : Hid (appendJ pre D L recs = if e9 = 0 then ((D2, pushL L recs), F0.to_, 0) else ((D2, L), 0, e9)) := Lib.hid (by
              unfold appendJ
              rw [if_neg h0, if_neg (by rw [HTL.out]; simp), ← HF1.out, ← hnm, ← hD2, ← he9, ← HF0.out])
            have p0 : wr.cell? ⟨l, 0, none⟩ = some (.pointer (some ⟨b, 0, none⟩)) := (HS.out.cell hllt 0).trans l0
            have q0 : wr.cell? ⟨fb, 0, none⟩ = some (.int .u64 (F1.serial : Int)) := HB.out.cell 0
            have HNM : Hid (∀ W : World, Step wr W → Calls Tryz.prog 51 #[.pointer (some ⟨l, 0, none⟩), .int .u64 (F1.serial : Int)] W fun e w' => e = .returned (encStr nm) ∧ ∃ m, w' = W.drewN m) := Lib.hid (fun W hW => by
              obtain ⟨fv2, hlg2, _⟩ := HL.out.row
              rw [hnm]
              exact jName_ (CellsAt.step hlg2 (HS.out.trans hW)) (by rw [HF1.out]; exact HRJ.out.serial) (by have := HRJ.out.prel; omega))
            have HDF : Hid (∀ W : World, Step wr W → DriveAt W (fun c => M c ∨ c = fb) b sf sn D) := Lib.hid (fun W hW => by
              have hSW := HS.out.trans hW
              have hfz := Nat.lt_of_lt_of_le hzr hW.size
              refine HD.out.keep (fun c hc => ⟨hSW.heap (HD.out.lt hc), .inl (HD.out.own c hc)⟩) (fun c hc hn => ⟨hSW.heap hc, fun hx => hx.elim hn (fun e => by omega)⟩) (fun c hc => ?_)
              rcases hc with hc | rfl
              · exact Nat.lt_of_lt_of_le (HD.out.old c hc) hSW.size
              · exact hfz)
            have HAP : Hid (∀ W : World, Step wr W → Calls Tryz.prog 27 #[.pointer (some ⟨b, 0, none⟩), encStr nm, .slice oa on oc] W fun y w' => y = .returned (.int .i64 e9) ∧ ∃ M' sf' sn', DriveAt w' M' b sf' sn' D2 ∧ DGo b W (fun c => M c ∨ c = fb) sf sn w' M' sf' sn') := Lib.hid (fun W hW => by
              rw [hD2, he9]
              refine dAppend_ (M2 := fun _ => False) (HDF.out W hW) (Ty.step _ (Gr.Own.rep' (Gr.Own.flat Ty.flat_byte HA.out) (fun c hc hm => hm)) hW) ?_ HRJ.out.used HRJ.out.room0 HRJ.out.room1 ?_ HRJ.out.few
              · have := nameB_len pre F1.serial
                have := HRJ.out.prel
                rw [hnm]; omega
              · have h1 := HRJ.out.data
                have h2 := HRJ.out.file
                rw [← HF1.out, ← hnm] at h2
                omega)
            have HED := Lib.hid hD2
            have HON2 : Hid (on = (dataL L recs).length) := Lib.hid HON.out
            clear hnm hD2 he9 HON
            have hbl : b < w.heap.size := HD.out.lt (.inl rfl)
            refine wp_region_cut (S := (fun w' => w'.cell? ⟨l, 0, none⟩ = some (.pointer (some ⟨b, 0, none⟩)) ∧ w'.cell? ⟨fb, 0, none⟩ = some (.int .u64 (F1.serial : Int)))) 9 (by kernel_rfl) ?_ (fun hHeld => ?_)
            · (go_keep)
            refine tkC 0 [1, 2, 3, 9, 10] ?_
            try simp only [Act.put, gtA, gtB, gtC, gtD, gtE, gtF]
            refine tkC 1 [2, 3, 9, 10] ?_
            try simp only [Act.put, gtA, gtB, gtC, gtD, gtE, gtF]
            refine tkC 2 [3, 9, 10] ?_
            try simp only [Act.put, gtA, gtB, gtC, gtD, gtE, gtF]
            refine tkC 3 [9, 10] ?_
            try simp only [Act.put, gtA, gtB, gtC, gtD, gtE, gtF]
            refine tkC 4 [7, 9, 10] ?_
            try simp only [Act.put, gtA, gtB, gtC, gtD, gtE, gtF]
            refine tkC 5 [6, 7, 9, 10] ?_
            try simp only [Act.put, gtA, gtB, gtC, gtD, gtE, gtF]
            refine tkC 6 [7, 9, 10] ?_
            try simp only [Act.put, gtA, gtB, gtC, gtD, gtE, gtF]
            refine tkC 8 [9, 10] ?_
            try simp only [Act.put, gtA, gtB, gtC, gtD, gtE, gtF]
            refine rdC (rs := [7]) (.cons rfl (by decide) (fun K hK => ?_) .nil)
            try simp only [gtA, gtB, gtC]
            go_simp
            (go_at_call 51; refine (HNM.out _ stp).mono ?_; rintro e w8 ⟨rfl, m8, rfl⟩)
            refine hK.out _ _ ?_ (fun hHeld => ?_)
            · (go_keep)
            clear hK K
            try simp only [Act.put, gtA, gtB, gtC, gtD, gtE, gtF]
            refine rdC (rs := [9]) (.cut rfl (fun K hK => ?_))
            try simp only [gtA, gtB, gtC]
            go_simp
            (go_at_call 27; refine (HAP.out _ stp).mono ?_; rintro e w9 ⟨rfl, M', sf', sn', hD9, hG9⟩)
            refine hK.out _ _ trivial (fun hHeld => ?_)
            clear hK K
            try simp only [Act.put, gtA, gtB, gtC, gtD, gtE, gtF]
            have hTrue : True := trivial
            refine tkH 10 ?_
            try simp only [Act.put, gtA, gtB, gtC, gtD, gtE, gtF]
            refine wpAnyH_done (by kernel_rfl) ?_ _
            have HG9 := Lib.hid (JGo.fromD (l := l) (M := M) (w := w) g (HS.out.trans stp) (fun c hc => .inl hc) (fun c hc hx => hx.elim id (fun e => by omega)) hG9)
            have HL9 := Lib.hid (LogAt.beside ((HL.out.step (HS.out.trans stp)).mono (fun c hc => .inl hc)) (HDF.out _ stp) hG9)
            have HB9 : Hid (CellsAt w9 fb (flV F1) 89) := Lib.hid (by
              have h1 := CellsAt.step HB.out (stp : Step wr (wr.drewN (1 + m8)))
              have hlt9 := h1.lt
              exact h1.kept (hG9.turn.block fb h1.lt (fun hx => hx.elim (fun h => by omega) ((HDF.out _ stp).notDM (l := fb) h1 (by omega)))))
            have HMF : Hid (M' fb) := Lib.hid (hG9.more fb (.inr rfl))
            have HD9 := Lib.hid hD9
            clear hD9 hG9 HNM HAP HDF p0 q0 HA HNE HB HS hzr
            by_cases he : e9 = 0
            · subst he
              have HAJ2 := Lib.hid (HAJ.out.trans (if_pos rfl))
              clear HAJ
              have k0 : w9.cell? ⟨fb, 0, none⟩ = some (.int .u64 (F1.serial : Int)) := HB9.out.cell 0
              have k1 : w9.cell? ⟨fb, 1, none⟩ = some (.int .u64 (F1.from_ : Int)) := HB9.out.cell 1
              have k2 : w9.cell? ⟨fb, 2, none⟩ = some (.int .u64 (F1.to_ : Int)) := HB9.out.cell 2
              have k3 : w9.cell? ⟨fb, 3, none⟩ = some (.int .i64 F1.size) := HB9.out.cell 3
              have g0 : ∀ j, w9.frozen? ⟨fb, j, none⟩ = false := fun j => HB9.out.frozen j
              have hszr := HRJ.out.size
              have hto := HRJ.out.to_
              rw [← HF1.out, ← HON2.out] at hszr
              rw [← openF_to, ← HF1.out] at hto
              have hw1 : IntKind.i64.wrap (F1.size + (on : Int)) = F1.size + (on : Int) := by rw [IntKind.wrap_i64]; omega
              have hw2 : IntKind.u64.wrap (recs.length : Int) = (recs.length : Int) := by rw [IntKind.wrap_u64]; omega
              have hw3 : IntKind.u64.wrap ((F1.to_ : Int) + (recs.length : Int)) = (F1.to_ : Int) + (recs.length : Int) := by rw [IntKind.wrap_u64]; omega
              go_upto_region 23 with fail
              obtain ⟨F2, hF2⟩ : ∃ F2, F2 = grownF L recs := ⟨_, rfl⟩
              have hF2e : F2 = ⟨F1.serial, F1.from_, F1.to_ + recs.length, F1.size + on⟩ := by rw [hF2, HON2.out, HF1.out]; rfl
              have hpush : Hid (pushL L recs = { L with files := L.files ++ [F2], closed := false }) := Lib.hid (by rw [hF2]; unfold pushL; rw [hfr1.out]; rfl)
              have hser := HRJ.out.serial
              have hfew := HRJ.out.files
              rw [← HF1.out] at hser
              have hF1f : F1.from_ < 18446744073709551616 := by rw [HF1E.out]; exact hF0ok.2.2.1
              have hF2ok : F2.Ok := by rw [hF2e]; exact ⟨by show F1.serial < 1000; omega, hF1f, hto, by show 0 ≤ F1.size + (on : Int) ∧ F1.size + (on : Int) ≤ 1152921504606846976; omega⟩
              refine wp_code (fun wx => CellsAt wx fb (flV F2) 89 ∧ Turn (· = fb) w9 wx) ⟨?_, ?_⟩ ?_
              · have h := CellsAt.set (CellsAt.set HB9.out 3 (.int .i64 (F1.size + (on : Int)))) 2 (.int .u64 ((F1.to_ : Int) + (recs.length : Int)))
                rw [hF2e]
                exact h
              · refine Turn.setCell (M := fun x => x = fb) (Turn.setCell (M := fun x => x = fb) (Turn.refl _ w9) (fun _ => ?_) _) (fun _ => ?_) _ <;> rfl
              clear k0 k1 k2 k3 g0 hF2 hF2e hw1 hw2 hw3
              rintro w10 ⟨hb10, hT10⟩
              have hgf : ∀ c, g = some c → c < w.heap.size ∧ c ≠ fb ∧ c ≠ l ∧ c ≠ b := fun c hc => by
                obtain ⟨fv, _, hfr, hgb2⟩ := HL.out.row
                have h1 := hfr.lt (hgb2.trans hc)
                exact ⟨h1, by omega, (HL.out.gown c hc).2⟩
              obtain ⟨fv9, hlg9, hfr9, hgb9⟩ := HL9.out.row
              obtain ⟨a9, c9, rfl⟩ := hfr9.val
              have hlg10 := hlg9.kept (hT10.block l hlg9.lt (fun e => by omega))
              have hfr10 := hfr9.kept (fun c hc => hT10.block c (hfr9.lt hc) (hgf c (hgb9.symm.trans hc)).2.1)
              have m3 : w10.cell? ⟨l, 3, none⟩ = some (.slice a9 L.files.length c9) := hlg10.cell 3
              have k0 : w10.cell? ⟨fb, 0, none⟩ = some (.int .u64 (F2.serial : Int)) := hb10.cell 0
              have k1 : w10.cell? ⟨fb, 1, none⟩ = some (.int .u64 (F2.from_ : Int)) := hb10.cell 1
              have k2 : w10.cell? ⟨fb, 2, none⟩ = some (.int .u64 (F2.to_ : Int)) := hb10.cell 2
              have k3 : w10.cell? ⟨fb, 3, none⟩ = some (.int .i64 F2.size) := hb10.cell 3
              have hl10 : l < w10.heap.size := hlg10.lt
              have hfb10 : fb < w10.heap.size := hb10.lt
              have HLG10 := Lib.hid hlg10
              have HFR10 := Lib.hid hfr10
              have HT10 := Lib.hid hT10
              have hz910 := Lib.hid hT10.size
              clear hlg9 hfr9 hlg10 hfr10 hb10 hT10
              refine wp_region_cut (S := (fun w' => w'.cell? ⟨l, 3, none⟩ = some (.slice a9 L.files.length c9) ∧ w'.cell? ⟨fb, 0, none⟩ = some (.int .u64 (F2.serial : Int)) ∧ w'.cell? ⟨fb, 1, none⟩ = some (.int .u64 (F2.from_ : Int)) ∧ w'.cell? ⟨fb, 2, none⟩ = some (.int .u64 (F2.to_ : Int)) ∧ w'.cell? ⟨fb, 3, none⟩ = some (.int .i64 F2.size))) 10 (by kernel_rfl) ?_ (fun hHeld => ?_)
              · (go_keep)
              refine tkC 0 [8, 9, 10] ?_
              try simp only [Act.put, gtA, gtB, gtC, gtD, gtE, gtF]
              refine tkC 1 [2, 3, 4, 7, 8, 9, 10] ?_
              try simp only [Act.put, gtA, gtB, gtC, gtD, gtE, gtF]
              refine tkC 2 [3, 4, 7, 8, 9, 10] ?_
              try simp only [Act.put, gtA, gtB, gtC, gtD, gtE, gtF]
              refine tkC 3 [4, 7, 8, 9, 10] ?_
              try simp only [Act.put, gtA, gtB, gtC, gtD, gtE, gtF]
              refine tkC 4 [7, 8, 9, 10] ?_
              try simp only [Act.put, gtA, gtB, gtC, gtD, gtE, gtF]
              refine tkC 5 [6, 7, 8, 9, 10] ?_
              try simp only [Act.put, gtA, gtB, gtC, gtD, gtE, gtF]
              refine rdC (rs := [6]) (.cons rfl (by decide) (fun K hK => ?_) .nil)
              try simp only [gtA, gtB, gtC]
              go_simp
              refine hK.out _ _ ?_ (fun hHeld => ?_)
              · (go_keep)
              clear hK K
              try simp only [Act.put, gtA, gtB, gtC, gtD, gtE, gtF]
              refine rdC (rs := [7]) (.cons rfl (by decide) (fun K hK => ?_) .nil)
              try simp only [gtA, gtB, gtC]
              refine ite_then rfl ?_; refine wp_append_file (fs := L.files) (f := F2) (v := .slice a9 L.files.length c9) (.tmp 119) (.tmp 121) rfl (FRow.step HFR10.out stp) hF2ok hfew ?_ rfl rfl ?_; (intro j u hj; exact (CellsAt.cell (CellsAt.step (CellsAt.new (w := w10) (cs := flV F2) (e := 89) rfl) stp) j).trans (by rcases j with _ | _ | _ | _ | j <;> first | (simp at hj; done) | simpa using hj)); intro v11 w11 hFR11 hT11 hbk; obtain ⟨a11, c11, rfl⟩ := hFR11.val; have HT11 : Hid (Turn (fun c => blkOf (.slice a9 L.files.length c9) = some c) w10 w11) := Lib.hid ((Turn.of stp).trans hT11); have HFR11 := Lib.hid hFR11; have HBK : Hid (blkOf (.slice a11 (L.files ++ [F2]).length c11) = g ∨ ∃ c, blkOf (.slice a11 (L.files ++ [F2]).length c11) = some c ∧ w10.heap.size ≤ c) := Lib.hid (hbk.imp (fun h => h.trans hgb9) (fun h => ⟨_, h, by simp⟩)); have HLG11 := Lib.hid (HLG10.out.kept (HT11.out.block l hl10 (fun e => (hgf l (hgb9.symm.trans e)).2.2.1 rfl))); have s11 : ∀ j, w11.cell? ⟨l, j, none⟩ = w10.cell? ⟨l, j, none⟩ := fun j => HT11.out.cell hl10 (fun e => (hgf l (hgb9.symm.trans e)).2.2.1 rfl) j; have t11 : ∀ j, w11.cell? ⟨fb, j, none⟩ = w10.cell? ⟨fb, j, none⟩ := fun j => HT11.out.cell hfb10 (fun e => (hgf fb (hgb9.symm.trans e)).2.1 rfl) j; have f11 : ∀ j, w11.frozen? ⟨l, j, none⟩ = false := fun j => HLG11.out.frozen j; clear hFR11 hT11 hbk
              refine hK.out _ _ ?_ (fun hHeld => ?_)
              · (go_keep)
              clear hK K
              try simp only [Act.put, gtA, gtB, gtC, gtD, gtE, gtF]
              refine tkC 8 [9, 10] ?_
              try simp only [Act.put, gtA, gtB, gtC, gtD, gtE, gtF]
              refine tkC 9 [10] ?_
              try simp only [Act.put, gtA, gtB, gtC, gtD, gtE, gtF]
              refine rdC (rs := [10]) (.cut rfl (fun K hK => ?_))
              try simp only [gtA, gtB, gtC]
              go_simp
              refine hK.out _ _ trivial (fun hHeld => ?_)
              clear hK K
              try simp only [Act.put, gtA, gtB, gtC, gtD, gtE, gtF]
              have hTrue : True := trivial
              refine wpAnyH_done (by kernel_rfl) ?_ _
              have hgl11 : blkOf (.slice a11 (L.files ++ [F2]).length c11) ≠ some l := fun e => by
                rcases HBK.out with h | ⟨c, h, h2⟩
                · exact (hgf l (h.symm.trans e)).2.2.1 rfl
                · rw [h] at e
                  injection e with e
                  omega
              refine wp_at (fun wx => LgAt wx l b pre L.most (.slice a11 (L.files.length + 1) c11) L.closed ∧ FRow wx (.slice a11 (L.files.length + 1) c11) (L.files ++ [F2]) ∧ Turn (fun c => c = fb ∨ c = l ∨ g = some c) w9 wx) ⟨?_, ?_, ?_⟩ ?_
              · exact CellsAt.set HLG11.out 3 _
              · have h := HFR11.out.kept (w' := w11.setCell ⟨l, 3, none⟩ (.slice a11 (L.files.length + 1) c11)) (fun c hc => heap_setCell_other _ _ _ _ (fun e => hgl11 (hc.trans (congrArg some e))))
                rw [List.length_append, List.length_singleton] at h
                exact h
              · refine Turn.setCell (Turn.trans (HT10.out.mono fun c _ h => .inl h) (HT11.out.mono fun c _ h => .inr (.inr (hgb9.symm.trans h)))) (fun _ => .inr (.inl rfl)) _
              rw [List.length_append, List.length_singleton] at HBK hgl11
              clear m3 k0 k1 k2 k3 s11 t11 f11 HLG10 HFR10 HT10 HT11 HFR11 HLG11
              rintro w12 ⟨hlg12, hfr12, hT12⟩
              have m4 : w12.cell? ⟨l, 4, none⟩ = some (.bool L.closed) := hlg12.cell 4
              have f12 : ∀ j, w12.frozen? ⟨l, j, none⟩ = false := fun j => hlg12.frozen j
              have hz9 : w9.heap.size ≤ w10.heap.size := hz910.out
              have HLG12 := Lib.hid hlg12
              have HFR12 := Lib.hid hfr12
              have HT12 := Lib.hid hT12
              clear hlg12 hfr12 hT12
              go_wp2
              go_ret2
              rw [HAJ2.out, hpush.out]
              refine ⟨rfl, append_end HG9.out HD9.out HL9.out HMF.out hfbw HB9.out (by omega) (HT12.out.setCell (fun _ => .inr (.inl rfl)) _) (CellsAt.set HLG12.out 4 _) (HFR12.out.kept (fun c hc => heap_setCell_other _ _ _ _ (fun e => hgl11 (hc.trans (congrArg some e))))) (HBK.out.imp id (fun ⟨c, h, h2⟩ => ⟨c, h, by omega⟩))⟩


            · have heb : (e9 == 0) = false := beq_eq_false_iff_ne.2 he
              go_wp2
              go_ret2
              rw [HAJ.out, if_neg he]
              exact ⟨rfl, M', sf', sn', g, HD9.out, HL9.out, HG9.out⟩


      · have hge : decide (L.most ≤ F0.size) = false := decide_eq_false c2
        cases CL
        · have hfr1 : Hid (freshL L = false) := Lib.hid (by unfold freshL; rw [hem.out, ← HF0.out, hge, ← HCL.out]; rfl)
          go_enter Tryz.func14, Tryz.ntmps14
          go_upto_region 5 with (first
            | (go_at_call 48; refine (HLAST.out _ (Step.refl _)).mono ?_; rintro e w1 ⟨rfl, hS1⟩; have HS1 := Lib.hid hS1; clear hS1)
            | (go_at_call 17; refine (HNEXT.out _ HS1.out).mono ?_; rintro e w2 ⟨rfl, hS2⟩; have HS2 := Lib.hid (HS1.out.trans hS2); clear hS2))
          refine wp_code (fun wx => CellsAt wx w2.heap.size (flV F0) 89 ∧ Step w wx ∧ wx.heap.size = w2.heap.size + 1) ⟨CellsAt.new rfl, HS2.out.trans stp, by simp⟩ ?_
          rintro w3 ⟨hb3, hS3, hz3⟩
          obtain ⟨fb, hfb⟩ : ∃ fb, fb = w2.heap.size := ⟨_, rfl⟩
          rw [← hfb] at hb3 hz3 ⊢
          have hfbl : l < fb := by have := HS2.out.size; omega
          have hfbw : w.heap.size ≤ fb := by have := HS2.out.size; omega
          have HB3 := Lib.hid hb3
          have HS3 := Lib.hid hS3
          have m0 : w3.cell? ⟨l, 0, none⟩ = some (.pointer (some ⟨b, 0, none⟩)) := (hS3.cell hllt 0).trans l0
          have m2 : w3.cell? ⟨l, 2, none⟩ = some (.int .i64 L.most) := (hS3.cell hllt 2).trans l2
          have m3 : w3.cell? ⟨l, 3, none⟩ = some (.slice fa n fc) := (hS3.cell hllt 3).trans l3
          have m4 : w3.cell? ⟨l, 4, none⟩ = some _ := (hS3.cell hllt 4).trans l4
          have k0 : w3.cell? ⟨fb, 0, none⟩ = some (.int .u64 (F0.serial : Int)) := hb3.cell 0
          have k1 : w3.cell? ⟨fb, 1, none⟩ = some (.int .u64 (F0.from_ : Int)) := hb3.cell 1
          have k2 : w3.cell? ⟨fb, 2, none⟩ = some (.int .u64 (F0.to_ : Int)) := hb3.cell 2
          have k3 : w3.cell? ⟨fb, 3, none⟩ = some (.int .i64 F0.size) := hb3.cell 3
          have g0 : ∀ j, w3.frozen? ⟨fb, j, none⟩ = false := fun j => hb3.frozen j
          clear hb3 hS3 HS1 HLAST HNEXT hfb
          go_quiet (fail)

          refine wp_at (fun wx => CellsAt wx fb (flV F0) 89 ∧ Step w wx ∧ fb < wx.heap.size) ⟨HB3.out, HS3.out.trans stp, by show fb < w3.heap.size; omega⟩ ?_
          clear k0 k1 k2 k3 g0 HB3 HS3 m0 m2 m3 m4
          rintro w7 ⟨hb7, hS7, hz7⟩
          obtain ⟨F1, hF1⟩ : ∃ F1, F1 = openF L := ⟨_, rfl⟩
          have hF1e : F1 = F0 := by rw [hF1]; unfold openF; rw [if_neg (by rw [hfr1.out]; simp), ← HF0.out]
          have hhd : headL L = [] := by unfold headL; rw [if_neg (by rw [hfr1.out]; simp)]
          rw [← hF1e] at hb7
          have HF1 := Lib.hid hF1
          have HF1E := Lib.hid hF1e
          have HB7 := Lib.hid hb7
          have HS7 := Lib.hid hS7
          have HA7 : Hid (Gr.Own Ty.byte 5 w7 (· < w.heap.size) w.heap.size (.slice none 0 0) (headL L)) := Lib.hid (by rw [hhd]; exact Gr.Own.nil)
          have HNE7 : Hid (∀ g, (Value.slice none 0 0).ownBlock = some g → g ≠ fb) := Lib.hid (fun g h => by cases h)
          clear hF1 hF1e hb7 hS7 hhd
          simp only [show ((recs.length : Int) == 0) = false from beq_eq_false_iff_ne.2 (by omega)]
          go_wp2
          go_loopw [8, 70] (fun ov iv w' => ∃ k : Nat, iv = .int .i64 (k : Int) ∧ k ≤ recs.length ∧ Hid (∀ j (hj : j < recs.length), j < k → (recs[j]).length ≤ 1048576) ∧ Hid (Gr.Own Ty.byte 5 w' (· < w.heap.size) w.heap.size ov (headL L ++ sealsB (recs.take k))) ∧ Hid (CellsAt w' fb (flV F1) 89) ∧ Hid (∀ g, ov.ownBlock = some g → g ≠ fb) ∧ Hid (Step w w')) (fun _ iv _ => recs.length - (Go.RowKit.intOf iv).toNat)
          case atStart => exact ⟨0, rfl, Nat.zero_le _, Lib.hid (fun j hj h => absurd h (by omega)), Lib.hid (by simpa [sealsB] using HA7.out), HB7, HNE7, HS7⟩
          case round =>
            obtain ⟨k, rfl, hk, HSH, HA, HB, HNE, HS⟩ := hrel
            obtain ⟨oa, on, oc, rfl, HON⟩ := HA.out.valN
            have hzr : fb < wr.heap.size := HB.out.lt
            by_cases hlt : k < recs.length
            · have hd : decide ((k : Int) < (recs.length : Int)) = true := decide_eq_true (by omega)
              obtain ⟨b1, o1, u1, rfl, hb1, _, hu1, hc1⟩ := Ty.slice_at1 rfl (Ty.step _ HR.out HS.out) hlt
              obtain ⟨K, hK⟩ : ∃ K, K = recs[k] := ⟨_, rfl⟩
              rw [← hK] at hu1
              obtain ⟨va, vc, hvv, _, _, hvl⟩ := Ty.slice_val hu1
              obtain rfl : u1 = .slice va K.length vc := by simpa using hvv
              have HU := Lib.hid hu1
              have hmem : K ∈ recs := by rw [hK]; exact List.getElem_mem hlt
              clear hvv hu1
              by_cases hbig : 1048576 < K.length
              · have HAJ : Hid (appendJ pre D L recs = ((D, L), 0, 2)) := Lib.hid (by
                  unfold appendJ
                  rw [if_neg h0, if_pos]
                  unfold tooLong
                  exact List.any_eq_true.2 ⟨K, hmem, by simpa using hbig⟩)
                have HSB := Lib.hid (pySeal_big HU.out hbig)
                clear hmem hK hbig
                generalize K.length = KL at *
                go_wp2_with (go_at_call 50; refine HSB.out.mono ?_; rintro e w8 ⟨rfl, hw8⟩; subst w8)
                go_ret2
                rw [HAJ.out]
                exact ⟨rfl, M, sf, sn, g, HD.out.step HS.out, HL.out.step HS.out, (JGo.refl b l w M sf sn g).then HS.out⟩
              · have hKs : K.length ≤ 1048576 := by omega
                have HSB := Lib.hid (pySeal_ HU.out hKs)
                have HSH2 : Hid (∀ j (hj : j < recs.length), j < k + 1 → (recs[j]).length ≤ 1048576) := Lib.hid (fun j hj hlt2 => by
                  rcases Nat.lt_or_ge j k with h | h
                  · exact HSH.out j hj h
                  · obtain rfl : j = k := by omega
                    rw [← hK]; exact hKs)
                have htk : Hid (headL L ++ sealsB (recs.take (k + 1)) = (headL L ++ sealsB (recs.take k)) ++ sealB K) := Lib.hid (by rw [sealsB_take hlt, hK, List.append_assoc])
                have hlt2 : Hid (k + 1 ≤ recs.length) := Lib.hid hlt
                have hkw : k + 1 < 9223372036854775807 := by have h := lim_eq; omega
                have hlm : Hid ((headL L ++ sealsB (recs.take k)).length + (sealB K).length ≤ lim) := Lib.hid (by rw [hK]; exact dataL_take HRJ.out.data hlt)
                clear hmem hK hbig HSH
                generalize K.length = KL at *
                go_wp2_with (first
                  | (go_at_call 50; refine HSB.out.mono ?_; rintro e w8 ⟨v8, rfl, hA8, hS8⟩; obtain ⟨a8, n8, c8, rfl, HN8⟩ := hA8.valN; have HA8 := Lib.hid (Gr.Own.rep' hA8 (fun c hc hm => by have := (hA8.lt hc).1; omega)); have HA := Lib.hid (HA.out.step hS8); have HB := Lib.hid (CellsAt.step HB.out hS8); have HS := Lib.hid (HS.out.trans hS8); clear hA8 hS8)
                  | (at_builtin; refine wpList_append_acc (w0 := w) (ys := sealB K) rfl (.tmp 82) (.tmp 83) rfl stBytes HS.out HA.out (Src.flat Ty.flat_byte HA8.out) hlm.out (by rfl) (by rfl) ?_; intro v9 w9 hA9 hB9 hG9 hn9; have HA9 := Lib.hid hA9; have HS9 := Lib.hid hB9; have HB9 : Hid (CellsAt w9 fb (flV F1) 89) := Lib.hid (HB.out.kept (hG9.block fb HB.out.lt (fun er => HNE.out _ er.symm rfl))); have HNE9 : Hid (∀ g, v9.ownBlock = some g → g ≠ fb) := Lib.hid (fun g hg er => by rcases hn9 with h | h; exact HNE.out g (by rw [← h]; exact hg) er; (rw [hg] at h; injection h with h; have := HB.out.lt; omega)); clear hA9 hB9 hG9 hn9))
                go_roundw
                case rel => exact ⟨k + 1, by go_num, hlt2.out, HSH2, by rw [htk.out]; exact HA9, HB9, HNE9, HS9⟩
                case measure => (have h2 := hlt2.out; simp [Go.RowKit.intOf]; omega)
            · have hd : decide ((k : Int) < (recs.length : Int)) = false := decide_eq_false (by omega)
              have hke : Hid (recs.take k = recs) := Lib.hid (List.take_of_length_le (by omega))
              have HTL : Hid (tooLong recs = false) := Lib.hid (by
                unfold tooLong
                rw [List.any_eq_false]
                intro r hr
                obtain ⟨j, hj, rfl⟩ := List.mem_iff_getElem.1 hr
                have := HSH.out j hj (by omega)
                simpa using this)
              rw [hke.out] at HA HON
              clear hke HSH
              go_upto_region 17 with fail
              obtain ⟨nm, hnm⟩ : ∃ nm, nm = nameB pre F1.serial := ⟨_, rfl⟩
              obtain ⟨D2, hD2⟩ : ∃ D2, D2 = (appendD D nm (dataL L recs)).1 := ⟨_, rfl⟩
              obtain ⟨e9, he9⟩ : ∃ e9, e9 = (appendD D nm (dataL L recs)).2 := ⟨_, rfl⟩
              have HAJ : Hid (appendJ pre D L recs = if e9 = 0 then ((D2, pushL L recs), F0.to_, 0) else ((D2, L), 0, e9)) := Lib.hid (by
                unfold appendJ
                rw [if_neg h0, if_neg (by rw [HTL.out]; simp), ← HF1.out, ← hnm, ← hD2, ← he9, ← HF0.out])
              have p0 : wr.cell? ⟨l, 0, none⟩ = some (.pointer (some ⟨b, 0, none⟩)) := (HS.out.cell hllt 0).trans l0
              have q0 : wr.cell? ⟨fb, 0, none⟩ = some (.int .u64 (F1.serial : Int)) := HB.out.cell 0
              have HNM : Hid (∀ W : World, Step wr W → Calls Tryz.prog 51 #[.pointer (some ⟨l, 0, none⟩), .int .u64 (F1.serial : Int)] W fun e w' => e = .returned (encStr nm) ∧ ∃ m, w' = W.drewN m) := Lib.hid (fun W hW => by
                obtain ⟨fv2, hlg2, _⟩ := HL.out.row
                rw [hnm]
                exact jName_ (CellsAt.step hlg2 (HS.out.trans hW)) (by rw [HF1.out]; exact HRJ.out.serial) (by have := HRJ.out.prel; omega))
              have HDF : Hid (∀ W : World, Step wr W → DriveAt W (fun c => M c ∨ c = fb) b sf sn D) := Lib.hid (fun W hW => by
                have hSW := HS.out.trans hW
                have hfz := Nat.lt_of_lt_of_le hzr hW.size
                refine HD.out.keep (fun c hc => ⟨hSW.heap (HD.out.lt hc), .inl (HD.out.own c hc)⟩) (fun c hc hn => ⟨hSW.heap hc, fun hx => hx.elim hn (fun e => by omega)⟩) (fun c hc => ?_)
                rcases hc with hc | rfl
                · exact Nat.lt_of_lt_of_le (HD.out.old c hc) hSW.size
                · exact hfz)
              have HAP : Hid (∀ W : World, Step wr W → Calls Tryz.prog 27 #[.pointer (some ⟨b, 0, none⟩), encStr nm, .slice oa on oc] W fun y w' => y = .returned (.int .i64 e9) ∧ ∃ M' sf' sn', DriveAt w' M' b sf' sn' D2 ∧ DGo b W (fun c => M c ∨ c = fb) sf sn w' M' sf' sn') := Lib.hid (fun W hW => by
                rw [hD2, he9]
                refine dAppend_ (M2 := fun _ => False) (HDF.out W hW) (Ty.step _ (Gr.Own.rep' (Gr.Own.flat Ty.flat_byte HA.out) (fun c hc hm => hm)) hW) ?_ HRJ.out.used HRJ.out.room0 HRJ.out.room1 ?_ HRJ.out.few
                · have := nameB_len pre F1.serial
                  have := HRJ.out.prel
                  rw [hnm]; omega
                · have h1 := HRJ.out.data
                  have h2 := HRJ.out.file
                  rw [← HF1.out, ← hnm] at h2
                  omega)
              have HED := Lib.hid hD2
              have HON2 : Hid (on = (dataL L recs).length) := Lib.hid HON.out
              clear hnm hD2 he9 HON
              have hbl : b < w.heap.size := HD.out.lt (.inl rfl)
              refine wp_region_cut (S := (fun w' => w'.cell? ⟨l, 0, none⟩ = some (.pointer (some ⟨b, 0, none⟩)) ∧ w'.cell? ⟨fb, 0, none⟩ = some (.int .u64 (F1.serial : Int)))) 9 (by kernel_rfl) ?_ (fun hHeld => ?_)
              · (go_keep)
              refine tkC 0 [1, 2, 3, 9, 10] ?_
              try simp only [Act.put, gtA, gtB, gtC, gtD, gtE, gtF]
              refine tkC 1 [2, 3, 9, 10] ?_
              try simp only [Act.put, gtA, gtB, gtC, gtD, gtE, gtF]
              refine tkC 2 [3, 9, 10] ?_
              try simp only [Act.put, gtA, gtB, gtC, gtD, gtE, gtF]
              refine tkC 3 [9, 10] ?_
              try simp only [Act.put, gtA, gtB, gtC, gtD, gtE, gtF]
              refine tkC 4 [7, 9, 10] ?_
              try simp only [Act.put, gtA, gtB, gtC, gtD, gtE, gtF]
              refine tkC 5 [6, 7, 9, 10] ?_
              try simp only [Act.put, gtA, gtB, gtC, gtD, gtE, gtF]
              refine tkC 6 [7, 9, 10] ?_
              try simp only [Act.put, gtA, gtB, gtC, gtD, gtE, gtF]
              refine tkC 8 [9, 10] ?_
              try simp only [Act.put, gtA, gtB, gtC, gtD, gtE, gtF]
              refine rdC (rs := [7]) (.cons rfl (by decide) (fun K hK => ?_) .nil)
              try simp only [gtA, gtB, gtC]
              go_simp
              (go_at_call 51; refine (HNM.out _ stp).mono ?_; rintro e w8 ⟨rfl, m8, rfl⟩)
              refine hK.out _ _ ?_ (fun hHeld => ?_)
              · (go_keep)
              clear hK K
              try simp only [Act.put, gtA, gtB, gtC, gtD, gtE, gtF]
              refine rdC (rs := [9]) (.cut rfl (fun K hK => ?_))
              try simp only [gtA, gtB, gtC]
              go_simp
              (go_at_call 27; refine (HAP.out _ stp).mono ?_; rintro e w9 ⟨rfl, M', sf', sn', hD9, hG9⟩)
              refine hK.out _ _ trivial (fun hHeld => ?_)
              clear hK K
              try simp only [Act.put, gtA, gtB, gtC, gtD, gtE, gtF]
              have hTrue : True := trivial
              refine tkH 10 ?_
              try simp only [Act.put, gtA, gtB, gtC, gtD, gtE, gtF]
              refine wpAnyH_done (by kernel_rfl) ?_ _
              have HG9 := Lib.hid (JGo.fromD (l := l) (M := M) (w := w) g (HS.out.trans stp) (fun c hc => .inl hc) (fun c hc hx => hx.elim id (fun e => by omega)) hG9)
              have HL9 := Lib.hid (LogAt.beside ((HL.out.step (HS.out.trans stp)).mono (fun c hc => .inl hc)) (HDF.out _ stp) hG9)
              have HB9 : Hid (CellsAt w9 fb (flV F1) 89) := Lib.hid (by
                have h1 := CellsAt.step HB.out (stp : Step wr (wr.drewN (1 + m8)))
                have hlt9 := h1.lt
                exact h1.kept (hG9.turn.block fb h1.lt (fun hx => hx.elim (fun h => by omega) ((HDF.out _ stp).notDM (l := fb) h1 (by omega)))))
              have HMF : Hid (M' fb) := Lib.hid (hG9.more fb (.inr rfl))
              have HD9 := Lib.hid hD9
              clear hD9 hG9 HNM HAP HDF p0 q0 HA HNE HB HS hzr
              by_cases he : e9 = 0
              · subst he
                have HAJ2 := Lib.hid (HAJ.out.trans (if_pos rfl))
                clear HAJ
                have k0 : w9.cell? ⟨fb, 0, none⟩ = some (.int .u64 (F1.serial : Int)) := HB9.out.cell 0
                have k1 : w9.cell? ⟨fb, 1, none⟩ = some (.int .u64 (F1.from_ : Int)) := HB9.out.cell 1
                have k2 : w9.cell? ⟨fb, 2, none⟩ = some (.int .u64 (F1.to_ : Int)) := HB9.out.cell 2
                have k3 : w9.cell? ⟨fb, 3, none⟩ = some (.int .i64 F1.size) := HB9.out.cell 3
                have g0 : ∀ j, w9.frozen? ⟨fb, j, none⟩ = false := fun j => HB9.out.frozen j
                have hszr := HRJ.out.size
                have hto := HRJ.out.to_
                rw [← HF1.out, ← HON2.out] at hszr
                rw [← openF_to, ← HF1.out] at hto
                have hw1 : IntKind.i64.wrap (F1.size + (on : Int)) = F1.size + (on : Int) := by rw [IntKind.wrap_i64]; omega
                have hw2 : IntKind.u64.wrap (recs.length : Int) = (recs.length : Int) := by rw [IntKind.wrap_u64]; omega
                have hw3 : IntKind.u64.wrap ((F1.to_ : Int) + (recs.length : Int)) = (F1.to_ : Int) + (recs.length : Int) := by rw [IntKind.wrap_u64]; omega
                go_upto_region 24 with fail
                obtain ⟨i0, hi0⟩ : ∃ i0, L.files = i0 ++ [F0] := by
                  rcases files_cases L.files with h | ⟨i, f, h⟩
                  · exact absurd (by rw [HN.out, h]; rfl) C1.out
                  · exact ⟨i, by rw [HF0.out, h, lastF_snoc]⟩
                obtain ⟨F2, hF2⟩ : ∃ F2, F2 = grownF L recs := ⟨_, rfl⟩
                have hF2e : F2 = ⟨F1.serial, F1.from_, F1.to_ + recs.length, F1.size + on⟩ := by rw [hF2, HON2.out, HF1.out]; rfl
                have hpush : Hid (pushL L recs = { L with files := i0 ++ [F2], closed := false }) := Lib.hid (by rw [hF2]; unfold pushL; rw [hfr1.out, hi0]; simp)
                have hser := HRJ.out.serial
                have hfew := HRJ.out.files
                rw [← HF1.out] at hser
                have hF1f : F1.from_ < 18446744073709551616 := by rw [HF1E.out]; exact hF0ok.2.1
                have hF2ok : F2.Ok := by rw [hF2e]; exact ⟨by show F1.serial < 1000; omega, hF1f, hto, by show 0 ≤ F1.size + (on : Int) ∧ F1.size + (on : Int) ≤ 1152921504606846976; omega⟩
                refine wp_code (fun wx => CellsAt wx fb (flV F2) 89 ∧ Turn (· = fb) w9 wx) ⟨?_, ?_⟩ ?_
                · have h := CellsAt.set (CellsAt.set HB9.out 3 (.int .i64 (F1.size + (on : Int)))) 2 (.int .u64 ((F1.to_ : Int) + (recs.length : Int)))
                  rw [hF2e]
                  exact h
                · refine Turn.setCell (M := fun x => x = fb) (Turn.setCell (M := fun x => x = fb) (Turn.refl _ w9) (fun _ => ?_) _) (fun _ => ?_) _ <;> rfl
                clear k0 k1 k2 k3 g0 hF2 hF2e hw1 hw2 hw3
                rintro w10 ⟨hb10, hT10⟩
                have hgf : ∀ c, g = some c → c < w.heap.size ∧ c ≠ fb ∧ c ≠ l ∧ c ≠ b := fun c hc => by
                  obtain ⟨fv, _, hfr, hgb2⟩ := HL.out.row
                  have h1 := hfr.lt (hgb2.trans hc)
                  exact ⟨h1, by omega, (HL.out.gown c hc).2⟩
                obtain ⟨fv9, hlg9, hfr9, hgb9⟩ := HL9.out.row
                obtain ⟨a9, c9, rfl⟩ := hfr9.val
                have hlg10 := hlg9.kept (hT10.block l hlg9.lt (fun e => by omega))
                have hfr10 := hfr9.kept (fun c hc => hT10.block c (hfr9.lt hc) (hgf c (hgb9.symm.trans hc)).2.1)
                rw [hi0] at hfr10
                obtain ⟨g9, o9, rfl, hg9, q0, q1, q2, q3, hz9⟩ := hfr10.cells (k := i0.length) (by simp)
                rw [List.getElem_append_right (Nat.le_refl _)] at q0 q1 q2 q3
                simp only [Nat.sub_self, List.getElem_cons_zero] at q0 q1 q2 q3
                have hgg : g = some g9 := hgb9.symm
                subst hgg
                have hnl : L.files.length = i0.length + 1 := by rw [hi0]; simp
                rw [hnl] at hlg10 hgb9 hfew
                rw [← hi0, hnl] at hfr10
                rw [hi0] at hfr10
                have m3 : w10.cell? ⟨l, 3, none⟩ = some (.slice (some ⟨g9, o9, none⟩) (i0.length + 1) c9) := hlg10.cell 3
                have k0 : w10.cell? ⟨fb, 0, none⟩ = some (.int .u64 (F2.serial : Int)) := hb10.cell 0
                have k1 : w10.cell? ⟨fb, 1, none⟩ = some (.int .u64 (F2.from_ : Int)) := hb10.cell 1
                have k2 : w10.cell? ⟨fb, 2, none⟩ = some (.int .u64 (F2.to_ : Int)) := hb10.cell 2
                have k3 : w10.cell? ⟨fb, 3, none⟩ = some (.int .i64 F2.size) := hb10.cell 3
                have hl10 : l < w10.heap.size := hlg10.lt
                have hfb10 : fb < w10.heap.size := hb10.lt
                have HLG10 := Lib.hid hlg10
                have HFR10 := Lib.hid (hfr10.setLast (f := F2) hF2ok)
                have HT10 := Lib.hid hT10
                have hz910 := Lib.hid hT10.size
                have hg9l := hgf g9 rfl
                have HI0 := Lib.hid hi0
                have HNL := Lib.hid hnl
                clear hlg9 hfr9 hlg10 hfr10 hb10 hT10 hi0 hnl
                generalize hN0 : i0.length = N at *
                have hwn : IntKind.i64.wrap (N : Int) = (N : Int) := by rw [IntKind.wrap_i64]; omega
                have hnlt : (N : Int) < (N : Int) + 1 := by omega
                refine wp_region_cut (S := (fun w' => w'.cell? ⟨l, 3, none⟩ = some (.slice (some ⟨g9, o9, none⟩) (N + 1) c9) ∧ w'.cell? ⟨fb, 0, none⟩ = some (.int .u64 (F2.serial : Int)) ∧ w'.cell? ⟨fb, 1, none⟩ = some (.int .u64 (F2.from_ : Int)) ∧ w'.cell? ⟨fb, 2, none⟩ = some (.int .u64 (F2.to_ : Int)) ∧ w'.cell? ⟨fb, 3, none⟩ = some (.int .i64 F2.size))) 12 (by kernel_rfl) ?_ (fun hHeld => ?_)
                · (go_keep)
                refine tkC 0 [1, 2, 3, 11, 12] ?_
                try simp only [Act.put, gtA, gtB, gtC, gtD, gtE, gtF]
                refine tkC 1 [2, 3, 11, 12] ?_
                try simp only [Act.put, gtA, gtB, gtC, gtD, gtE, gtF]
                refine tkC 2 [3, 11, 12] ?_
                try simp only [Act.put, gtA, gtB, gtC, gtD, gtE, gtF]
                refine tkC 3 [11, 12] ?_
                try simp only [Act.put, gtA, gtB, gtC, gtD, gtE, gtF]
                refine tkC 4 [5, 6, 7, 8, 9, 11, 12] ?_
                try simp only [Act.put, gtA, gtB, gtC, gtD, gtE, gtF]
                refine tkC 5 [6, 7, 8, 9, 11, 12] ?_
                try simp only [Act.put, gtA, gtB, gtC, gtD, gtE, gtF]
                refine tkC 6 [7, 8, 9, 11, 12] ?_
                try simp only [Act.put, gtA, gtB, gtC, gtD, gtE, gtF]
                refine tkC 7 [8, 9, 11, 12] ?_
                try simp only [Act.put, gtA, gtB, gtC, gtD, gtE, gtF]
                refine tkC 8 [9, 11, 12] ?_
                try simp only [Act.put, gtA, gtB, gtC, gtD, gtE, gtF]
                refine tkC 9 [11, 12] ?_
                try simp only [Act.put, gtA, gtB, gtC, gtD, gtE, gtF]
                refine tkC 10 [11, 12] ?_
                try simp only [Act.put, gtA, gtB, gtC, gtD, gtE, gtF]
                refine tkC 11 [12] ?_
                try simp only [Act.put, gtA, gtB, gtC, gtD, gtE, gtF]
                refine rdC (rs := [12]) (.cut rfl (fun K hK => ?_))
                try simp only [gtA, gtB, gtC]
                go_simp
                refine hK.out _ _ trivial (fun hHeld => ?_)
                clear hK K
                try simp only [Act.put, gtA, gtB, gtC, gtD, gtE, gtF]
                have hTrue : True := trivial
                refine wpAnyH_done (by kernel_rfl) ?_ _
                have hgl11 : blkOf (.slice (some ⟨g9, o9, none⟩) (N + 1) c9) ≠ some l := fun e => hg9l.2.2.1 (by injection e)
                have HBK : Hid (blkOf (.slice (some ⟨g9, o9, none⟩) (N + 1) c9) = some g9 ∨ ∃ c, blkOf (.slice (some ⟨g9, o9, none⟩) (N + 1) c9) = some c ∧ w10.heap.size ≤ c) := Lib.hid (.inl rfl)
                refine wp_at (fun wx => LgAt wx l b pre L.most (.slice (some ⟨g9, o9, none⟩) (N + 1) c9) L.closed ∧ FRow wx (.slice (some ⟨g9, o9, none⟩) (N + 1) c9) (i0 ++ [F2]) ∧ Turn (fun c => c = fb ∨ c = l ∨ some g9 = some c) w9 wx) ⟨?_, ?_, ?_⟩ ?_
                · have hne : l ≠ g9 := fun e => hg9l.2.2.1 e.symm
                  exact CellsAt.step (CellsAt.other (CellsAt.other (CellsAt.other (CellsAt.other HLG10.out (p := ⟨g9, _, none⟩) hne _) (p := ⟨g9, _, none⟩) hne _) (p := ⟨g9, _, none⟩) hne _) (p := ⟨g9, _, none⟩) hne _) stp
                · exact HFR10.out.step stp
                · exact Turn.drew (Turn.setCell (Turn.setCell (Turn.setCell (Turn.setCell (HT10.out.mono fun c _ h => .inl h) (p := ⟨g9, _, none⟩) (fun _ => .inr (.inr rfl)) _) (p := ⟨g9, _, none⟩) (fun _ => .inr (.inr rfl)) _) (p := ⟨g9, _, none⟩) (fun _ => .inr (.inr rfl)) _) (p := ⟨g9, _, none⟩) (fun _ => .inr (.inr rfl)) _)
                clear m3 k0 k1 k2 k3 q0 q1 q2 q3 HLG10 HFR10 HT10 hz9
                rintro w12 ⟨hlg12, hfr12, hT12⟩
                have m4 : w12.cell? ⟨l, 4, none⟩ = some (.bool L.closed) := hlg12.cell 4
                have f12 : ∀ j, w12.frozen? ⟨l, j, none⟩ = false := fun j => hlg12.frozen j
                have hz9 : w9.heap.size ≤ w10.heap.size := hz910.out
                have HLG12 := Lib.hid hlg12
                have HFR12 := Lib.hid hfr12
                have HT12 := Lib.hid hT12
                clear hlg12 hfr12 hT12
                go_wp2
                go_ret2
                rw [HAJ2.out, hpush.out]
                refine ⟨rfl, append_end HG9.out HD9.out HL9.out HMF.out hfbw HB9.out (by omega) (HT12.out.setCell (fun _ => .inr (.inl rfl)) _) (CellsAt.set HLG12.out 4 _) (HFR12.out.kept (fun c hc => heap_setCell_other _ _ _ _ (fun e => hgl11 (hc.trans (congrArg some e))))) (HBK.out.imp id (fun ⟨c, h, h2⟩ => ⟨c, h, by omega⟩))⟩


              · have heb : (e9 == 0) = false := beq_eq_false_iff_ne.2 he
                go_wp2
                go_ret2
                rw [HAJ.out, if_neg he]
                exact ⟨rfl, M', sf', sn', g, HD9.out, HL9.out, HG9.out⟩


        · by_cases c3 : F0.from_ < F0.to_
          · have hlt3 : decide ((F0.from_ : Int) < (F0.to_ : Int)) = true := decide_eq_true (by omega)
            have hfr1 : Hid (freshL L = true) := Lib.hid (by unfold freshL; rw [hem.out, ← HF0.out, hge, ← HCL.out, decide_eq_true c3]; rfl)
            go_enter Tryz.func14, Tryz.ntmps14
            go_upto_region 5 with (first
              | (go_at_call 48; refine (HLAST.out _ (Step.refl _)).mono ?_; rintro e w1 ⟨rfl, hS1⟩; have HS1 := Lib.hid hS1; clear hS1)
              | (go_at_call 17; refine (HNEXT.out _ HS1.out).mono ?_; rintro e w2 ⟨rfl, hS2⟩; have HS2 := Lib.hid (HS1.out.trans hS2); clear hS2))
            refine wp_code (fun wx => CellsAt wx w2.heap.size (flV F0) 89 ∧ Step w wx ∧ wx.heap.size = w2.heap.size + 1) ⟨CellsAt.new rfl, HS2.out.trans stp, by simp⟩ ?_
            rintro w3 ⟨hb3, hS3, hz3⟩
            obtain ⟨fb, hfb⟩ : ∃ fb, fb = w2.heap.size := ⟨_, rfl⟩
            rw [← hfb] at hb3 hz3 ⊢
            have hfbl : l < fb := by have := HS2.out.size; omega
            have hfbw : w.heap.size ≤ fb := by have := HS2.out.size; omega
            have HB3 := Lib.hid hb3
            have HS3 := Lib.hid hS3
            have m0 : w3.cell? ⟨l, 0, none⟩ = some (.pointer (some ⟨b, 0, none⟩)) := (hS3.cell hllt 0).trans l0
            have m2 : w3.cell? ⟨l, 2, none⟩ = some (.int .i64 L.most) := (hS3.cell hllt 2).trans l2
            have m3 : w3.cell? ⟨l, 3, none⟩ = some (.slice fa n fc) := (hS3.cell hllt 3).trans l3
            have m4 : w3.cell? ⟨l, 4, none⟩ = some _ := (hS3.cell hllt 4).trans l4
            have k0 : w3.cell? ⟨fb, 0, none⟩ = some (.int .u64 (F0.serial : Int)) := hb3.cell 0
            have k1 : w3.cell? ⟨fb, 1, none⟩ = some (.int .u64 (F0.from_ : Int)) := hb3.cell 1
            have k2 : w3.cell? ⟨fb, 2, none⟩ = some (.int .u64 (F0.to_ : Int)) := hb3.cell 2
            have k3 : w3.cell? ⟨fb, 3, none⟩ = some (.int .i64 F0.size) := hb3.cell 3
            have g0 : ∀ j, w3.frozen? ⟨fb, j, none⟩ = false := fun j => hb3.frozen j
            clear hb3 hS3 HS1 HLAST HNEXT hfb
            go_quiet (fail)

            refine wp_at (fun wx => CellsAt wx fb (flV F0) 89 ∧ Step w wx ∧ fb < wx.heap.size) ⟨HB3.out, HS3.out.trans stp, by show fb < w3.heap.size; omega⟩ ?_
            clear k0 k1 k2 k3 g0 HB3 HS3 m0 m2 m3 m4
            rintro w4 ⟨hb4, hS4, hz4⟩
            have k0 : w4.cell? ⟨fb, 0, none⟩ = some (.int .u64 (F0.serial : Int)) := hb4.cell 0
            have k1 : w4.cell? ⟨fb, 1, none⟩ = some (.int .u64 (F0.from_ : Int)) := hb4.cell 1
            have k2 : w4.cell? ⟨fb, 2, none⟩ = some (.int .u64 (F0.to_ : Int)) := hb4.cell 2
            have k3 : w4.cell? ⟨fb, 3, none⟩ = some (.int .i64 F0.size) := hb4.cell 3
            have g0 : ∀ j, w4.frozen? ⟨fb, j, none⟩ = false := fun j => hb4.frozen j
            have hsw : IntKind.u64.wrap ((F0.serial : Int) + 1) = (F0.serial : Int) + 1 := by rw [IntKind.wrap_u64]; omega
            have HB4 := Lib.hid hb4
            have HS4 := Lib.hid hS4
            obtain ⟨F1, hF1⟩ : ∃ F1, F1 = openF L := ⟨_, rfl⟩
            have hF1e : F1 = ⟨F0.serial + 1, F0.to_, F0.to_, 0⟩ := by rw [hF1]; unfold openF; rw [if_pos hfr1.out, ← HF0.out]
            have HHEAD : Hid (∀ W : World, Calls Tryz.prog 49 #[.int .u64 ((F0.serial : Int) + 1), .int .u64 (F0.to_ : Int)] W fun e w' => ∃ v', e = .returned (.tuple #[v', .int .i64 0]) ∧ Gr.Own Ty.byte 5 w' (· < W.heap.size) W.heap.size v' (headL L) ∧ Step W w') := Lib.hid (fun W => by
              have h := jHead_ (w := W) (a := F0.serial + 1) (b := F0.to_) (by omega) hF0ok.2.2.1
              have e : headL L = headB (F0.serial + 1) F0.to_ := by unfold headL; rw [if_pos hfr1.out, ← hF1, hF1e, ← HF0.out]
              rw [e]
              simpa using h)
            have HF1 := Lib.hid hF1
            have HF1E := Lib.hid hF1e
            clear hF1 hF1e hb4 hS4
            go_upto_region 8 with fail
            refine wp_code (fun wx => CellsAt wx fb (flV F1) 89 ∧ Step w wx ∧ fb < wx.heap.size) ⟨?_, ?_, by simpa using hz4⟩ ?_
            · have h := CellsAt.set (CellsAt.set (CellsAt.set (CellsAt.set HB4.out 0 (.int .u64 ((F0.serial : Int) + 1))) 1 (.int .u64 (F0.to_ : Int))) 2 (.int .u64 (F0.to_ : Int))) 3 (.int .i64 0)
              rw [HF1E.out]
              exact h
            · have h := HS4.out
              (repeat (first | exact Step.refl _ | refine Step.alloc ?_ _ | refine Step.drew ?_ | refine Step.drewN ?_ _ | refine Step.setCell ?_ (by first | exact Nat.le_refl _ | assumption | omega | (simp; done) | (simp; omega)) _ | assumption | refine Step.trans ?_ (by assumption : Step _ _)))
            clear k0 k1 k2 k3 g0 HB4 HS4 hz4
            rintro w5 ⟨hb5, hS5, hz5⟩
            have k0 : w5.cell? ⟨fb, 0, none⟩ = some (.int .u64 (F1.serial : Int)) := hb5.cell 0
            have hk : (F1.serial : Int) = (F0.serial : Int) + 1 := by rw [HF1E.out]; simp
            rw [hk] at k0
            have HB5 := Lib.hid hb5
            have HS5 := Lib.hid hS5
            clear hb5 hS5 hk
            go_upto_region 9 with (go_at_call 49; refine (HHEAD.out _).mono ?_; rintro e w6 ⟨v6, rfl, hA6, hS6⟩; obtain ⟨ha, hn6, hc, rfl, HN6⟩ := hA6.valN; have HA6 := Lib.hid hA6; have HS6 := Lib.hid hS6; clear hA6 hS6)
            refine wp_code (fun wx => CellsAt wx fb (flV F1) 89 ∧ Step w wx ∧ Gr.Own Ty.byte 5 wx (· < w.heap.size) w.heap.size (.slice ha hn6 hc) (headL L) ∧ fb < wx.heap.size) ⟨CellsAt.step HB5.out HS6.out, HS5.out.trans HS6.out, Gr.Own.base (Gr.Own.flat Ty.flat_byte HA6.out) HS5.out.size, Nat.lt_of_lt_of_le hz5 HS6.out.size⟩ ?_
            have HNE7 : Hid (∀ g, (Value.slice ha hn6 hc).ownBlock = some g → g ≠ fb) := Lib.hid (fun g hg er => by have := (HA6.out.lt hg).1; omega)
            rintro w7 ⟨hb7, hS7, hA7, hz7⟩
            have HB7 := Lib.hid hb7
            have HS7 := Lib.hid hS7
            have HA7 := Lib.hid hA7
            clear hb7 hS7 hA7 HB5 HS5 k0 HA6 HS6 HN6 hz5 HHEAD
            go_wp2
            go_loopw [8, 70] (fun ov iv w' => ∃ k : Nat, iv = .int .i64 (k : Int) ∧ k ≤ recs.length ∧ Hid (∀ j (hj : j < recs.length), j < k → (recs[j]).length ≤ 1048576) ∧ Hid (Gr.Own Ty.byte 5 w' (· < w.heap.size) w.heap.size ov (headL L ++ sealsB (recs.take k))) ∧ Hid (CellsAt w' fb (flV F1) 89) ∧ Hid (∀ g, ov.ownBlock = some g → g ≠ fb) ∧ Hid (Step w w')) (fun _ iv _ => recs.length - (Go.RowKit.intOf iv).toNat)
            case atStart => exact ⟨0, rfl, Nat.zero_le _, Lib.hid (fun j hj h => absurd h (by omega)), Lib.hid (by simpa [sealsB] using HA7.out), HB7, HNE7, HS7⟩
            case round =>
              obtain ⟨k, rfl, hk, HSH, HA, HB, HNE, HS⟩ := hrel
              obtain ⟨oa, on, oc, rfl, HON⟩ := HA.out.valN
              have hzr : fb < wr.heap.size := HB.out.lt
              by_cases hlt : k < recs.length
              · have hd : decide ((k : Int) < (recs.length : Int)) = true := decide_eq_true (by omega)
                obtain ⟨b1, o1, u1, rfl, hb1, _, hu1, hc1⟩ := Ty.slice_at1 rfl (Ty.step _ HR.out HS.out) hlt
                obtain ⟨K, hK⟩ : ∃ K, K = recs[k] := ⟨_, rfl⟩
                rw [← hK] at hu1
                obtain ⟨va, vc, hvv, _, _, hvl⟩ := Ty.slice_val hu1
                obtain rfl : u1 = .slice va K.length vc := by simpa using hvv
                have HU := Lib.hid hu1
                have hmem : K ∈ recs := by rw [hK]; exact List.getElem_mem hlt
                clear hvv hu1
                by_cases hbig : 1048576 < K.length
                · have HAJ : Hid (appendJ pre D L recs = ((D, L), 0, 2)) := Lib.hid (by
                    unfold appendJ
                    rw [if_neg h0, if_pos]
                    unfold tooLong
                    exact List.any_eq_true.2 ⟨K, hmem, by simpa using hbig⟩)
                  have HSB := Lib.hid (pySeal_big HU.out hbig)
                  clear hmem hK hbig
                  generalize K.length = KL at *
                  go_wp2_with (go_at_call 50; refine HSB.out.mono ?_; rintro e w8 ⟨rfl, hw8⟩; subst w8)
                  go_ret2
                  rw [HAJ.out]
                  exact ⟨rfl, M, sf, sn, g, HD.out.step HS.out, HL.out.step HS.out, (JGo.refl b l w M sf sn g).then HS.out⟩
                · have hKs : K.length ≤ 1048576 := by omega
                  have HSB := Lib.hid (pySeal_ HU.out hKs)
                  have HSH2 : Hid (∀ j (hj : j < recs.length), j < k + 1 → (recs[j]).length ≤ 1048576) := Lib.hid (fun j hj hlt2 => by
                    rcases Nat.lt_or_ge j k with h | h
                    · exact HSH.out j hj h
                    · obtain rfl : j = k := by omega
                      rw [← hK]; exact hKs)
                  have htk : Hid (headL L ++ sealsB (recs.take (k + 1)) = (headL L ++ sealsB (recs.take k)) ++ sealB K) := Lib.hid (by rw [sealsB_take hlt, hK, List.append_assoc])
                  have hlt2 : Hid (k + 1 ≤ recs.length) := Lib.hid hlt
                  have hkw : k + 1 < 9223372036854775807 := by have h := lim_eq; omega
                  have hlm : Hid ((headL L ++ sealsB (recs.take k)).length + (sealB K).length ≤ lim) := Lib.hid (by rw [hK]; exact dataL_take HRJ.out.data hlt)
                  clear hmem hK hbig HSH
                  generalize K.length = KL at *
                  go_wp2_with (first
                    | (go_at_call 50; refine HSB.out.mono ?_; rintro e w8 ⟨v8, rfl, hA8, hS8⟩; obtain ⟨a8, n8, c8, rfl, HN8⟩ := hA8.valN; have HA8 := Lib.hid (Gr.Own.rep' hA8 (fun c hc hm => by have := (hA8.lt hc).1; omega)); have HA := Lib.hid (HA.out.step hS8); have HB := Lib.hid (CellsAt.step HB.out hS8); have HS := Lib.hid (HS.out.trans hS8); clear hA8 hS8)
                    | (at_builtin; refine wpList_append_acc (w0 := w) (ys := sealB K) rfl (.tmp 82) (.tmp 83) rfl stBytes HS.out HA.out (Src.flat Ty.flat_byte HA8.out) hlm.out (by rfl) (by rfl) ?_; intro v9 w9 hA9 hB9 hG9 hn9; have HA9 := Lib.hid hA9; have HS9 := Lib.hid hB9; have HB9 : Hid (CellsAt w9 fb (flV F1) 89) := Lib.hid (HB.out.kept (hG9.block fb HB.out.lt (fun er => HNE.out _ er.symm rfl))); have HNE9 : Hid (∀ g, v9.ownBlock = some g → g ≠ fb) := Lib.hid (fun g hg er => by rcases hn9 with h | h; exact HNE.out g (by rw [← h]; exact hg) er; (rw [hg] at h; injection h with h; have := HB.out.lt; omega)); clear hA9 hB9 hG9 hn9))
                  go_roundw
                  case rel => exact ⟨k + 1, by go_num, hlt2.out, HSH2, by rw [htk.out]; exact HA9, HB9, HNE9, HS9⟩
                  case measure => (have h2 := hlt2.out; simp [Go.RowKit.intOf]; omega)
              · have hd : decide ((k : Int) < (recs.length : Int)) = false := decide_eq_false (by omega)
                have hke : Hid (recs.take k = recs) := Lib.hid (List.take_of_length_le (by omega))
                have HTL : Hid (tooLong recs = false) := Lib.hid (by
                  unfold tooLong
                  rw [List.any_eq_false]
                  intro r hr
                  obtain ⟨j, hj, rfl⟩ := List.mem_iff_getElem.1 hr
                  have := HSH.out j hj (by omega)
                  simpa using this)
                rw [hke.out] at HA HON
                clear hke HSH
                go_upto_region 17 with fail
                obtain ⟨nm, hnm⟩ : ∃ nm, nm = nameB pre F1.serial := ⟨_, rfl⟩
                obtain ⟨D2, hD2⟩ : ∃ D2, D2 = (appendD D nm (dataL L recs)).1 := ⟨_, rfl⟩
                obtain ⟨e9, he9⟩ : ∃ e9, e9 = (appendD D nm (dataL L recs)).2 := ⟨_, rfl⟩
                have HAJ : Hid (appendJ pre D L recs = if e9 = 0 then ((D2, pushL L recs), F0.to_, 0) else ((D2, L), 0, e9)) := Lib.hid (by
                  unfold appendJ
                  rw [if_neg h0, if_neg (by rw [HTL.out]; simp), ← HF1.out, ← hnm, ← hD2, ← he9, ← HF0.out])
                have p0 : wr.cell? ⟨l, 0, none⟩ = some (.pointer (some ⟨b, 0, none⟩)) := (HS.out.cell hllt 0).trans l0
                have q0 : wr.cell? ⟨fb, 0, none⟩ = some (.int .u64 (F1.serial : Int)) := HB.out.cell 0
                have HNM : Hid (∀ W : World, Step wr W → Calls Tryz.prog 51 #[.pointer (some ⟨l, 0, none⟩), .int .u64 (F1.serial : Int)] W fun e w' => e = .returned (encStr nm) ∧ ∃ m, w' = W.drewN m) := Lib.hid (fun W hW => by
                  obtain ⟨fv2, hlg2, _⟩ := HL.out.row
                  rw [hnm]
                  exact jName_ (CellsAt.step hlg2 (HS.out.trans hW)) (by rw [HF1.out]; exact HRJ.out.serial) (by have := HRJ.out.prel; omega))
                have HDF : Hid (∀ W : World, Step wr W → DriveAt W (fun c => M c ∨ c = fb) b sf sn D) := Lib.hid (fun W hW => by
                  have hSW := HS.out.trans hW
                  have hfz := Nat.lt_of_lt_of_le hzr hW.size
                  refine HD.out.keep (fun c hc => ⟨hSW.heap (HD.out.lt hc), .inl (HD.out.own c hc)⟩) (fun c hc hn => ⟨hSW.heap hc, fun hx => hx.elim hn (fun e => by omega)⟩) (fun c hc => ?_)
                  rcases hc with hc | rfl
                  · exact Nat.lt_of_lt_of_le (HD.out.old c hc) hSW.size
                  · exact hfz)
                have HAP : Hid (∀ W : World, Step wr W → Calls Tryz.prog 27 #[.pointer (some ⟨b, 0, none⟩), encStr nm, .slice oa on oc] W fun y w' => y = .returned (.int .i64 e9) ∧ ∃ M' sf' sn', DriveAt w' M' b sf' sn' D2 ∧ DGo b W (fun c => M c ∨ c = fb) sf sn w' M' sf' sn') := Lib.hid (fun W hW => by
                  rw [hD2, he9]
                  refine dAppend_ (M2 := fun _ => False) (HDF.out W hW) (Ty.step _ (Gr.Own.rep' (Gr.Own.flat Ty.flat_byte HA.out) (fun c hc hm => hm)) hW) ?_ HRJ.out.used HRJ.out.room0 HRJ.out.room1 ?_ HRJ.out.few
                  · have := nameB_len pre F1.serial
                    have := HRJ.out.prel
                    rw [hnm]; omega
                  · have h1 := HRJ.out.data
                    have h2 := HRJ.out.file
                    rw [← HF1.out, ← hnm] at h2
                    omega)
                have HED := Lib.hid hD2
                have HON2 : Hid (on = (dataL L recs).length) := Lib.hid HON.out
                clear hnm hD2 he9 HON
                have hbl : b < w.heap.size := HD.out.lt (.inl rfl)
                refine wp_region_cut (S := (fun w' => w'.cell? ⟨l, 0, none⟩ = some (.pointer (some ⟨b, 0, none⟩)) ∧ w'.cell? ⟨fb, 0, none⟩ = some (.int .u64 (F1.serial : Int)))) 9 (by kernel_rfl) ?_ (fun hHeld => ?_)
                · (go_keep)
                refine tkC 0 [1, 2, 3, 9, 10] ?_
                try simp only [Act.put, gtA, gtB, gtC, gtD, gtE, gtF]
                refine tkC 1 [2, 3, 9, 10] ?_
                try simp only [Act.put, gtA, gtB, gtC, gtD, gtE, gtF]
                refine tkC 2 [3, 9, 10] ?_
                try simp only [Act.put, gtA, gtB, gtC, gtD, gtE, gtF]
                refine tkC 3 [9, 10] ?_
                try simp only [Act.put, gtA, gtB, gtC, gtD, gtE, gtF]
                refine tkC 4 [7, 9, 10] ?_
                try simp only [Act.put, gtA, gtB, gtC, gtD, gtE, gtF]
                refine tkC 5 [6, 7, 9, 10] ?_
                try simp only [Act.put, gtA, gtB, gtC, gtD, gtE, gtF]
                refine tkC 6 [7, 9, 10] ?_
                try simp only [Act.put, gtA, gtB, gtC, gtD, gtE, gtF]
                refine tkC 8 [9, 10] ?_
                try simp only [Act.put, gtA, gtB, gtC, gtD, gtE, gtF]
                refine rdC (rs := [7]) (.cons rfl (by decide) (fun K hK => ?_) .nil)
                try simp only [gtA, gtB, gtC]
                go_simp
                (go_at_call 51; refine (HNM.out _ stp).mono ?_; rintro e w8 ⟨rfl, m8, rfl⟩)
                refine hK.out _ _ ?_ (fun hHeld => ?_)
                · (go_keep)
                clear hK K
                try simp only [Act.put, gtA, gtB, gtC, gtD, gtE, gtF]
                refine rdC (rs := [9]) (.cut rfl (fun K hK => ?_))
                try simp only [gtA, gtB, gtC]
                go_simp
                (go_at_call 27; refine (HAP.out _ stp).mono ?_; rintro e w9 ⟨rfl, M', sf', sn', hD9, hG9⟩)
                refine hK.out _ _ trivial (fun hHeld => ?_)
                clear hK K
                try simp only [Act.put, gtA, gtB, gtC, gtD, gtE, gtF]
                have hTrue : True := trivial
                refine tkH 10 ?_
                try simp only [Act.put, gtA, gtB, gtC, gtD, gtE, gtF]
                refine wpAnyH_done (by kernel_rfl) ?_ _
                have HG9 := Lib.hid (JGo.fromD (l := l) (M := M) (w := w) g (HS.out.trans stp) (fun c hc => .inl hc) (fun c hc hx => hx.elim id (fun e => by omega)) hG9)
                have HL9 := Lib.hid (LogAt.beside ((HL.out.step (HS.out.trans stp)).mono (fun c hc => .inl hc)) (HDF.out _ stp) hG9)
                have HB9 : Hid (CellsAt w9 fb (flV F1) 89) := Lib.hid (by
                  have h1 := CellsAt.step HB.out (stp : Step wr (wr.drewN (1 + m8)))
                  have hlt9 := h1.lt
                  exact h1.kept (hG9.turn.block fb h1.lt (fun hx => hx.elim (fun h => by omega) ((HDF.out _ stp).notDM (l := fb) h1 (by omega)))))
                have HMF : Hid (M' fb) := Lib.hid (hG9.more fb (.inr rfl))
                have HD9 := Lib.hid hD9
                clear hD9 hG9 HNM HAP HDF p0 q0 HA HNE HB HS hzr
                by_cases he : e9 = 0
                · subst he
                  have HAJ2 := Lib.hid (HAJ.out.trans (if_pos rfl))
                  clear HAJ
                  have k0 : w9.cell? ⟨fb, 0, none⟩ = some (.int .u64 (F1.serial : Int)) := HB9.out.cell 0
                  have k1 : w9.cell? ⟨fb, 1, none⟩ = some (.int .u64 (F1.from_ : Int)) := HB9.out.cell 1
                  have k2 : w9.cell? ⟨fb, 2, none⟩ = some (.int .u64 (F1.to_ : Int)) := HB9.out.cell 2
                  have k3 : w9.cell? ⟨fb, 3, none⟩ = some (.int .i64 F1.size) := HB9.out.cell 3
                  have g0 : ∀ j, w9.frozen? ⟨fb, j, none⟩ = false := fun j => HB9.out.frozen j
                  have hszr := HRJ.out.size
                  have hto := HRJ.out.to_
                  rw [← HF1.out, ← HON2.out] at hszr
                  rw [← openF_to, ← HF1.out] at hto
                  have hw1 : IntKind.i64.wrap (F1.size + (on : Int)) = F1.size + (on : Int) := by rw [IntKind.wrap_i64]; omega
                  have hw2 : IntKind.u64.wrap (recs.length : Int) = (recs.length : Int) := by rw [IntKind.wrap_u64]; omega
                  have hw3 : IntKind.u64.wrap ((F1.to_ : Int) + (recs.length : Int)) = (F1.to_ : Int) + (recs.length : Int) := by rw [IntKind.wrap_u64]; omega
                  go_upto_region 23 with fail
                  obtain ⟨F2, hF2⟩ : ∃ F2, F2 = grownF L recs := ⟨_, rfl⟩
                  have hF2e : F2 = ⟨F1.serial, F1.from_, F1.to_ + recs.length, F1.size + on⟩ := by rw [hF2, HON2.out, HF1.out]; rfl
                  have hpush : Hid (pushL L recs = { L with files := L.files ++ [F2], closed := false }) := Lib.hid (by rw [hF2]; unfold pushL; rw [hfr1.out]; rfl)
                  have hser := HRJ.out.serial
                  have hfew := HRJ.out.files
                  rw [← HF1.out] at hser
                  have hF1f : F1.from_ < 18446744073709551616 := by rw [HF1E.out]; exact hF0ok.2.2.1
                  have hF2ok : F2.Ok := by rw [hF2e]; exact ⟨by show F1.serial < 1000; omega, hF1f, hto, by show 0 ≤ F1.size + (on : Int) ∧ F1.size + (on : Int) ≤ 1152921504606846976; omega⟩
                  refine wp_code (fun wx => CellsAt wx fb (flV F2) 89 ∧ Turn (· = fb) w9 wx) ⟨?_, ?_⟩ ?_
                  · have h := CellsAt.set (CellsAt.set HB9.out 3 (.int .i64 (F1.size + (on : Int)))) 2 (.int .u64 ((F1.to_ : Int) + (recs.length : Int)))
                    rw [hF2e]
                    exact h
                  · refine Turn.setCell (M := fun x => x = fb) (Turn.setCell (M := fun x => x = fb) (Turn.refl _ w9) (fun _ => ?_) _) (fun _ => ?_) _ <;> rfl
                  clear k0 k1 k2 k3 g0 hF2 hF2e hw1 hw2 hw3
                  rintro w10 ⟨hb10, hT10⟩
                  have hgf : ∀ c, g = some c → c < w.heap.size ∧ c ≠ fb ∧ c ≠ l ∧ c ≠ b := fun c hc => by
                    obtain ⟨fv, _, hfr, hgb2⟩ := HL.out.row
                    have h1 := hfr.lt (hgb2.trans hc)
                    exact ⟨h1, by omega, (HL.out.gown c hc).2⟩
                  obtain ⟨fv9, hlg9, hfr9, hgb9⟩ := HL9.out.row
                  obtain ⟨a9, c9, rfl⟩ := hfr9.val
                  have hlg10 := hlg9.kept (hT10.block l hlg9.lt (fun e => by omega))
                  have hfr10 := hfr9.kept (fun c hc => hT10.block c (hfr9.lt hc) (hgf c (hgb9.symm.trans hc)).2.1)
                  have m3 : w10.cell? ⟨l, 3, none⟩ = some (.slice a9 L.files.length c9) := hlg10.cell 3
                  have k0 : w10.cell? ⟨fb, 0, none⟩ = some (.int .u64 (F2.serial : Int)) := hb10.cell 0
                  have k1 : w10.cell? ⟨fb, 1, none⟩ = some (.int .u64 (F2.from_ : Int)) := hb10.cell 1
                  have k2 : w10.cell? ⟨fb, 2, none⟩ = some (.int .u64 (F2.to_ : Int)) := hb10.cell 2
                  have k3 : w10.cell? ⟨fb, 3, none⟩ = some (.int .i64 F2.size) := hb10.cell 3
                  have hl10 : l < w10.heap.size := hlg10.lt
                  have hfb10 : fb < w10.heap.size := hb10.lt
                  have HLG10 := Lib.hid hlg10
                  have HFR10 := Lib.hid hfr10
                  have HT10 := Lib.hid hT10
                  have hz910 := Lib.hid hT10.size
                  clear hlg9 hfr9 hlg10 hfr10 hb10 hT10
                  refine wp_region_cut (S := (fun w' => w'.cell? ⟨l, 3, none⟩ = some (.slice a9 L.files.length c9) ∧ w'.cell? ⟨fb, 0, none⟩ = some (.int .u64 (F2.serial : Int)) ∧ w'.cell? ⟨fb, 1, none⟩ = some (.int .u64 (F2.from_ : Int)) ∧ w'.cell? ⟨fb, 2, none⟩ = some (.int .u64 (F2.to_ : Int)) ∧ w'.cell? ⟨fb, 3, none⟩ = some (.int .i64 F2.size))) 10 (by kernel_rfl) ?_ (fun hHeld => ?_)
                  · (go_keep)
                  refine tkC 0 [8, 9, 10] ?_
                  try simp only [Act.put, gtA, gtB, gtC, gtD, gtE, gtF]
                  refine tkC 1 [2, 3, 4, 7, 8, 9, 10] ?_
                  try simp only [Act.put, gtA, gtB, gtC, gtD, gtE, gtF]
                  refine tkC 2 [3, 4, 7, 8, 9, 10] ?_
                  try simp only [Act.put, gtA, gtB, gtC, gtD, gtE, gtF]
                  refine tkC 3 [4, 7, 8, 9, 10] ?_
                  try simp only [Act.put, gtA, gtB, gtC, gtD, gtE, gtF]
                  refine tkC 4 [7, 8, 9, 10] ?_
                  try simp only [Act.put, gtA, gtB, gtC, gtD, gtE, gtF]
                  refine tkC 5 [6, 7, 8, 9, 10] ?_
                  try simp only [Act.put, gtA, gtB, gtC, gtD, gtE, gtF]
                  refine rdC (rs := [6]) (.cons rfl (by decide) (fun K hK => ?_) .nil)
                  try simp only [gtA, gtB, gtC]
                  go_simp
                  refine hK.out _ _ ?_ (fun hHeld => ?_)
                  · (go_keep)
                  clear hK K
                  try simp only [Act.put, gtA, gtB, gtC, gtD, gtE, gtF]
                  refine rdC (rs := [7]) (.cons rfl (by decide) (fun K hK => ?_) .nil)
                  try simp only [gtA, gtB, gtC]
                  refine ite_then rfl ?_; refine wp_append_file (fs := L.files) (f := F2) (v := .slice a9 L.files.length c9) (.tmp 119) (.tmp 121) rfl (FRow.step HFR10.out stp) hF2ok hfew ?_ rfl rfl ?_; (intro j u hj; exact (CellsAt.cell (CellsAt.step (CellsAt.new (w := w10) (cs := flV F2) (e := 89) rfl) stp) j).trans (by rcases j with _ | _ | _ | _ | j <;> first | (simp at hj; done) | simpa using hj)); intro v11 w11 hFR11 hT11 hbk; obtain ⟨a11, c11, rfl⟩ := hFR11.val; have HT11 : Hid (Turn (fun c => blkOf (.slice a9 L.files.length c9) = some c) w10 w11) := Lib.hid ((Turn.of stp).trans hT11); have HFR11 := Lib.hid hFR11; have HBK : Hid (blkOf (.slice a11 (L.files ++ [F2]).length c11) = g ∨ ∃ c, blkOf (.slice a11 (L.files ++ [F2]).length c11) = some c ∧ w10.heap.size ≤ c) := Lib.hid (hbk.imp (fun h => h.trans hgb9) (fun h => ⟨_, h, by simp⟩)); have HLG11 := Lib.hid (HLG10.out.kept (HT11.out.block l hl10 (fun e => (hgf l (hgb9.symm.trans e)).2.2.1 rfl))); have s11 : ∀ j, w11.cell? ⟨l, j, none⟩ = w10.cell? ⟨l, j, none⟩ := fun j => HT11.out.cell hl10 (fun e => (hgf l (hgb9.symm.trans e)).2.2.1 rfl) j; have t11 : ∀ j, w11.cell? ⟨fb, j, none⟩ = w10.cell? ⟨fb, j, none⟩ := fun j => HT11.out.cell hfb10 (fun e => (hgf fb (hgb9.symm.trans e)).2.1 rfl) j; have f11 : ∀ j, w11.frozen? ⟨l, j, none⟩ = false := fun j => HLG11.out.frozen j; clear hFR11 hT11 hbk
                  refine hK.out _ _ ?_ (fun hHeld => ?_)
                  · (go_keep)
                  clear hK K
                  try simp only [Act.put, gtA, gtB, gtC, gtD, gtE, gtF]
                  refine tkC 8 [9, 10] ?_
                  try simp only [Act.put, gtA, gtB, gtC, gtD, gtE, gtF]
                  refine tkC 9 [10] ?_
                  try simp only [Act.put, gtA, gtB, gtC, gtD, gtE, gtF]
                  refine rdC (rs := [10]) (.cut rfl (fun K hK => ?_))
                  try simp only [gtA, gtB, gtC]
                  go_simp
                  refine hK.out _ _ trivial (fun hHeld => ?_)
                  clear hK K
                  try simp only [Act.put, gtA, gtB, gtC, gtD, gtE, gtF]
                  have hTrue : True := trivial
                  refine wpAnyH_done (by kernel_rfl) ?_ _
                  have hgl11 : blkOf (.slice a11 (L.files ++ [F2]).length c11) ≠ some l := fun e => by
                    rcases HBK.out with h | ⟨c, h, h2⟩
                    · exact (hgf l (h.symm.trans e)).2.2.1 rfl
                    · rw [h] at e
                      injection e with e
                      omega
                  refine wp_at (fun wx => LgAt wx l b pre L.most (.slice a11 (L.files.length + 1) c11) L.closed ∧ FRow wx (.slice a11 (L.files.length + 1) c11) (L.files ++ [F2]) ∧ Turn (fun c => c = fb ∨ c = l ∨ g = some c) w9 wx) ⟨?_, ?_, ?_⟩ ?_
                  · exact CellsAt.set HLG11.out 3 _
                  · have h := HFR11.out.kept (w' := w11.setCell ⟨l, 3, none⟩ (.slice a11 (L.files.length + 1) c11)) (fun c hc => heap_setCell_other _ _ _ _ (fun e => hgl11 (hc.trans (congrArg some e))))
                    rw [List.length_append, List.length_singleton] at h
                    exact h
                  · refine Turn.setCell (Turn.trans (HT10.out.mono fun c _ h => .inl h) (HT11.out.mono fun c _ h => .inr (.inr (hgb9.symm.trans h)))) (fun _ => .inr (.inl rfl)) _
                  rw [List.length_append, List.length_singleton] at HBK hgl11
                  clear m3 k0 k1 k2 k3 s11 t11 f11 HLG10 HFR10 HT10 HT11 HFR11 HLG11
                  rintro w12 ⟨hlg12, hfr12, hT12⟩
                  have m4 : w12.cell? ⟨l, 4, none⟩ = some (.bool L.closed) := hlg12.cell 4
                  have f12 : ∀ j, w12.frozen? ⟨l, j, none⟩ = false := fun j => hlg12.frozen j
                  have hz9 : w9.heap.size ≤ w10.heap.size := hz910.out
                  have HLG12 := Lib.hid hlg12
                  have HFR12 := Lib.hid hfr12
                  have HT12 := Lib.hid hT12
                  clear hlg12 hfr12 hT12
                  go_wp2
                  go_ret2
                  rw [HAJ2.out, hpush.out]
                  refine ⟨rfl, append_end HG9.out HD9.out HL9.out HMF.out hfbw HB9.out (by omega) (HT12.out.setCell (fun _ => .inr (.inl rfl)) _) (CellsAt.set HLG12.out 4 _) (HFR12.out.kept (fun c hc => heap_setCell_other _ _ _ _ (fun e => hgl11 (hc.trans (congrArg some e))))) (HBK.out.imp id (fun ⟨c, h, h2⟩ => ⟨c, h, by omega⟩))⟩


                · have heb : (e9 == 0) = false := beq_eq_false_iff_ne.2 he
                  go_wp2
                  go_ret2
                  rw [HAJ.out, if_neg he]
                  exact ⟨rfl, M', sf', sn', g, HD9.out, HL9.out, HG9.out⟩


          · have hlt3 : decide ((F0.from_ : Int) < (F0.to_ : Int)) = false := decide_eq_false (by omega)
            have hfr1 : Hid (freshL L = false) := Lib.hid (by unfold freshL; rw [hem.out, ← HF0.out, hge, ← HCL.out, decide_eq_false c3]; rfl)
            go_enter Tryz.func14, Tryz.ntmps14
            go_upto_region 5 with (first
              | (go_at_call 48; refine (HLAST.out _ (Step.refl _)).mono ?_; rintro e w1 ⟨rfl, hS1⟩; have HS1 := Lib.hid hS1; clear hS1)
              | (go_at_call 17; refine (HNEXT.out _ HS1.out).mono ?_; rintro e w2 ⟨rfl, hS2⟩; have HS2 := Lib.hid (HS1.out.trans hS2); clear hS2))
            refine wp_code (fun wx => CellsAt wx w2.heap.size (flV F0) 89 ∧ Step w wx ∧ wx.heap.size = w2.heap.size + 1) ⟨CellsAt.new rfl, HS2.out.trans stp, by simp⟩ ?_
            rintro w3 ⟨hb3, hS3, hz3⟩
            obtain ⟨fb, hfb⟩ : ∃ fb, fb = w2.heap.size := ⟨_, rfl⟩
            rw [← hfb] at hb3 hz3 ⊢
            have hfbl : l < fb := by have := HS2.out.size; omega
            have hfbw : w.heap.size ≤ fb := by have := HS2.out.size; omega
            have HB3 := Lib.hid hb3
            have HS3 := Lib.hid hS3
            have m0 : w3.cell? ⟨l, 0, none⟩ = some (.pointer (some ⟨b, 0, none⟩)) := (hS3.cell hllt 0).trans l0
            have m2 : w3.cell? ⟨l, 2, none⟩ = some (.int .i64 L.most) := (hS3.cell hllt 2).trans l2
            have m3 : w3.cell? ⟨l, 3, none⟩ = some (.slice fa n fc) := (hS3.cell hllt 3).trans l3
            have m4 : w3.cell? ⟨l, 4, none⟩ = some _ := (hS3.cell hllt 4).trans l4
            have k0 : w3.cell? ⟨fb, 0, none⟩ = some (.int .u64 (F0.serial : Int)) := hb3.cell 0
            have k1 : w3.cell? ⟨fb, 1, none⟩ = some (.int .u64 (F0.from_ : Int)) := hb3.cell 1
            have k2 : w3.cell? ⟨fb, 2, none⟩ = some (.int .u64 (F0.to_ : Int)) := hb3.cell 2
            have k3 : w3.cell? ⟨fb, 3, none⟩ = some (.int .i64 F0.size) := hb3.cell 3
            have g0 : ∀ j, w3.frozen? ⟨fb, j, none⟩ = false := fun j => hb3.frozen j
            clear hb3 hS3 HS1 HLAST HNEXT hfb
            go_quiet (fail)

            refine wp_at (fun wx => CellsAt wx fb (flV F0) 89 ∧ Step w wx ∧ fb < wx.heap.size) ⟨HB3.out, HS3.out.trans stp, by show fb < w3.heap.size; omega⟩ ?_
            clear k0 k1 k2 k3 g0 HB3 HS3 m0 m2 m3 m4
            rintro w7 ⟨hb7, hS7, hz7⟩
            obtain ⟨F1, hF1⟩ : ∃ F1, F1 = openF L := ⟨_, rfl⟩
            have hF1e : F1 = F0 := by rw [hF1]; unfold openF; rw [if_neg (by rw [hfr1.out]; simp), ← HF0.out]
            have hhd : headL L = [] := by unfold headL; rw [if_neg (by rw [hfr1.out]; simp)]
            rw [← hF1e] at hb7
            have HF1 := Lib.hid hF1
            have HF1E := Lib.hid hF1e
            have HB7 := Lib.hid hb7
            have HS7 := Lib.hid hS7
            have HA7 : Hid (Gr.Own Ty.byte 5 w7 (· < w.heap.size) w.heap.size (.slice none 0 0) (headL L)) := Lib.hid (by rw [hhd]; exact Gr.Own.nil)
            have HNE7 : Hid (∀ g, (Value.slice none 0 0).ownBlock = some g → g ≠ fb) := Lib.hid (fun g h => by cases h)
            clear hF1 hF1e hb7 hS7 hhd
            simp only [show ((recs.length : Int) == 0) = false from beq_eq_false_iff_ne.2 (by omega)]
            go_wp2
            go_loopw [8, 70] (fun ov iv w' => ∃ k : Nat, iv = .int .i64 (k : Int) ∧ k ≤ recs.length ∧ Hid (∀ j (hj : j < recs.length), j < k → (recs[j]).length ≤ 1048576) ∧ Hid (Gr.Own Ty.byte 5 w' (· < w.heap.size) w.heap.size ov (headL L ++ sealsB (recs.take k))) ∧ Hid (CellsAt w' fb (flV F1) 89) ∧ Hid (∀ g, ov.ownBlock = some g → g ≠ fb) ∧ Hid (Step w w')) (fun _ iv _ => recs.length - (Go.RowKit.intOf iv).toNat)
            case atStart => exact ⟨0, rfl, Nat.zero_le _, Lib.hid (fun j hj h => absurd h (by omega)), Lib.hid (by simpa [sealsB] using HA7.out), HB7, HNE7, HS7⟩
            case round =>
              obtain ⟨k, rfl, hk, HSH, HA, HB, HNE, HS⟩ := hrel
              obtain ⟨oa, on, oc, rfl, HON⟩ := HA.out.valN
              have hzr : fb < wr.heap.size := HB.out.lt
              by_cases hlt : k < recs.length
              · have hd : decide ((k : Int) < (recs.length : Int)) = true := decide_eq_true (by omega)
                obtain ⟨b1, o1, u1, rfl, hb1, _, hu1, hc1⟩ := Ty.slice_at1 rfl (Ty.step _ HR.out HS.out) hlt
                obtain ⟨K, hK⟩ : ∃ K, K = recs[k] := ⟨_, rfl⟩
                rw [← hK] at hu1
                obtain ⟨va, vc, hvv, _, _, hvl⟩ := Ty.slice_val hu1
                obtain rfl : u1 = .slice va K.length vc := by simpa using hvv
                have HU := Lib.hid hu1
                have hmem : K ∈ recs := by rw [hK]; exact List.getElem_mem hlt
                clear hvv hu1
                by_cases hbig : 1048576 < K.length
                · have HAJ : Hid (appendJ pre D L recs = ((D, L), 0, 2)) := Lib.hid (by
                    unfold appendJ
                    rw [if_neg h0, if_pos]
                    unfold tooLong
                    exact List.any_eq_true.2 ⟨K, hmem, by simpa using hbig⟩)
                  have HSB := Lib.hid (pySeal_big HU.out hbig)
                  clear hmem hK hbig
                  generalize K.length = KL at *
                  go_wp2_with (go_at_call 50; refine HSB.out.mono ?_; rintro e w8 ⟨rfl, hw8⟩; subst w8)
                  go_ret2
                  rw [HAJ.out]
                  exact ⟨rfl, M, sf, sn, g, HD.out.step HS.out, HL.out.step HS.out, (JGo.refl b l w M sf sn g).then HS.out⟩
                · have hKs : K.length ≤ 1048576 := by omega
                  have HSB := Lib.hid (pySeal_ HU.out hKs)
                  have HSH2 : Hid (∀ j (hj : j < recs.length), j < k + 1 → (recs[j]).length ≤ 1048576) := Lib.hid (fun j hj hlt2 => by
                    rcases Nat.lt_or_ge j k with h | h
                    · exact HSH.out j hj h
                    · obtain rfl : j = k := by omega
                      rw [← hK]; exact hKs)
                  have htk : Hid (headL L ++ sealsB (recs.take (k + 1)) = (headL L ++ sealsB (recs.take k)) ++ sealB K) := Lib.hid (by rw [sealsB_take hlt, hK, List.append_assoc])
                  have hlt2 : Hid (k + 1 ≤ recs.length) := Lib.hid hlt
                  have hkw : k + 1 < 9223372036854775807 := by have h := lim_eq; omega
                  have hlm : Hid ((headL L ++ sealsB (recs.take k)).length + (sealB K).length ≤ lim) := Lib.hid (by rw [hK]; exact dataL_take HRJ.out.data hlt)
                  clear hmem hK hbig HSH
                  generalize K.length = KL at *
                  go_wp2_with (first
                    | (go_at_call 50; refine HSB.out.mono ?_; rintro e w8 ⟨v8, rfl, hA8, hS8⟩; obtain ⟨a8, n8, c8, rfl, HN8⟩ := hA8.valN; have HA8 := Lib.hid (Gr.Own.rep' hA8 (fun c hc hm => by have := (hA8.lt hc).1; omega)); have HA := Lib.hid (HA.out.step hS8); have HB := Lib.hid (CellsAt.step HB.out hS8); have HS := Lib.hid (HS.out.trans hS8); clear hA8 hS8)
                    | (at_builtin; refine wpList_append_acc (w0 := w) (ys := sealB K) rfl (.tmp 82) (.tmp 83) rfl stBytes HS.out HA.out (Src.flat Ty.flat_byte HA8.out) hlm.out (by rfl) (by rfl) ?_; intro v9 w9 hA9 hB9 hG9 hn9; have HA9 := Lib.hid hA9; have HS9 := Lib.hid hB9; have HB9 : Hid (CellsAt w9 fb (flV F1) 89) := Lib.hid (HB.out.kept (hG9.block fb HB.out.lt (fun er => HNE.out _ er.symm rfl))); have HNE9 : Hid (∀ g, v9.ownBlock = some g → g ≠ fb) := Lib.hid (fun g hg er => by rcases hn9 with h | h; exact HNE.out g (by rw [← h]; exact hg) er; (rw [hg] at h; injection h with h; have := HB.out.lt; omega)); clear hA9 hB9 hG9 hn9))
                  go_roundw
                  case rel => exact ⟨k + 1, by go_num, hlt2.out, HSH2, by rw [htk.out]; exact HA9, HB9, HNE9, HS9⟩
                  case measure => (have h2 := hlt2.out; simp [Go.RowKit.intOf]; omega)
              · have hd : decide ((k : Int) < (recs.length : Int)) = false := decide_eq_false (by omega)
                have hke : Hid (recs.take k = recs) := Lib.hid (List.take_of_length_le (by omega))
                have HTL : Hid (tooLong recs = false) := Lib.hid (by
                  unfold tooLong
                  rw [List.any_eq_false]
                  intro r hr
                  obtain ⟨j, hj, rfl⟩ := List.mem_iff_getElem.1 hr
                  have := HSH.out j hj (by omega)
                  simpa using this)
                rw [hke.out] at HA HON
                clear hke HSH
                go_upto_region 17 with fail
                obtain ⟨nm, hnm⟩ : ∃ nm, nm = nameB pre F1.serial := ⟨_, rfl⟩
                obtain ⟨D2, hD2⟩ : ∃ D2, D2 = (appendD D nm (dataL L recs)).1 := ⟨_, rfl⟩
                obtain ⟨e9, he9⟩ : ∃ e9, e9 = (appendD D nm (dataL L recs)).2 := ⟨_, rfl⟩
                have HAJ : Hid (appendJ pre D L recs = if e9 = 0 then ((D2, pushL L recs), F0.to_, 0) else ((D2, L), 0, e9)) := Lib.hid (by
                  unfold appendJ
                  rw [if_neg h0, if_neg (by rw [HTL.out]; simp), ← HF1.out, ← hnm, ← hD2, ← he9, ← HF0.out])
                have p0 : wr.cell? ⟨l, 0, none⟩ = some (.pointer (some ⟨b, 0, none⟩)) := (HS.out.cell hllt 0).trans l0
                have q0 : wr.cell? ⟨fb, 0, none⟩ = some (.int .u64 (F1.serial : Int)) := HB.out.cell 0
                have HNM : Hid (∀ W : World, Step wr W → Calls Tryz.prog 51 #[.pointer (some ⟨l, 0, none⟩), .int .u64 (F1.serial : Int)] W fun e w' => e = .returned (encStr nm) ∧ ∃ m, w' = W.drewN m) := Lib.hid (fun W hW => by
                  obtain ⟨fv2, hlg2, _⟩ := HL.out.row
                  rw [hnm]
                  exact jName_ (CellsAt.step hlg2 (HS.out.trans hW)) (by rw [HF1.out]; exact HRJ.out.serial) (by have := HRJ.out.prel; omega))
                have HDF : Hid (∀ W : World, Step wr W → DriveAt W (fun c => M c ∨ c = fb) b sf sn D) := Lib.hid (fun W hW => by
                  have hSW := HS.out.trans hW
                  have hfz := Nat.lt_of_lt_of_le hzr hW.size
                  refine HD.out.keep (fun c hc => ⟨hSW.heap (HD.out.lt hc), .inl (HD.out.own c hc)⟩) (fun c hc hn => ⟨hSW.heap hc, fun hx => hx.elim hn (fun e => by omega)⟩) (fun c hc => ?_)
                  rcases hc with hc | rfl
                  · exact Nat.lt_of_lt_of_le (HD.out.old c hc) hSW.size
                  · exact hfz)
                have HAP : Hid (∀ W : World, Step wr W → Calls Tryz.prog 27 #[.pointer (some ⟨b, 0, none⟩), encStr nm, .slice oa on oc] W fun y w' => y = .returned (.int .i64 e9) ∧ ∃ M' sf' sn', DriveAt w' M' b sf' sn' D2 ∧ DGo b W (fun c => M c ∨ c = fb) sf sn w' M' sf' sn') := Lib.hid (fun W hW => by
                  rw [hD2, he9]
                  refine dAppend_ (M2 := fun _ => False) (HDF.out W hW) (Ty.step _ (Gr.Own.rep' (Gr.Own.flat Ty.flat_byte HA.out) (fun c hc hm => hm)) hW) ?_ HRJ.out.used HRJ.out.room0 HRJ.out.room1 ?_ HRJ.out.few
                  · have := nameB_len pre F1.serial
                    have := HRJ.out.prel
                    rw [hnm]; omega
                  · have h1 := HRJ.out.data
                    have h2 := HRJ.out.file
                    rw [← HF1.out, ← hnm] at h2
                    omega)
                have HED := Lib.hid hD2
                have HON2 : Hid (on = (dataL L recs).length) := Lib.hid HON.out
                clear hnm hD2 he9 HON
                have hbl : b < w.heap.size := HD.out.lt (.inl rfl)
                refine wp_region_cut (S := (fun w' => w'.cell? ⟨l, 0, none⟩ = some (.pointer (some ⟨b, 0, none⟩)) ∧ w'.cell? ⟨fb, 0, none⟩ = some (.int .u64 (F1.serial : Int)))) 9 (by kernel_rfl) ?_ (fun hHeld => ?_)
                · (go_keep)
                refine tkC 0 [1, 2, 3, 9, 10] ?_
                try simp only [Act.put, gtA, gtB, gtC, gtD, gtE, gtF]
                refine tkC 1 [2, 3, 9, 10] ?_
                try simp only [Act.put, gtA, gtB, gtC, gtD, gtE, gtF]
                refine tkC 2 [3, 9, 10] ?_
                try simp only [Act.put, gtA, gtB, gtC, gtD, gtE, gtF]
                refine tkC 3 [9, 10] ?_
                try simp only [Act.put, gtA, gtB, gtC, gtD, gtE, gtF]
                refine tkC 4 [7, 9, 10] ?_
                try simp only [Act.put, gtA, gtB, gtC, gtD, gtE, gtF]
                refine tkC 5 [6, 7, 9, 10] ?_
                try simp only [Act.put, gtA, gtB, gtC, gtD, gtE, gtF]
                refine tkC 6 [7, 9, 10] ?_
                try simp only [Act.put, gtA, gtB, gtC, gtD, gtE, gtF]
                refine tkC 8 [9, 10] ?_
                try simp only [Act.put, gtA, gtB, gtC, gtD, gtE, gtF]
                refine rdC (rs := [7]) (.cons rfl (by decide) (fun K hK => ?_) .nil)
                try simp only [gtA, gtB, gtC]
                go_simp
                (go_at_call 51; refine (HNM.out _ stp).mono ?_; rintro e w8 ⟨rfl, m8, rfl⟩)
                refine hK.out _ _ ?_ (fun hHeld => ?_)
                · (go_keep)
                clear hK K
                try simp only [Act.put, gtA, gtB, gtC, gtD, gtE, gtF]
                refine rdC (rs := [9]) (.cut rfl (fun K hK => ?_))
                try simp only [gtA, gtB, gtC]
                go_simp
                (go_at_call 27; refine (HAP.out _ stp).mono ?_; rintro e w9 ⟨rfl, M', sf', sn', hD9, hG9⟩)
                refine hK.out _ _ trivial (fun hHeld => ?_)
                clear hK K
                try simp only [Act.put, gtA, gtB, gtC, gtD, gtE, gtF]
                have hTrue : True := trivial
                refine tkH 10 ?_
                try simp only [Act.put, gtA, gtB, gtC, gtD, gtE, gtF]
                refine wpAnyH_done (by kernel_rfl) ?_ _
                have HG9 := Lib.hid (JGo.fromD (l := l) (M := M) (w := w) g (HS.out.trans stp) (fun c hc => .inl hc) (fun c hc hx => hx.elim id (fun e => by omega)) hG9)
                have HL9 := Lib.hid (LogAt.beside ((HL.out.step (HS.out.trans stp)).mono (fun c hc => .inl hc)) (HDF.out _ stp) hG9)
                have HB9 : Hid (CellsAt w9 fb (flV F1) 89) := Lib.hid (by
                  have h1 := CellsAt.step HB.out (stp : Step wr (wr.drewN (1 + m8)))
                  have hlt9 := h1.lt
                  exact h1.kept (hG9.turn.block fb h1.lt (fun hx => hx.elim (fun h => by omega) ((HDF.out _ stp).notDM (l := fb) h1 (by omega)))))
                have HMF : Hid (M' fb) := Lib.hid (hG9.more fb (.inr rfl))
                have HD9 := Lib.hid hD9
                clear hD9 hG9 HNM HAP HDF p0 q0 HA HNE HB HS hzr
                by_cases he : e9 = 0
                · subst he
                  have HAJ2 := Lib.hid (HAJ.out.trans (if_pos rfl))
                  clear HAJ
                  have k0 : w9.cell? ⟨fb, 0, none⟩ = some (.int .u64 (F1.serial : Int)) := HB9.out.cell 0
                  have k1 : w9.cell? ⟨fb, 1, none⟩ = some (.int .u64 (F1.from_ : Int)) := HB9.out.cell 1
                  have k2 : w9.cell? ⟨fb, 2, none⟩ = some (.int .u64 (F1.to_ : Int)) := HB9.out.cell 2
                  have k3 : w9.cell? ⟨fb, 3, none⟩ = some (.int .i64 F1.size) := HB9.out.cell 3
                  have g0 : ∀ j, w9.frozen? ⟨fb, j, none⟩ = false := fun j => HB9.out.frozen j
                  have hszr := HRJ.out.size
                  have hto := HRJ.out.to_
                  rw [← HF1.out, ← HON2.out] at hszr
                  rw [← openF_to, ← HF1.out] at hto
                  have hw1 : IntKind.i64.wrap (F1.size + (on : Int)) = F1.size + (on : Int) := by rw [IntKind.wrap_i64]; omega
                  have hw2 : IntKind.u64.wrap (recs.length : Int) = (recs.length : Int) := by rw [IntKind.wrap_u64]; omega
                  have hw3 : IntKind.u64.wrap ((F1.to_ : Int) + (recs.length : Int)) = (F1.to_ : Int) + (recs.length : Int) := by rw [IntKind.wrap_u64]; omega
                  go_upto_region 24 with fail
                  obtain ⟨i0, hi0⟩ : ∃ i0, L.files = i0 ++ [F0] := by
                    rcases files_cases L.files with h | ⟨i, f, h⟩
                    · exact absurd (by rw [HN.out, h]; rfl) C1.out
                    · exact ⟨i, by rw [HF0.out, h, lastF_snoc]⟩
                  obtain ⟨F2, hF2⟩ : ∃ F2, F2 = grownF L recs := ⟨_, rfl⟩
                  have hF2e : F2 = ⟨F1.serial, F1.from_, F1.to_ + recs.length, F1.size + on⟩ := by rw [hF2, HON2.out, HF1.out]; rfl
                  have hpush : Hid (pushL L recs = { L with files := i0 ++ [F2], closed := false }) := Lib.hid (by rw [hF2]; unfold pushL; rw [hfr1.out, hi0]; simp)
                  have hser := HRJ.out.serial
                  have hfew := HRJ.out.files
                  rw [← HF1.out] at hser
                  have hF1f : F1.from_ < 18446744073709551616 := by rw [HF1E.out]; exact hF0ok.2.1
                  have hF2ok : F2.Ok := by rw [hF2e]; exact ⟨by show F1.serial < 1000; omega, hF1f, hto, by show 0 ≤ F1.size + (on : Int) ∧ F1.size + (on : Int) ≤ 1152921504606846976; omega⟩
                  refine wp_code (fun wx => CellsAt wx fb (flV F2) 89 ∧ Turn (· = fb) w9 wx) ⟨?_, ?_⟩ ?_
                  · have h := CellsAt.set (CellsAt.set HB9.out 3 (.int .i64 (F1.size + (on : Int)))) 2 (.int .u64 ((F1.to_ : Int) + (recs.length : Int)))
                    rw [hF2e]
                    exact h
                  · refine Turn.setCell (M := fun x => x = fb) (Turn.setCell (M := fun x => x = fb) (Turn.refl _ w9) (fun _ => ?_) _) (fun _ => ?_) _ <;> rfl
                  clear k0 k1 k2 k3 g0 hF2 hF2e hw1 hw2 hw3
                  rintro w10 ⟨hb10, hT10⟩
                  have hgf : ∀ c, g = some c → c < w.heap.size ∧ c ≠ fb ∧ c ≠ l ∧ c ≠ b := fun c hc => by
                    obtain ⟨fv, _, hfr, hgb2⟩ := HL.out.row
                    have h1 := hfr.lt (hgb2.trans hc)
                    exact ⟨h1, by omega, (HL.out.gown c hc).2⟩
                  obtain ⟨fv9, hlg9, hfr9, hgb9⟩ := HL9.out.row
                  obtain ⟨a9, c9, rfl⟩ := hfr9.val
                  have hlg10 := hlg9.kept (hT10.block l hlg9.lt (fun e => by omega))
                  have hfr10 := hfr9.kept (fun c hc => hT10.block c (hfr9.lt hc) (hgf c (hgb9.symm.trans hc)).2.1)
                  rw [hi0] at hfr10
                  obtain ⟨g9, o9, rfl, hg9, q0, q1, q2, q3, hz9⟩ := hfr10.cells (k := i0.length) (by simp)
                  rw [List.getElem_append_right (Nat.le_refl _)] at q0 q1 q2 q3
                  simp only [Nat.sub_self, List.getElem_cons_zero] at q0 q1 q2 q3
                  have hgg : g = some g9 := hgb9.symm
                  subst hgg
                  have hnl : L.files.length = i0.length + 1 := by rw [hi0]; simp
                  rw [hnl] at hlg10 hgb9 hfew
                  rw [← hi0, hnl] at hfr10
                  rw [hi0] at hfr10
                  have m3 : w10.cell? ⟨l, 3, none⟩ = some (.slice (some ⟨g9, o9, none⟩) (i0.length + 1) c9) := hlg10.cell 3
                  have k0 : w10.cell? ⟨fb, 0, none⟩ = some (.int .u64 (F2.serial : Int)) := hb10.cell 0
                  have k1 : w10.cell? ⟨fb, 1, none⟩ = some (.int .u64 (F2.from_ : Int)) := hb10.cell 1
                  have k2 : w10.cell? ⟨fb, 2, none⟩ = some (.int .u64 (F2.to_ : Int)) := hb10.cell 2
                  have k3 : w10.cell? ⟨fb, 3, none⟩ = some (.int .i64 F2.size) := hb10.cell 3
                  have hl10 : l < w10.heap.size := hlg10.lt
                  have hfb10 : fb < w10.heap.size := hb10.lt
                  have HLG10 := Lib.hid hlg10
                  have HFR10 := Lib.hid (hfr10.setLast (f := F2) hF2ok)
                  have HT10 := Lib.hid hT10
                  have hz910 := Lib.hid hT10.size
                  have hg9l := hgf g9 rfl
                  have HI0 := Lib.hid hi0
                  have HNL := Lib.hid hnl
                  clear hlg9 hfr9 hlg10 hfr10 hb10 hT10 hi0 hnl
                  generalize hN0 : i0.length = N at *
                  have hwn : IntKind.i64.wrap (N : Int) = (N : Int) := by rw [IntKind.wrap_i64]; omega
                  have hnlt : (N : Int) < (N : Int) + 1 := by omega
                  refine wp_region_cut (S := (fun w' => w'.cell? ⟨l, 3, none⟩ = some (.slice (some ⟨g9, o9, none⟩) (N + 1) c9) ∧ w'.cell? ⟨fb, 0, none⟩ = some (.int .u64 (F2.serial : Int)) ∧ w'.cell? ⟨fb, 1, none⟩ = some (.int .u64 (F2.from_ : Int)) ∧ w'.cell? ⟨fb, 2, none⟩ = some (.int .u64 (F2.to_ : Int)) ∧ w'.cell? ⟨fb, 3, none⟩ = some (.int .i64 F2.size))) 12 (by kernel_rfl) ?_ (fun hHeld => ?_)
                  · (go_keep)
                  refine tkC 0 [1, 2, 3, 11, 12] ?_
                  try simp only [Act.put, gtA, gtB, gtC, gtD, gtE, gtF]
                  refine tkC 1 [2, 3, 11, 12] ?_
                  try simp only [Act.put, gtA, gtB, gtC, gtD, gtE, gtF]
                  refine tkC 2 [3, 11, 12] ?_
                  try simp only [Act.put, gtA, gtB, gtC, gtD, gtE, gtF]
                  refine tkC 3 [11, 12] ?_
                  try simp only [Act.put, gtA, gtB, gtC, gtD, gtE, gtF]
                  refine tkC 4 [5, 6, 7, 8, 9, 11, 12] ?_
                  try simp only [Act.put, gtA, gtB, gtC, gtD, gtE, gtF]
                  refine tkC 5 [6, 7, 8, 9, 11, 12] ?_
                  try simp only [Act.put, gtA, gtB, gtC, gtD, gtE, gtF]
                  refine tkC 6 [7, 8, 9, 11, 12] ?_
                  try simp only [Act.put, gtA, gtB, gtC, gtD, gtE, gtF]
                  refine tkC 7 [8, 9, 11, 12] ?_
                  try simp only [Act.put, gtA, gtB, gtC, gtD, gtE, gtF]
                  refine tkC 8 [9, 11, 12] ?_
                  try simp only [Act.put, gtA, gtB, gtC, gtD, gtE, gtF]
                  refine tkC 9 [11, 12] ?_
                  try simp only [Act.put, gtA, gtB, gtC, gtD, gtE, gtF]
                  refine tkC 10 [11, 12] ?_
                  try simp only [Act.put, gtA, gtB, gtC, gtD, gtE, gtF]
                  refine tkC 11 [12] ?_
                  try simp only [Act.put, gtA, gtB, gtC, gtD, gtE, gtF]
                  refine rdC (rs := [12]) (.cut rfl (fun K hK => ?_))
                  try simp only [gtA, gtB, gtC]
                  go_simp
                  refine hK.out _ _ trivial (fun hHeld => ?_)
                  clear hK K
                  try simp only [Act.put, gtA, gtB, gtC, gtD, gtE, gtF]
                  have hTrue : True := trivial
                  refine wpAnyH_done (by kernel_rfl) ?_ _
                  have hgl11 : blkOf (.slice (some ⟨g9, o9, none⟩) (N + 1) c9) ≠ some l := fun e => hg9l.2.2.1 (by injection e)
                  have HBK : Hid (blkOf (.slice (some ⟨g9, o9, none⟩) (N + 1) c9) = some g9 ∨ ∃ c, blkOf (.slice (some ⟨g9, o9, none⟩) (N + 1) c9) = some c ∧ w10.heap.size ≤ c) := Lib.hid (.inl rfl)
                  refine wp_at (fun wx => LgAt wx l b pre L.most (.slice (some ⟨g9, o9, none⟩) (N + 1) c9) L.closed ∧ FRow wx (.slice (some ⟨g9, o9, none⟩) (N + 1) c9) (i0 ++ [F2]) ∧ Turn (fun c => c = fb ∨ c = l ∨ some g9 = some c) w9 wx) ⟨?_, ?_, ?_⟩ ?_
                  · have hne : l ≠ g9 := fun e => hg9l.2.2.1 e.symm
                    exact CellsAt.step (CellsAt.other (CellsAt.other (CellsAt.other (CellsAt.other HLG10.out (p := ⟨g9, _, none⟩) hne _) (p := ⟨g9, _, none⟩) hne _) (p := ⟨g9, _, none⟩) hne _) (p := ⟨g9, _, none⟩) hne _) stp
                  · exact HFR10.out.step stp
                  · exact Turn.drew (Turn.setCell (Turn.setCell (Turn.setCell (Turn.setCell (HT10.out.mono fun c _ h => .inl h) (p := ⟨g9, _, none⟩) (fun _ => .inr (.inr rfl)) _) (p := ⟨g9, _, none⟩) (fun _ => .inr (.inr rfl)) _) (p := ⟨g9, _, none⟩) (fun _ => .inr (.inr rfl)) _) (p := ⟨g9, _, none⟩) (fun _ => .inr (.inr rfl)) _)
                  clear m3 k0 k1 k2 k3 q0 q1 q2 q3 HLG10 HFR10 HT10 hz9
                  rintro w12 ⟨hlg12, hfr12, hT12⟩
                  have m4 : w12.cell? ⟨l, 4, none⟩ = some (.bool L.closed) := hlg12.cell 4
                  have f12 : ∀ j, w12.frozen? ⟨l, j, none⟩ = false := fun j => hlg12.frozen j
                  have hz9 : w9.heap.size ≤ w10.heap.size := hz910.out
                  have HLG12 := Lib.hid hlg12
                  have HFR12 := Lib.hid hfr12
                  have HT12 := Lib.hid hT12
                  clear hlg12 hfr12 hT12
                  go_wp2
                  go_ret2
                  rw [HAJ2.out, hpush.out]
                  refine ⟨rfl, append_end HG9.out HD9.out HL9.out HMF.out hfbw HB9.out (by omega) (HT12.out.setCell (fun _ => .inr (.inl rfl)) _) (CellsAt.set HLG12.out 4 _) (HFR12.out.kept (fun c hc => heap_setCell_other _ _ _ _ (fun e => hgl11 (hc.trans (congrArg some e))))) (HBK.out.imp id (fun ⟨c, h, h2⟩ => ⟨c, h, by omega⟩))⟩


                · have heb : (e9 == 0) = false := beq_eq_false_iff_ne.2 he
                  go_wp2
                  go_ret2
                  rw [HAJ.out, if_neg he]
                  exact ⟨rfl, M', sf', sn', g, HD9.out, HL9.out, HG9.out⟩


end Go.Proofs.YthebdlkmoailaaaGreatDoor
