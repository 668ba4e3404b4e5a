/-
  Walks: a journal's Closed, Close; what its own turning leaves.
  Walk: a journal's Spans.
  Walk: Equals, at lists that read alike.
  Plain words: a new drive, and a journal upon it.
  Plain words: a journal's files in order, whatever the first serial; what appends, drops and crashes make of them.
  Walk: a journal's Drop.
  A journal in order, with its memory: what an append makes of it.
  A journal in order, with its memory: opened, asked for its records.
-/
import Derived.Test.YthebdlkmoailaaaGreatDoorZK13
import Derived.Test.YthebdlkmoailaaaGreatDoorZP10
import Derived.Test.YthebdlkmoailaaaGreatDoorZWE
set_option linter.unusedVariables false
set_option linter.unusedSimpArgs false
namespace Go.Proofs.YthebdlkmoailaaaGreatDoor
open Go.RowKit Go.Gr Go.Maps
open Go.Proofs (encStr)
set_option linter.unusedSimpArgs false
set_option linter.unusedVariables false
/-- The journal's own cells have turned, no others. -/
theorem log_turn {w w1 w2 : World} {M M' : Nat → Prop} {b l : Nat} {sf sn sf' sn' g g' : Option Nat} {pre : List UInt8} {L : DLog} {D : DDr} {fv : Value} {fs : List DFile} {closed : Bool} (hG : JGo b l w M sf sn g w1 M' sf' sn' g') (hD : DriveAt w1 M' b sf' sn' D) (hL : LogAt w1 M' l b g' pre L) (T : Turn (fun c => c = l) w1 w2) (hlg : LgAt w2 l b pre L.most fv closed) (hfr : FRow w2 fv fs) (hbk : blkOf fv = g') :
    DriveAt w2 M' b sf' sn' D ∧ LogAt w2 M' l b g' pre ⟨L.most, fs, closed⟩ ∧ JGo b l w M sf sn g w2 M' sf' sn' g' := by
  obtain ⟨fv1, hlg1, hfr1, hgb1⟩ := hL.row
  refine ⟨hD.beside T (fun c hc hx => ?_) (fun c hc => hc) (fun c _ hc => hc) (fun c hc => Nat.lt_of_lt_of_le (hD.old c hc) T.size), ⟨⟨fv, hlg, hfr, hbk⟩, hL.own, hL.gown, hL.ne, hL.most⟩, hG.turned T (fun c _ hx => .inr (.inl hx)) (fun c hc => hc) (fun c _ hc => hc) (fun c _ hc => hc)⟩
  subst hx
  exact ⟨hL.own, hD.notDM hlg1 hL.ne⟩
set_option maxRecDepth 100000 in
theorem jClosed_ {w : World} {l b : Nat} {pre : List UInt8} {most : Int} {fv : Value} {closed : Bool} {fs : List DFile} (hl : LgAt w l b pre most fv closed) (hf : FRow w fv fs) :
    Calls Tryz.prog 41 #[.pointer (some ⟨l, 0, none⟩)] w fun e w' => e = .returned (.int .u64 ((if closed then (lastF fs).to_ else (lastF fs).from_ : Nat) : Int)) ∧ Step w w' := by
  have HN : Hid (∀ W : World, Step w W → Calls Tryz.prog 17 #[.pointer (some ⟨l, 0, none⟩)] W fun e w' => e = .returned (.int .u64 ((lastF fs).to_ : Int)) ∧ Step W w') := Lib.hid (fun W hW => jNext_ (CellsAt.step hl hW) (hf.step hW))
  obtain ⟨f, hfe⟩ : ∃ f, f = lastF fs := ⟨_, rfl⟩
  have HL : Hid (∀ W : World, Step w W → Calls Tryz.prog 48 #[.pointer (some ⟨l, 0, none⟩)] W fun e w' => e = .returned (.agg #[.int .u64 (f.serial : Int), .int .u64 (f.from_ : Int), .int .u64 (f.to_ : Int), .int .i64 f.size]) ∧ Step W w') := Lib.hid (fun W hW => by rw [hfe]; exact jLast_ (CellsAt.step hl hW) (hf.step hW))
  rw [← hfe] at HN ⊢
  have l4 : w.cell? ⟨l, 4, none⟩ = some (.bool closed) := hl.cell 4
  have hllt := hl.lt
  clear hl hf hfe
  have hfd : ∀ (W : World) (a b c d : Value), (Instr.field 89 (.agg #[a, b, c, d]) 1).run Tryz.prog W = .ok (.agg #[b, c]) W := fun W a b c d => by kernel_rfl
  have hfd2 : ∀ (W : World) (a b : Value), (Instr.field 75 (.agg #[a, b]) 0).run Tryz.prog W = .ok a W := fun W a b => by kernel_rfl
  rcases closed with _ | _
  · go_enter Tryz.func41, Tryz.ntmps41
    go_wp2_with (go_at_call 48; refine (HL.out _ stp).mono ?_; rintro e w1 ⟨rfl, hS1⟩)
    go_ret
    exact ⟨rfl, hS1⟩
  · go_enter Tryz.func41, Tryz.ntmps41
    go_wp2_with (go_at_call 17; refine (HN.out _ stp).mono ?_; rintro e w1 ⟨rfl, hS1⟩)
    go_ret
    exact ⟨rfl, hS1⟩
def closeJ (D : DDr) (L : DLog) : DLog := { L with closed := L.closed || decide ((flushD D).2 = 0) }
set_option maxRecDepth 100000 in
set_option maxHeartbeats 2000000 in
theorem jClose_ {w : World} {M : Nat → Prop} {b l : Nat} {sf sn g : Option Nat} {pre : List UInt8} {D : DDr} {L : DLog} (hD : DriveAt w M b sf sn D) (hL : LogAt w M l b g pre L) :
    Calls Tryz.prog 32 #[.pointer (some ⟨l, 0, none⟩)] w fun e w' => e = .returned (.int .i64 (flushD D).2) ∧ ∃ M' sf' sn' g', DriveAt w' M' b sf' sn' (flushD D).1 ∧ LogAt w' M' l b g' pre (closeJ D L) ∧ JGo b l w M sf sn g w' M' sf' sn' g' := by
  have HF := Lib.hid (dFlush_ hD)
  have HB : Hid (∀ {w' M' sf' sn'}, DGo b w M sf sn w' M' sf' sn' → LogAt w' M' l b g pre L) := Lib.hid (fun h => hL.beside hD h)
  obtain ⟨fv, hlg, hfr, hgb⟩ := hL.row
  have l0 : w.cell? ⟨l, 0, none⟩ = some (.pointer (some ⟨b, 0, none⟩)) := hlg.cell 0
  unfold closeJ
  clear hD hL hlg hfr hgb
  generalize (flushD D).2 = e0 at *
  generalize (flushD D).1 = D1 at *
  go_enter Tryz.func32, Tryz.ntmps32
  go_upto_region 2 with (go_at_call 31; refine HF.out.mono ?_; rintro y w1 ⟨rfl, M1, sf1, sn1, hD1, hG1⟩; have HD1 := Lib.hid hD1; have HL1 := Lib.hid (HB.out hG1); have HG1 := Lib.hid hG1; clear hD1 hG1)
  obtain ⟨fv1, hlg1, hfr1, hgb1⟩ := HL1.out.row
  have m4 : w1.cell? ⟨l, 4, none⟩ = some (.bool L.closed) := hlg1.cell 4
  have f4 : w1.frozen? ⟨l, 4, none⟩ = false := hlg1.frozen 4
  have HLG1 := Lib.hid hlg1
  have HFR1 := Lib.hid hfr1
  have HGB1 := Lib.hid hgb1
  clear hlg1 hfr1 hgb1
  have fin : ∀ c : Bool, DriveAt (w1.setCell ⟨l, 4, none⟩ (.bool c)) M1 b sf1 sn1 D1 ∧ LogAt (w1.setCell ⟨l, 4, none⟩ (.bool c)) M1 l b g pre ⟨L.most, L.files, c⟩ ∧ JGo b l w M sf sn g (w1.setCell ⟨l, 4, none⟩ (.bool c)) M1 sf1 sn1 g := fun c =>
    log_turn (JGo.of g HG1.out) HD1.out HL1.out ((Turn.refl (fun c => c = l) w1).setCell (p := ⟨l, 4, none⟩) (fun _ => rfl) _) (CellsAt.set HLG1.out 4 _) (HFR1.out.kept (fun k hk => heap_setCell_other _ _ _ _ (by
      have := (HL1.out.gown k (HGB1.out.symm.trans hk)).2.1
      exact this))) HGB1.out
  have FIN := Lib.hid fin
  clear fin
  by_cases hc : L.closed = true
  · rw [hc] at m4
    go_wp2
    go_ret
    refine ⟨rfl, M1, sf1, sn1, g, ?_⟩
    have := FIN.out true
    rw [hc]
    simpa using this
  · have hc2 : L.closed = false := by simpa using hc
    rw [hc2] at m4
    go_wp2
    go_ret
    refine ⟨rfl, M1, sf1, sn1, g, ?_⟩
    have := FIN.out (e0 == 0)
    have hb : decide (e0 = 0) = (e0 == 0) := by rw [Bool.eq_iff_iff]; simp
    rw [hc2, hb]
    simpa using this
end Go.Proofs.YthebdlkmoailaaaGreatDoor

namespace Go.Proofs.YthebdlkmoailaaaGreatDoor
open Go.RowKit Go.Gr Go.Maps
open Go.Proofs (encStr)
set_option linter.unusedSimpArgs false
set_option linter.unusedVariables false
abbrev tSpan : Ty (Nat × Nat) := Ty.pair Ty.u64 Ty.u64
theorem stSpan : SliceTy Tryz.prog 72 75 tSpan.n := .mk' (z := .agg #[.int .u64 0, .int .u64 0]) (by_ := 16) Tryz.underlying72 (by kernel_rfl) rfl (by decide) (by omega)
def spansL (fs : List DFile) : List (Nat × Nat) := fs.map fun f => (f.from_, f.to_)
set_option maxRecDepth 100000 in
set_option maxHeartbeats 4000000 in
theorem jSpans_ {w : World} {l b : Nat} {pre : List UInt8} {most : Int} {fv : Value} {closed : Bool} {fs : List DFile} (hl : LgAt w l b pre most fv closed) (hf : FRow w fv fs) :
    Calls Tryz.prog 40 #[.pointer (some ⟨l, 0, none⟩)] w fun e w' => ∃ v, e = .returned v ∧ Gr.Own tSpan 75 w' (fun _ => False) w.heap.size v (spansL fs) ∧ Step w w' := by
  obtain ⟨fa, fc, rfl⟩ := hf.val
  have hfew : fs.length ≤ 1000000 := hf.1
  have l3 : w.cell? ⟨l, 3, none⟩ = some (.slice fa fs.length fc) := hl.cell 3
  have HFR := Lib.hid hf
  clear hl hf
  go_enter Tryz.func40, Tryz.ntmps40
  go_wp2
  clear l3
  go_loopw [3, 11] (fun ov iv w' => ∃ k : Nat, iv = .int .i64 (k : Int) ∧ k ≤ fs.length ∧ Hid (Gr.Own tSpan 75 w' (fun _ => False) w.heap.size ov (spansL (fs.take k))) ∧ Hid (Step w w')) (fun _ iv _ => fs.length - (Go.RowKit.intOf iv).toNat)
  case atStart => exact ⟨0, rfl, Nat.zero_le _, Lib.hid Gr.Own.nil, Lib.hid (Step.refl _)⟩
  case round =>
    obtain ⟨k, rfl, hk, HA, HS⟩ := hrel
    by_cases hlt : k < fs.length
    · have hd : decide ((k : Int) < (fs.length : Int)) = true := decide_eq_true (by omega)
      obtain ⟨oa, on, oc, rfl, HON⟩ := HA.out.valN
      obtain ⟨g9, o9, rfl, hg9, q0, q1, q2, q3, _⟩ := (HFR.out.step HS.out).cells hlt
      have HOKF : Hid ((fs[k]).Ok) := Lib.hid (HFR.out.2.1 _ (List.getElem_mem hlt))
      have htk : Hid (spansL (fs.take (k + 1)) = spansL (fs.take k) ++ [(fs[k].from_, fs[k].to_)]) := Lib.hid (by unfold spansL; rw [List.take_succ_eq_append_getElem hlt, List.map_append]; rfl)
      generalize fs[k] = F at *
      have HLT : Hid (k + 1 ≤ fs.length) := Lib.hid hlt
      go_upto_region 5 with fail
      refine wp_code (fun wx => CellsAt wx wr.heap.size (flV F) 89 ∧ Step wr wx) ⟨CellsAt.new rfl, by (repeat (first | exact Step.refl _ | refine Step.alloc ?_ _ | refine Step.drew ?_ | refine Step.drewN ?_ _ | refine Step.setCell ?_ (by first | exact Nat.le_refl _ | assumption | omega | (simp; done) | (simp; omega)) _ | assumption | refine Step.trans ?_ (by assumption : Step _ _)))⟩ ?_
      rintro w3 ⟨hb3, hS3⟩
      obtain ⟨fb, hfb⟩ : ∃ fb, fb = wr.heap.size := ⟨_, rfl⟩
      rw [← hfb] at hb3 ⊢
      have k1 : w3.cell? ⟨fb, 1, none⟩ = some (.int .u64 (F.from_ : Int)) := hb3.cell 1
      have k2 : w3.cell? ⟨fb, 2, none⟩ = some (.int .u64 (F.to_ : Int)) := hb3.cell 2
      have HS3 := Lib.hid hS3
      clear hS3 hb3 hfb q0 q1 q2 q3
      have hlim : Hid ((spansL (fs.take k)).length + 1 ≤ lim) := Lib.hid (by unfold spansL; rw [List.length_map, List.length_take, lim_eq]; omega)
      go_wp2_with (at_builtin; refine wpList_append_acc (w0 := w) (E := tSpan) (ys := [(F.from_, F.to_)]) rfl (.tmp 15) (.tmp 18) rfl stSpan (HS.out.trans (HS3.out.trans stp)) (Gr.Own.step HA.out (HS3.out.trans stp)) (Src.oneAt (E := tSpan) (y := (F.from_, F.to_)) (by first | rfl | simp) ⟨[_], [_], rfl, ⟨rfl, HOKF.out.from_⟩, ⟨rfl, HOKF.out.to_⟩⟩) hlim.out (by rfl) (by rfl) ?_; intro v7 w7 hA7 hB7 hG7 hn7; have HA7 := Lib.hid hA7; have HS7 := Lib.hid hB7; clear hA7 hB7 hG7 hn7)
      go_roundw
      case rel => exact ⟨k + 1, by go_num, HLT.out, by rw [htk.out]; exact HA7, HS7⟩
      case measure => simp [Go.RowKit.intOf]; omega
    · have hd : decide ((k : Int) < (fs.length : Int)) = false := decide_eq_false (by omega)
      have hke : fs.take k = fs := List.take_of_length_le (by omega)
      rw [hke] at HA
      go_wp2
      go_ret
      exact ⟨_, rfl, HA.out, HS.out⟩
end Go.Proofs.YthebdlkmoailaaaGreatDoor

namespace Go.Proofs.YthebdlkmoailaaaGreatDoor
open Go.RowKit Go.Gr
set_option linter.unusedSimpArgs false
set_option linter.unusedVariables false
set_option maxRecDepth 100000 in
set_option maxHeartbeats 4000000 in
theorem Equals_same {w : World} {M M2 : Nat → Prop} {v v2 : Value} {xs : List (List UInt8)} (h : (Ty.slice Ty.bytes).rep w M [v] xs) (h2 : (Ty.slice Ty.bytes).rep w M2 [v2] xs) :
    Calls Tryz.prog 18 #[v, v2] w fun e w' => e = .returned (.bool true) ∧ Step w w' := by
  obtain ⟨a, c, rfl, _, _, hl⟩ := Ty.slice_val h
  obtain ⟨a2, c2, rfl, _, _, _⟩ := Ty.slice_val h2
  rw [lim_eq] at hl
  have H := Lib.hid h
  have H2 := Lib.hid h2
  clear h h2
  have he : ((xs.length : Int) == (xs.length : Int)) = true := beq_self_eq_true _
  go_enter Tryz.func18, Tryz.ntmps18
  go_wp2
  go_loopw [5] (fun iv w' => ∃ k : Nat, iv = .int .i64 (k : Int) ∧ k ≤ xs.length ∧ Hid (Step w w')) (fun iv _ => xs.length - (Go.RowKit.intOf iv).toNat)
  case atStart => exact ⟨0, rfl, Nat.zero_le _, Lib.hid (Step.refl _)⟩
  case round =>
    obtain ⟨k, rfl, hk, HS⟩ := hrel
    by_cases hlt : k < xs.length
    · have hd : decide ((k : Int) < (xs.length : Int)) = true := decide_eq_true (by omega)
      obtain ⟨b1, o1, u1, rfl, hb1, _, hu1, hc1⟩ := Ty.slice_at1 rfl H.out hlt
      obtain ⟨b2, o2, u2, rfl, hb2, _, hu2, hc2⟩ := Ty.slice_at1 rfl H2.out hlt
      have hc1' : wr.cell? ⟨b1, o1 + k, none⟩ = some u1 := (HS.out.cell hb1 _).trans hc1
      have hc2' : wr.cell? ⟨b2, o2 + k, none⟩ = some u2 := (HS.out.cell hb2 _).trans hc2
      have hcu1 := Ty.step _ hu1 HS.out
      have hcu2 := Ty.step _ hu2 HS.out
      obtain ⟨va, vc, rfl, _, _, _⟩ := Ty.slice_val hu1
      obtain ⟨va2, vc2, rfl, _, _, _⟩ := Ty.slice_val hu2
      have HU1 := Lib.hid hcu1
      have HU2 := Lib.hid hcu2
      clear hc1 hc2 hu1 hu2 hcu1 hcu2
      generalize xs[k] = KK at *
      have HEQ : Hid (∀ W : World, Step wr W → Calls Tryz.prog 22 #[.slice va KK.length vc, .slice va2 KK.length vc2] W fun e w' => e = .returned (.bool true) ∧ ∃ n, w' = W.drewN n) := Lib.hid (fun W hW => by
        have h := Equal_ (Ty.step _ HU1.out hW) (Ty.step _ HU2.out hW)
        rw [decide_eq_true rfl] at h
        exact h)
      have HLT : Hid (k + 1 ≤ xs.length) := Lib.hid hlt
      generalize hkn : KK.length = n at *
      clear hkn HU1 HU2
      go_upto_region 6 with fail
      refine wp_region_held_drew (S := (fun w' => w'.cell? ⟨b1, o1 + k, none⟩ = some (.slice va n vc) ∧ w'.cell? ⟨b2, o2 + k, none⟩ = some (.slice va2 n vc2))) (by kernel_rfl) ?_ (fun hHeld => ?_)
      · (go_keep)
      refine tkH 0 ?_
      try simp only [Act.put, gtA, gtB, gtC, gtD, gtE, gtF]
      refine tkH 1 ?_
      try simp only [Act.put, gtA, gtB, gtC, gtD, gtE, gtF]
      refine tkH 2 ?_
      try simp only [Act.put, gtA, gtB, gtC, gtD, gtE, gtF]
      refine tkH 3 ?_
      try simp only [Act.put, gtA, gtB, gtC, gtD, gtE, gtF]
      refine tkH 4 ?_
      try simp only [Act.put, gtA, gtB, gtC, gtD, gtE, gtF]
      refine tkH 5 ?_
      try simp only [Act.put, gtA, gtB, gtC, gtD, gtE, gtF]
      refine tkH 6 ?_
      try simp only [Act.put, gtA, gtB, gtC, gtD, gtE, gtF]
      refine tkH 7 ?_
      try simp only [Act.put, gtA, gtB, gtC, gtD, gtE, gtF]
      refine rdH (rs := [8]) (.cons rfl (fun K hK => ?_) .nil)
      try simp only [gtA, gtB, gtC]
      go_simp
      (go_at_call 22; refine (HEQ.out _ stp).mono ?_; rintro e w3 ⟨rfl, m3, rfl⟩)
      refine hK.out _ _ ?_ (fun hHeld => ?_)
      · (go_keep)
      clear hK K
      try simp only [Act.put, gtA, gtB, gtC, gtD, gtE, gtF]
      refine tkH 9 ?_
      try simp only [Act.put, gtA, gtB, gtC, gtD, gtE, gtF]
      refine wpAnyH_done (by kernel_rfl) ?_ _
      go_wp2
      have HS3 : Hid (Step w wr) := HS
      go_roundw
      case rel => exact ⟨k + 1, by go_num, HLT.out, Lib.hid (HS.out.trans stp)⟩
      case measure => simp [Go.RowKit.intOf]; omega
    · have hd : decide ((k : Int) < (xs.length : Int)) = false := decide_eq_false (by omega)
      go_wp2
      go_ret
      exact ⟨rfl, HS.out⟩
end Go.Proofs.YthebdlkmoailaaaGreatDoor

namespace Go.Proofs.YthebdlkmoailaaaGreatDoor
open Go.RowKit Go.Gr Go.Maps
set_option linter.unusedSimpArgs false
set_option linter.unusedVariables false
theorem DDr.new_wf (r : Int) : (DDr.new r).Wf := ⟨trivial, rfl, by simp [DDr.new], fun h => by simp [DDr.new] at h, by simp [DDr.new, I64]⟩
theorem DriveAt.new {w : World} {b : Nat} {r : Int} (h : DrAt w b (.map none) (.map none) (.slice none 0 0) (max 0 r) false 0 false) : DriveAt w (· = b) b none none (DDr.new r) := by
  have hlt := h.lt
  refine ⟨⟨.slice none 0 0, h, ⟨none, 0, rfl, Nat.le_refl _, by simp [maxLen], Nat.zero_le _, fun h => absurd h (by simp [DDr.new])⟩⟩, .inl ⟨rfl, rfl⟩, .inl ⟨rfl, rfl⟩, fun m hm => (by cases hm), fun c hc => ?_, fun c hc => ?_, DDr.new_wf r⟩
  · rcases hc with hc | hc | hc
    · exact hc
    · cases hc
    · cases hc
  · have e : c = b := hc
    rw [e]; exact hlt
theorem NamesIn.nil (pre : List UInt8) : NamesIn pre [] 0 0 := fun k => by
  simp only [List.map_nil, List.not_mem_nil, false_iff]
  rintro ⟨n, h1, h2, _⟩
  omega
theorem JInv.new (pre : List UInt8) (r mm : Int) : JInv pre (DDr.new r) ⟨mm, [], true⟩ 0 0 [] := ⟨rfl, rfl, trivial, NamesIn.nil pre, List.Pairwise.nil, fun _ => ⟨rfl, rfl⟩⟩
theorem rising_nodup {l : List DPair} (h : Rising DPair.key l) : (l.map DPair.key).Nodup := by
  rw [List.Nodup, List.pairwise_map]
  exact h.imp fun h => cmpB_ne h
/-- What a journal in order is opened as. -/
theorem JInv.good {pre : List UInt8} {D : DDr} {L : DLog} {s f : Nat} {rss : List (List (List UInt8))} (h : JInv pre D L s f rss) (hs : s + L.files.length < 100) (hf : f + rss.flatten.length < 18446744073709551616) (hu : usedB D.seen ≤ 68719476736) : ChainRoom s f L.files rss ∧ ∃ ns, JNames pre D.seen ns ∧ GoodFs pre D.seen ns L.files := by
  have hr : ChainRoom s f L.files rss := ⟨hs, hf, fun F hF => by
    obtain ⟨_, _, _, _, _, _, h6⟩ := h.chain.mem hF
    have h7 := dataB_le h.rising (nameB pre F.serial)
    rw [h6.data] at h7
    rw [h6.size]
    omega⟩
  exact ⟨hr, h.chain.good hr (rising_nodup h.rising) h.names⟩
theorem firstL_le {pre : List UInt8} {seen : List DPair} {s f : Nat} {fs : List DFile} {rss : List (List (List UInt8))} (h : ChainJ pre seen s f fs rss) (h0 : fs = [] → s = 0 ∧ f = 0) : firstL fs = f := by
  rcases fs with _ | ⟨F, fs⟩
  · exact (h0 rfl).2.symm
  · rcases rss with _ | ⟨rs, rss⟩
    · exact h.elim
    · exact h.1.from_
end Go.Proofs.YthebdlkmoailaaaGreatDoor

namespace Go.Proofs.YthebdlkmoailaaaGreatDoor
open Go.RowKit Go.Gr Go.Maps
set_option linter.unusedSimpArgs false
set_option linter.unusedVariables false
theorem getK_pair {l : List DPair} {k : List UInt8} (h : thereB l k = true) : getK DPair.key l k = some ⟨k, dataB l k⟩ := by
  unfold thereB at h
  unfold dataB
  rcases hg : getK DPair.key l k with _ | ⟨k', v⟩
  · rw [hg] at h; simp at h
  · have := (getK_some hg).2
    simp only at this
    subst this
    rfl
theorem putK_same {k : List UInt8} {l : List DPair} (h : Rising DPair.key l) (ht : thereB l k = true) : putK DPair.key ⟨k, dataB l k⟩ l = l := by
  refine Rising.ext_get h.put h fun x => ?_
  rw [getK_put]
  by_cases hx : x = k
  · subst hx
    rw [if_pos rfl, getK_pair ht]
  · rw [if_neg hx]
theorem keys_drop {seen : List DPair} {nm k : List UInt8} : k ∈ (dropK DPair.key nm seen).map DPair.key ↔ k ≠ nm ∧ k ∈ seen.map DPair.key := by
  simp only [List.mem_map]
  constructor
  · rintro ⟨x, hx, rfl⟩
    obtain ⟨h1, h2⟩ := mem_dropK.1 hx
    exact ⟨h2, x, h1, rfl⟩
  · rintro ⟨h, x, hx, rfl⟩
    exact ⟨x, mem_dropK.2 ⟨hx, h⟩, rfl⟩
theorem dataB_drop (seen : List DPair) (s t : List UInt8) (h : t ≠ s) : dataB (dropK DPair.key s seen) t = dataB seen t ∧ thereB (dropK DPair.key s seen) t = thereB seen t := by
  unfold dataB thereB
  rw [getK_drop, if_neg h]
  exact ⟨rfl, rfl⟩
/-- The files of a drive are a journal's, from serial s + 1 and index f on. -/
structure GoodJ (pre : List UInt8) (seen : List DPair) (s f : Nat) (fs : List DFile) (rss : List (List (List UInt8))) : Prop where
  chain : ChainJ pre seen s f fs rss
  names : NamesIn pre seen s fs.length
  rising : Rising DPair.key seen
  start : fs = [] → s = 0 ∧ f = 0
theorem JInv.goodJ {pre : List UInt8} {D : DDr} {L : DLog} {s f : Nat} {rss : List (List (List UInt8))} (h : JInv pre D L s f rss) : GoodJ pre D.seen s f L.files rss := ⟨h.chain, h.names, h.rising, h.start⟩
theorem GoodJ.inv {pre : List UInt8} {D : DDr} {L : DLog} {s f : Nat} {rss : List (List (List UInt8))} (h : GoodJ pre D.seen s f L.files rss) (h1 : D.dead = false) (h2 : D.armed = false) : JInv pre D L s f rss := ⟨h1, h2, h.chain, h.names, h.rising, h.start⟩
/-- The first file is gone. -/
theorem GoodJ.dropFirst {pre : List UInt8} {seen : List DPair} {s f : Nat} {F : DFile} {fs : List DFile} {r : List (List UInt8)} {rss : List (List (List UInt8))} (h : GoodJ pre seen s f (F :: fs) (r :: rss)) (hne : fs ≠ []) (hs : s + fs.length + 1 < 100) :
    GoodJ pre (dropK DPair.key (nameB pre F.serial) seen) (s + 1) (f + r.length) fs rss := by
  obtain ⟨h1, h2⟩ := h.chain
  have e0 := h1.serial
  refine ⟨h2.congr (fun n k1 k2 => dataB_drop seen _ _ (fun he => ?_)), fun k => ?_, h.rising.drop, fun hx => absurd hx hne⟩
  · have := nameB_inj (by omega) (by omega) he
    omega
  · rw [keys_drop, h.names k]
    simp only [List.length_cons]
    constructor
    · rintro ⟨hk, n, k1, k2, rfl⟩
      refine ⟨n, ?_, by omega, rfl⟩
      rcases Nat.lt_or_ge (s + 1) n with hlt | hge
      · exact hlt
      · exact absurd (show nameB pre n = nameB pre F.serial by rw [e0, show n = s + 1 by omega]) hk
    · rintro ⟨n, k1, k2, rfl⟩
      refine ⟨fun he => ?_, n, by omega, by omega, rfl⟩
      have := nameB_inj (by omega) (by omega) he
      omega
theorem usedB_drop_le {l : List DPair} (h : Rising DPair.key l) (k : List UInt8) : usedB (dropK DPair.key k l) ≤ usedB l := by
  rw [usedB_drop h k]
  omega
/-- Bytes at which no record opens, whatever stands ahead of them. -/
def DeadT (t : List UInt8) : Prop := ∀ b : List UInt8, (openO (b ++ t) b.length).2.2 ≠ 0
theorem usedB_le_put {l : List DPair} (h : Rising DPair.key l) (k a b : List UInt8) (hab : a.length ≤ b.length) : usedB (putK DPair.key ⟨k, a⟩ l) ≤ usedB (putK DPair.key ⟨k, b⟩ l) := by
  unfold putK
  rw [usedB_ins, usedB_ins]
  simp only
  omega
end Go.Proofs.YthebdlkmoailaaaGreatDoor

namespace Go.Proofs.YthebdlkmoailaaaGreatDoor
open Go.RowKit Go.Gr Go.Maps
open Go.Proofs (encStr)
set_option linter.unusedSimpArgs false
set_option linter.unusedVariables false
def dropJ (pre : List UInt8) (below : Nat) : DDr → List DFile → (DDr × List DFile) × Int
  | D, F :: G :: fs => if F.to_ ≤ below then (if (removeD D (nameB pre F.serial)).2 = 0 then dropJ pre below (removeD D (nameB pre F.serial)).1 (G :: fs) else (((removeD D (nameB pre F.serial)).1, F :: G :: fs), (removeD D (nameB pre F.serial)).2)) else ((D, F :: G :: fs), 0)
  | D, fs => ((D, fs), 0)
theorem dropJ_few {pre : List UInt8} {below : Nat} {D : DDr} {fs : List DFile} (h : fs.length ≤ 1) : dropJ pre below D fs = ((D, fs), 0) := by
  rcases fs with _ | ⟨F, _ | ⟨G, fs⟩⟩
  · rfl
  · rfl
  · simp at h
theorem rawB_len (D : DDr) (x : DDeed) (e : Int) : (rawB D x e).1.safe = D.safe ∧ (rawB D x e).1.queue.length ≤ D.queue.length + 1 := by
  unfold rawB
  dsimp only
  split
  · exact ⟨rfl, by simp⟩
  · exact ⟨rfl, by simp⟩
theorem rawB_err (D : DDr) (x : DDeed) (e : Int) (he : I64 e) : I64 (rawB D x e).2 := by
  have : ∀ c d, I64 (mayB c D.left d e).1.2.2 := fun c d => by
    unfold mayB
    repeat' split
    all_goals first | exact he | simp [I64]
  unfold rawB
  dsimp only
  split <;> exact this _ _
theorem FRow.tail {w : World} {g off n c : Nat} {F : DFile} {fs : List DFile} (h : FRow w (.slice (some ⟨g, off, none⟩) n c) (F :: fs)) : FRow w (.slice (some ⟨g, off + 4, none⟩) (n - 1) (c - 1)) fs := by
  obtain ⟨h1, h2, h3⟩ := h
  rcases h3 with ⟨hv, _⟩ | ⟨g', off', cap, cur, hv, hg, k1, k2, k3, k4⟩
  · cases hv
  · simp only [Value.slice.injEq, Option.some.injEq, Addr.mk.injEq, and_true] at hv
    obtain ⟨⟨rfl, rfl⟩, rfl, rfl⟩ := hv
    simp only [List.length_cons] at h1 k1
    refine ⟨by omega, fun f hf => h2 f (List.mem_cons_of_mem _ hf), .inr ⟨g, off + 4, c - 1, cur, by simp, hg, by omega, by omega, by omega, fun i hi j u hu => ?_⟩⟩
    have := k4 (i + 1) (by simpa using hi) j u (by simpa using hu)
    rw [show off + 4 + i * 4 + j = off + (i + 1) * 4 + j by omega]
    exact this
theorem log_lenD {w : World} {M : Nat → Prop} {l b : Nat} {g : Option Nat} {pre : List UInt8} {L : DLog} (h : LogAt w M l b g pre L) : ∃ a c, w.cell? ⟨l, 3, none⟩ = some (.slice a L.files.length c) ∧ FRow w (.slice a L.files.length c) L.files ∧ blkOf (.slice a L.files.length c) = g := by
  obtain ⟨fv, h1, h2, h3⟩ := h.row
  obtain ⟨a, c, rfl⟩ := h2.val
  exact ⟨a, c, h1.cell 3, h2, h3⟩
set_option maxRecDepth 100000 in
set_option maxHeartbeats 8000000 in
theorem jDrop_ {w : World} {M : Nat → Prop} {b l below : Nat} {sf sn g : Option Nat} {pre : List UInt8} {D : DDr} {L : DLog} (hD : DriveAt w M b sf sn D) (hL : LogAt w M l b g pre L) (hp : pre.length ≤ 998) (hb : below < 18446744073709551616) (hser : ∀ f ∈ L.files, f.serial < 100) (hq : D.safe.length + D.queue.length + L.files.length < 1000000) :
    Calls Tryz.prog 33 #[.pointer (some ⟨l, 0, none⟩), .int .u64 (below : Int)] w fun e w' => e = .returned (.int .i64 (dropJ pre below D L.files).2) ∧ ∃ M' sf' sn' g', DriveAt w' M' b sf' sn' (dropJ pre below D L.files).1.1 ∧ LogAt w' M' l b g' pre { L with files := (dropJ pre below D L.files).1.2 } ∧ JGo b l w M sf sn g w' M' sf' sn' g' := by
  obtain ⟨most, fs0, closed⟩ := L
  dsimp only at *
  have HD := Lib.hid hD
  have HL := Lib.hid hL
  have HSER := Lib.hid hser
  have hfew := hL.row
  clear hD hL hser
  go_enter Tryz.func33, Tryz.ntmps33
  go_wp2
  go_loopw [5] (fun _ w' => ∃ (D' : DDr) (fs : List DFile) (M' : Nat → Prop) (sf' sn' g' : Option Nat), Hid (DriveAt w' M' b sf' sn' D') ∧ Hid (LogAt w' M' l b g' pre ⟨most, fs, closed⟩) ∧ Hid (JGo b l w M sf sn g w' M' sf' sn' g') ∧ Hid (dropJ pre below D fs0 = dropJ pre below D' fs) ∧ Hid (∀ f ∈ fs, f.serial < 100) ∧ Hid (D'.safe.length + D'.queue.length + fs.length < 1000000)) (fun _ w' => match w'.cell? ⟨l, 3, none⟩ with | some (.slice _ n _) => n | _ => 0)
  case atStart => exact ⟨D, fs0, M, sf, sn, g, HD, HL, Lib.hid (JGo.refl b l w M sf sn g), Lib.hid rfl, HSER, Lib.hid hq⟩
  case round =>
    obtain ⟨D', fs, M', sf', sn', g', HD, HL, HG, HE, HSER, HQ⟩ := hrel
    obtain ⟨fa, fc, l3, hfr, hgb⟩ := log_lenD HL.out
    dsimp only at l3 hfr hgb
    have l0 : wr.cell? ⟨l, 0, none⟩ = some (.pointer (some ⟨b, 0, none⟩)) := by
      obtain ⟨fv, h1, _⟩ := HL.out.row
      exact h1.cell 0
    rcases fs with _ | ⟨F, _ | ⟨G, fs⟩⟩
    · clear hfr hgb
      go_wp2
      go_ret
      rw [HE.out, dropJ_few (by simp)]
      exact ⟨rfl, M', sf', sn', g', HD.out, HL.out, HG.out⟩
    · clear hfr hgb
      go_wp2
      go_ret
      rw [HE.out, dropJ_few (by simp)]
      exact ⟨rfl, M', sf', sn', g', HD.out, HL.out, HG.out⟩
    · obtain ⟨g9, o9, rfl, hg9, q0, q1, q2, q3, _⟩ := hfr.cells (k := 0) (by simp)
      simp only [List.getElem_cons_zero, Nat.zero_mul, Nat.add_zero, List.length_cons] at q0 q1 q2 q3 l3 hgb hfr
      have HFR := Lib.hid hfr
      have hnf : fs.length + 2 ≤ 1000000 := hfr.1
      have HGB := Lib.hid hgb
      have hser : F.serial < 100 := HSER.out F List.mem_cons_self
      clear hfr hgb
      by_cases hle : F.to_ ≤ below
      · have hd : decide ((F.to_ : Int) ≤ (below : Int)) = true := decide_eq_true (by omega)
        have hd1 : decide ((1 : Int) < (fs.length : Int) + 1 + 1) = true := decide_eq_true (by omega)
        obtain ⟨nm, hnm⟩ : ∃ nm, nm = nameB pre F.serial := ⟨_, rfl⟩
        obtain ⟨r, hr⟩ : ∃ r, r = removeD D' nm := ⟨_, rfl⟩
        have HNM : Hid (∀ W : World, Step wr W → Calls Tryz.prog 51 #[.pointer (some ⟨l, 0, none⟩), .int .u64 (F.serial : Int)] W fun e w' => e = .returned (encStr nm) ∧ ∃ m, w' = W.drewN m) := Lib.hid (fun W hW => by
          rw [hnm]
          obtain ⟨fv, h1, _⟩ := HL.out.row
          exact jName_ (CellsAt.step h1 hW) hser (by omega))
        have HRM : Hid (∀ W : World, Step wr W → Calls Tryz.prog 66 #[.pointer (some ⟨b, 0, none⟩), encStr nm] W fun y w' => y = .returned (.int .i64 r.2) ∧ ∃ M1 sf1 sn1, DriveAt w' M1 b sf1 sn1 r.1 ∧ LogAt w' M1 l b g' pre ⟨most, F :: G :: fs, closed⟩ ∧ JGo b l w M sf sn g w' M1 sf1 sn1 g') := Lib.hid (fun W hW => by
          have hDW := HD.out.step hW
          have hq := HQ.out
          simp only [List.length_cons] at hq
          refine (dRemove_ (s := nm) hDW (by have := nameB_len pre F.serial; rw [hnm]; omega) (by omega)).mono ?_
          rintro y w' ⟨rfl, M1, sf1, sn1, h1, h2⟩
          exact ⟨by rw [hr], M1, sf1, sn1, by rw [hr]; exact h1, (HL.out.step hW).beside hDW h2, HG.out.trans (JGo.from hW (JGo.of g' h2))⟩)
        have HST : Hid (dropJ pre below D' (F :: G :: fs) = if r.2 = 0 then dropJ pre below r.1 (G :: fs) else ((r.1, F :: G :: fs), r.2)) := Lib.hid (by
          rw [dropJ, if_pos hle, hr, hnm])
        have HRL : Hid (r.1.safe = D'.safe ∧ r.1.queue.length ≤ D'.queue.length + 1) := Lib.hid (by rw [hr]; exact rawB_len _ _ _)
        have hri : I64 r.2 := by rw [hr]; exact rawB_err _ _ _ (by unfold noneB; split <;> simp [I64])
        clear hr hnm
        generalize hnl : fs.length = n at *
        have HNL := Lib.hid hnl
        clear hnl
        have h0n : (0 : Int) < (n : Int) + 1 + 1 := by omega
        go_upto_region 2 with fail
        refine wp_region_cut (S := (fun w' => w'.cell? ⟨l, 0, none⟩ = some (.pointer (some ⟨b, 0, none⟩)) ∧ w'.cell? ⟨l, 3, none⟩ = some (.slice (some ⟨g9, o9, none⟩) (n + 1 + 1) fc) ∧ w'.cell? ⟨g9, o9, none⟩ = some (.int .u64 (F.serial : Int)))) 13 (by kernel_rfl) ?_ (fun hHeld => ?_)
        · (go_keep)
        refine tkC 0 [1, 2, 3, 13, 14] ?_
        try simp only [Act.put, gtA, gtB, gtC, gtD, gtE, gtF]
        refine tkC 1 [2, 3, 13, 14] ?_
        try simp only [Act.put, gtA, gtB, gtC, gtD, gtE, gtF]
        refine tkC 2 [3, 13, 14] ?_
        try simp only [Act.put, gtA, gtB, gtC, gtD, gtE, gtF]
        refine tkC 3 [13, 14] ?_
        try simp only [Act.put, gtA, gtB, gtC, gtD, gtE, gtF]
        refine tkC 4 [12, 13, 14] ?_
        try simp only [Act.put, gtA, gtB, gtC, gtD, gtE, gtF]
        refine tkC 5 [6, 7, 8, 9, 10, 11, 12, 13, 14] ?_
        try simp only [Act.put, gtA, gtB, gtC, gtD, gtE, gtF]
        refine tkC 6 [7, 8, 9, 10, 11, 12, 13, 14] ?_
        try simp only [Act.put, gtA, gtB, gtC, gtD, gtE, gtF]
        refine tkC 7 [8, 9, 10, 11, 12, 13, 14] ?_
        try simp only [Act.put, gtA, gtB, gtC, gtD, gtE, gtF]
        refine tkC 8 [9, 10, 11, 12, 13, 14] ?_
        try simp only [Act.put, gtA, gtB, gtC, gtD, gtE, gtF]
        refine tkC 9 [10, 11, 12, 13, 14] ?_
        try simp only [Act.put, gtA, gtB, gtC, gtD, gtE, gtF]
        refine tkC 10 [11, 12, 13, 14] ?_
        try simp only [Act.put, gtA, gtB, gtC, gtD, gtE, gtF]
        refine tkC 11 [12, 13, 14] ?_
        try simp only [Act.put, gtA, gtB, gtC, gtD, gtE, gtF]
        refine rdC (rs := [12]) (.cons rfl (by decide) (fun K hK => ?_) .nil)
        try simp only [gtA, gtB, gtC]
        go_simp
        (go_at_call 51; refine (HNM.out _ stp).mono ?_; rintro e w2 ⟨rfl, m2, rfl⟩)
        refine hK.out _ _ ?_ (fun hHeld => ?_)
        · (go_keep)
        clear hK K
        try simp only [Act.put, gtA, gtB, gtC, gtD, gtE, gtF]
        refine rdC (rs := [13]) (.cut rfl (fun K hK => ?_))
        try simp only [gtA, gtB, gtC]
        go_simp
        (go_at_call 66; refine (HRM.out _ stp).mono ?_; rintro e w3 ⟨rfl, M3, sf3, sn3, hD3, hL3, hG3⟩; have HD3 := Lib.hid hD3; have HL3 := Lib.hid hL3; have HG3 := Lib.hid hG3; clear hD3 hL3 hG3)
        refine hK.out _ _ trivial (fun hHeld => ?_)
        clear hK K
        try simp only [Act.put, gtA, gtB, gtC, gtD, gtE, gtF]
        have hTrue : True := trivial
        refine tkH 14 ?_
        try simp only [Act.put, gtA, gtB, gtC, gtD, gtE, gtF]
        refine wpAnyH_done (by kernel_rfl) ?_ _
        clear HRM HNM hHeld hTrue l0 q0 q1 q2 q3
        obtain ⟨D1, re⟩ := r
        dsimp only at HD3 HST HRL hri ⊢
        obtain ⟨fa3, fc3, m3, hfr3, hgb3⟩ := log_lenD HL3.out
        obtain ⟨fv3, hlg3, _⟩ := HL3.out.row
        have f3 : w3.frozen? ⟨l, 3, none⟩ = false := hlg3.frozen 3
        have HLG3 := Lib.hid hlg3
        clear hlg3
        simp only [List.length_cons] at m3 hfr3 hgb3
        obtain ⟨g3, o3, rfl, hg3, -⟩ := hfr3.cells (k := 0) (by simp)
        have hcap3 : fs.length + 2 ≤ fc3 := by
          rcases hfr3.2.2 with ⟨hv, _⟩ | ⟨g', off', cap, cur, hv, hg, k1, _⟩
          · cases hv
          · injection hv with _ _ hc
            subst hc
            simpa using k1
        have hcm3 : fc3 ≤ maxLen := by
          rcases hfr3.2.2 with ⟨hv, _⟩ | ⟨g', off', cap, cur, hv, hg, k1, k2, _⟩
          · cases hv
          · injection hv with _ _ hc
            subst hc
            exact k2
        have HFR3 := Lib.hid hfr3.tail
        have HGB3 := Lib.hid hgb3
        clear hfr3 hgb3
        by_cases he : re = 0
        · subst he
          have e1 : (1 : Int) ≤ (fs.length : Int) + 1 + 1 := by omega
          have e2 : (1 : Int) ≤ (fc3 : Int) := by omega
          have e3 : (fs.length : Int) + 1 + 1 ≤ (fc3 : Int) := by omega
          go_wp2
          have hn1 : fs.length + 1 + 1 - 1 = fs.length + 1 := by omega
          rw [hn1] at HFR3
          obtain ⟨k1, k2, k3⟩ := log_turn HG3.out HD3.out HL3.out ((Turn.refl (fun c => c = l) w3).setCell (p := ⟨l, 3, none⟩) (fun _ => rfl) (.slice (some ⟨g3, o3 + 4, none⟩) (fs.length + 1) (fc3 - 1))) (CellsAt.set HLG3.out 3 _) (HFR3.out.kept (fun k hk => heap_setCell_other _ _ _ _ (by
            have := (HL3.out.gown k (HGB3.out.symm.trans hk)).2.1
            exact this))) HGB3.out
          have hq := HQ.out
          have hrl := HRL.out
          simp only [List.length_cons] at hq
          refine ⟨⟨D1, G :: fs, M3, sf3, sn3, g', Lib.hid k1, Lib.hid k2, Lib.hid k3, Lib.hid (HE.out.trans (HST.out.trans (if_pos rfl))), Lib.hid (fun f hf => HSER.out f (List.mem_cons_of_mem _ hf)), Lib.hid (by rw [hrl.1, List.length_cons]; omega)⟩, ?_⟩
          obtain ⟨a4, c4, m4, _⟩ := log_lenD k2
          dsimp only [List.length_cons] at m4
          rw [m4, l3]
          have := HNL.out
          simp only [List.length_cons]
          omega
        · have hne : (re == 0) = false := by simpa using he
          go_wp2
          go_ret
          rw [HE.out, HST.out, if_neg he]
          first
            | exact ⟨rfl, M3, sf3, sn3, g', HD3.out, HL3.out, HG3.out⟩
            | exact ⟨rfl, M3, sf3, sn3, HD3.out, g', HL3.out, HG3.out⟩
      · have hd : decide ((F.to_ : Int) ≤ (below : Int)) = false := decide_eq_false (by omega)
        have hd1 : decide ((1 : Int) < (fs.length : Int) + 1 + 1) = true := decide_eq_true (by omega)
        have HST : Hid (dropJ pre below D' (F :: G :: fs) = ((D', F :: G :: fs), 0)) := Lib.hid (by rw [dropJ, if_neg hle])
        generalize fs.length = n at *
        go_wp2
        go_ret
        rw [HE.out, HST.out]
        exact ⟨rfl, M', sf', sn', g', HD.out, HL.out, HG.out⟩
end Go.Proofs.YthebdlkmoailaaaGreatDoor

namespace Go.Proofs.YthebdlkmoailaaaGreatDoor
open Go.RowKit Go.Gr Go.Maps
set_option linter.unusedSimpArgs false
set_option linter.unusedVariables false
/-- An append is refused for want of room. -/
def fullJ (pre : List UInt8) (D : DDr) (L : DLog) (recs : List (List UInt8)) : Prop := recs ≠ [] ∧ appendJ pre D L recs = ((D, L), 0, 8)
/-- A journal in order upon a small drive, after at most q appends. Z: blocks that others turn. -/
structure Sess (pre : List UInt8) (w : World) (M Z : Nat → Prop) (b l : Nat) (D : DDr) (L : DLog) (rss : List (List (List UInt8))) (q : Nat) : Prop where
  mem : ∃ sf sn g, DriveAt w M b sf sn D ∧ LogAt w M l b g pre L ∧ ∀ c, Z c → M c ∧ ¬ JM b sf sn l g c
  inv : JInv pre D L 0 0 rss
  used : (usedB D.seen : Int) ≤ D.room
  room : D.room ≤ 1048576
  cnt : D.safe.length + D.queue.length ≤ q
  files : L.files.length ≤ q
  recs : rss.flatten.length ≤ q * 10
theorem JM_own {w : World} {M : Nat → Prop} {b l : Nat} {sf sn g : Option Nat} {pre : List UInt8} {D : DDr} {L : DLog} (hD : DriveAt w M b sf sn D) (hL : LogAt w M l b g pre L) {c : Nat} (h : JM b sf sn l g c) : M c := by
  rcases h with h | rfl | h
  · exact hD.own c h
  · exact hL.own
  · exact (hL.gown c h).1
theorem Sess.old {pre : List UInt8} {w : World} {M Z : Nat → Prop} {b l q : Nat} {D : DDr} {L : DLog} {rss : List (List (List UInt8))} (h : Sess pre w M Z b l D L rss q) : (∀ c, M c → c < w.heap.size) ∧ ∀ c, Z c → M c := by
  obtain ⟨sf, sn, g, hD, hL, hZ⟩ := h.mem
  exact ⟨hD.old, fun c hc => (hZ c hc).1⟩
theorem Sess.appendG {pre : List UInt8} {w : World} {M Z M2 : Nat → Prop} {b l q : Nat} {D : DDr} {L : DLog} {rss : List (List (List UInt8))} {rv : Value} {recs : List (List UInt8)} (h : Sess pre w M Z b l D L rss q) (hp : pre.length ≤ 998) (hq : q < 90) (hrep : (Ty.slice Ty.bytes).rep w M2 [rv] recs) (hr : ∀ r ∈ recs, r.length ≤ 1048576) (hc : recs.length ≤ 10) (hdl : (dataL L recs).length ≤ 1000000) :
    Calls Tryz.prog 14 #[.pointer (some ⟨l, 0, none⟩), rv] w fun e w' => ∃ M' D' L' rss', Sess pre w' M' Z b l D' L' rss' (q + 1) ∧ Turn (fun c => M c ∧ ¬ Z c) w w' ∧ (∀ c, M c → M' c) ∧ (∀ c, c < w.heap.size → M' c → M c) ∧
      usedB D'.seen ≤ usedB D.seen + (dataL L recs).length ∧ D'.room = D.room ∧ ((¬ fullJ pre D L recs ∧ e = .returned (.tuple #[.int .u64 (rss.flatten.length : Int), .int .i64 0]) ∧ rss'.flatten = rss.flatten ++ recs) ∨ (fullJ pre D L recs ∧ e = .returned (.tuple #[.int .u64 0, .int .i64 8]) ∧ rss' = rss)) := by
  obtain ⟨sf, sn, g, hD, hL, hZ⟩ := h.mem
  obtain ⟨hl1, hl2⟩ := h.inv.chain.last h.inv.start
  have hf := h.files
  have hcnt := h.cnt
  have hrc := h.recs
  have hro := h.room
  have hus := h.used
  have hRJ : RoomJ pre D L recs := h.inv.roomJ hp (by omega) hus (by omega) (by omega) (by omega) (by omega) (by omega)
  refine (jAppend_ hD hL hrep hRJ).mono ?_
  rintro e w' ⟨rfl, M', sf', sn', g', hD', hL', hGo⟩
  have hT : Turn (fun c => M c ∧ ¬ Z c) w w' := hGo.turn.mono fun c hc hx => by
    rcases hx with hx | hx
    · omega
    · exact ⟨JM_own hD hL hx, fun hz => (hZ c hz).2 hx⟩
  have hZ2 : ∀ c, Z c → M' c ∧ ¬ JM b sf' sn' l g' c := fun c hz => ⟨hGo.more c (hZ c hz).1, fun hx => (hZ c hz).2 (hGo.own c (hD.old c (hZ c hz).1) hx)⟩
  by_cases h0 : recs = []
  · subst h0
    have e1 : appendJ pre D L [] = ((D, L), (lastF L.files).to_, 0) := if_pos rfl
    rw [e1] at hD' hL' ⊢
    refine ⟨M', D, L, rss, ⟨⟨sf', sn', g', hD', hL', hZ2⟩, h.inv, hus, hro, by omega, by omega, by omega⟩, hT, hGo.more, hGo.less, Nat.le_add_right _ _, rfl, .inl ⟨fun hx => hx.1 rfl, ?_, by simp⟩⟩
    rw [hl2, Nat.zero_add]
  · rcases h.inv.append h0 hr (by omega) with e1 | ⟨rss', h1, h2, h3, h4, h5, h6⟩
    · have hfj : fullJ pre D L recs := ⟨h0, e1⟩
      rw [e1] at hD' hL' ⊢
      exact ⟨M', D, L, rss, ⟨⟨sf', sn', g', hD', hL', hZ2⟩, h.inv, hus, hro, by omega, by omega, by omega⟩, hT, hGo.more, hGo.less, Nat.le_add_right _ _, rfl, .inr ⟨hfj, rfl, rfl⟩⟩
    · have hok := appendD_ok (s := nameB pre (openF L).serial) h.inv.dead h.inv.armed h6
      have h4' := h4
      rw [hok] at h4'
      refine ⟨M', _, _, rss', ⟨⟨sf', sn', g', hD', hL', hZ2⟩, h3, ?_, ?_, ?_, ?_, ?_⟩, hT, hGo.more, hGo.less, ?_, ?_, .inl ⟨fun hx => ?_, ?_, h1⟩⟩
      · rw [h4']
        show ((usedB (putK _ _ D.seen) : Nat) : Int) ≤ D.room
        rw [usedB_put h.inv.rising]
        omega
      · rw [h4']; exact hro
      · rw [h4']
        show D.safe.length + (D.queue ++ _).length ≤ q + 1
        rw [List.length_append, List.length_singleton]
        omega
      · rw [h5]
        unfold pushL
        rw [List.length_append, List.length_singleton]
        split
        · omega
        · rw [List.length_dropLast]; omega
      · rw [h1, List.length_append]; omega
      · rw [h4']
        show usedB (putK _ _ D.seen) ≤ _
        rw [usedB_put h.inv.rising]
        exact Nat.le_refl _
      · rw [h4']
      · rw [hx.2] at h2
        simp at h2
      · rw [h2, Nat.zero_add]
theorem Sess.serial {pre : List UInt8} {w : World} {M Z : Nat → Prop} {b l q : Nat} {D : DDr} {L : DLog} {rss : List (List (List UInt8))} (h : Sess pre w M Z b l D L rss q) (hq : q < 90) : (openF L).serial < 100 ∧ (lastF L.files).to_ < 10000 := by
  obtain ⟨hl1, hl2⟩ := h.inv.chain.last h.inv.start
  have hf := h.files
  have hrc := h.recs
  refine ⟨?_, by omega⟩
  unfold openF
  split
  · show (lastF L.files).serial + 1 < _; omega
  · omega
theorem Sess.small {pre : List UInt8} {w : World} {M Z : Nat → Prop} {b l q : Nat} {D : DDr} {L : DLog} {rss : List (List (List UInt8))} {recs : List (List UInt8)} (h : Sess pre w M Z b l D L rss q) (hq : q < 90) (hr : ∀ r ∈ recs, r.length ≤ 600) (hc : recs.length ≤ 10) : (dataL L recs).length ≤ 10000 := by
  obtain ⟨h1, h2⟩ := h.serial hq
  exact dataL_small hr hc (by omega) (by omega)
theorem Sess.fits {pre : List UInt8} {w : World} {M Z : Nat → Prop} {b l q : Nat} {D : DDr} {L : DLog} {rss : List (List (List UInt8))} {recs : List (List UInt8)} (h : Sess pre w M Z b l D L rss q) (hr : ∀ r ∈ recs, r.length ≤ 1048576) (hf : ((usedB D.seen + (dataL L recs).length : Nat) : Int) ≤ D.room) : ¬ fullJ pre D L recs := by
  rintro ⟨h0, e1⟩
  have hA : appendJ pre D L recs = if (appendD D (nameB pre (openF L).serial) (dataL L recs)).2 = 0 then (((appendD D (nameB pre (openF L).serial) (dataL L recs)).1, pushL L recs), (lastF L.files).to_, 0) else (((appendD D (nameB pre (openF L).serial) (dataL L recs)).1, L), 0, (appendD D (nameB pre (openF L).serial) (dataL L recs)).2) := by
    unfold appendJ
    rw [if_neg h0, if_neg (by rw [tooLong_not hr]; simp)]
  have hok := appendD_ok (s := nameB pre (openF L).serial) (d := dataL L recs) h.inv.dead h.inv.armed (by omega)
  rw [hok, if_pos rfl] at hA
  rw [hA] at e1
  simp at e1
theorem Sess.append {pre : List UInt8} {w : World} {M Z M2 : Nat → Prop} {b l q : Nat} {D : DDr} {L : DLog} {rss : List (List (List UInt8))} {rv : Value} {recs : List (List UInt8)} (h : Sess pre w M Z b l D L rss q) (hp : pre.length ≤ 998) (hq : q < 90) (hrep : (Ty.slice Ty.bytes).rep w M2 [rv] recs) (hr : ∀ r ∈ recs, r.length ≤ 600) (hc : recs.length ≤ 10) :
    Calls Tryz.prog 14 #[.pointer (some ⟨l, 0, none⟩), rv] w fun e w' => ∃ M' D' L' rss', Sess pre w' M' Z b l D' L' rss' (q + 1) ∧ Turn (fun c => M c ∧ ¬ Z c) w w' ∧ (∀ c, M c → M' c) ∧ (∀ c, c < w.heap.size → M' c → M c) ∧
      usedB D'.seen ≤ usedB D.seen + 10000 ∧ D'.room = D.room ∧ ((¬ fullJ pre D L recs ∧ e = .returned (.tuple #[.int .u64 (rss.flatten.length : Int), .int .i64 0]) ∧ rss'.flatten = rss.flatten ++ recs) ∨ (fullJ pre D L recs ∧ e = .returned (.tuple #[.int .u64 0, .int .i64 8]) ∧ rss' = rss)) := by
  have hs := h.small hq hr hc
  refine (h.appendG hp hq hrep (fun r hx => by have := hr r hx; omega) hc (by omega)).mono ?_
  rintro e w' ⟨M', D', L', rss', h1, h2, h3, h4, h5, h6⟩
  exact ⟨M', D', L', rss', h1, h2, h3, h4, by omega, h6⟩
theorem Sess.appendOk {pre : List UInt8} {w : World} {M Z M2 : Nat → Prop} {b l q : Nat} {D : DDr} {L : DLog} {rss : List (List (List UInt8))} {rv : Value} {recs : List (List UInt8)} (h : Sess pre w M Z b l D L rss q) (hp : pre.length ≤ 998) (hq : q < 90) (hrep : (Ty.slice Ty.bytes).rep w M2 [rv] recs) (hr : ∀ r ∈ recs, r.length ≤ 1048576) (hc : recs.length ≤ 10) (hdl : (dataL L recs).length ≤ 1000000) (hf : ((usedB D.seen + (dataL L recs).length : Nat) : Int) ≤ D.room) :
    Calls Tryz.prog 14 #[.pointer (some ⟨l, 0, none⟩), rv] w fun e w' => ∃ M' D' L' rss', e = .returned (.tuple #[.int .u64 (rss.flatten.length : Int), .int .i64 0]) ∧ Sess pre w' M' Z b l D' L' rss' (q + 1) ∧ Turn (fun c => M c ∧ ¬ Z c) w w' ∧ (∀ c, c < w.heap.size → M' c → M c) ∧
      usedB D'.seen ≤ usedB D.seen + (dataL L recs).length ∧ D'.room = D.room ∧ rss'.flatten = rss.flatten ++ recs := by
  have hn := h.fits hr hf
  refine (h.appendG hp hq hrep hr hc hdl).mono ?_
  rintro e w' ⟨M', D', L', rss', h1, h2, h3, h4, h5, h6, h7⟩
  obtain ⟨_, he, hrs⟩ := h7.resolve_right (fun hx => hn hx.1)
  exact ⟨M', D', L', rss', he, h1, h2, h4, h5, h6, hrs⟩
end Go.Proofs.YthebdlkmoailaaaGreatDoor

namespace Go.Proofs.YthebdlkmoailaaaGreatDoor
open Go.RowKit Go.Gr Go.Maps
open Go.Proofs (encStr)
set_option linter.unusedSimpArgs false
set_option linter.unusedVariables false
theorem Sess.step {pre : List UInt8} {w w' : World} {M Z : Nat → Prop} {b l q : Nat} {D : DDr} {L : DLog} {rss : List (List (List UInt8))} (h : Sess pre w M Z b l D L rss q) (hs : Step w w') : Sess pre w' M Z b l D L rss q := by
  obtain ⟨sf, sn, g, hD, hL, hZ⟩ := h.mem
  exact ⟨⟨sf, sn, g, hD.step hs, hL.step hs, hZ⟩, h.inv, h.used, h.room, h.cnt, h.files, h.recs⟩
theorem Sess.next {pre : List UInt8} {w : World} {M Z : Nat → Prop} {b l q : Nat} {D : DDr} {L : DLog} {rss : List (List (List UInt8))} (h : Sess pre w M Z b l D L rss q) :
    Calls Tryz.prog 17 #[.pointer (some ⟨l, 0, none⟩)] w fun e w' => e = .returned (.int .u64 (rss.flatten.length : Int)) ∧ Step w w' := by
  obtain ⟨sf, sn, g, hD, hL, _⟩ := h.mem
  obtain ⟨hl1, hl2⟩ := h.inv.chain.last h.inv.start
  obtain ⟨fv, h1, h2, _⟩ := hL.row
  have := jNext_ h1 h2
  rw [hl2, Nat.zero_add] at this
  exact this
theorem Sess.records {pre : List UInt8} {w : World} {M Z : Nat → Prop} {b l q : Nat} {D : DDr} {L : DLog} {rss : List (List (List UInt8))} (h : Sess pre w M Z b l D L rss q) (hp : pre.length ≤ 998) (hq : q ≤ 90) :
    Calls Tryz.prog 16 #[.pointer (some ⟨l, 0, none⟩), .int .u64 0, .int .u64 (rss.flatten.length : Int)] w fun e w' => ∃ v ds, e = .returned (.tuple #[v, .int .i64 0]) ∧ Gr.Own (tGB 5) 40 w' (· < w.heap.size) w.heap.size v ds ∧ Step w w' ∧ Hid (ds.map Prod.fst = rss.flatten) ∧ ApartD ds := by
  obtain ⟨sf, sn, g, hD, hL, _⟩ := h.mem
  obtain ⟨hl1, hl2⟩ := h.inv.chain.last h.inv.start
  have hf := h.files
  have hrc := h.recs
  have hro := h.room
  have hus := h.used
  obtain ⟨hr, _⟩ := h.inv.good (by omega) (by omega) (by omega)
  have hall := h.inv.chain.all (a := 0) (z := rss.flatten.length) (by omega) (by omega) (Nat.le_refl _) (by omega)
  have := jRecords_ (a := 0) (z := rss.flatten.length) hD h.inv.dead hL hp (Nat.zero_le _) (by rw [firstL_le h.inv.chain h.inv.start]; exact Nat.le_refl _) (by rw [hl2]; omega) (by omega) (h.inv.chain.ok hr) (by rw [hall]; omega)
  rw [hall] at this
  exact this
theorem Sess.openZ {pre : List UInt8} {w : World} {M Z : Nat → Prop} {b q : Nat} {sf sn : Option Nat} {D : DDr} {L : DLog} {rss : List (List (List UInt8))} {most : Int} (hD : DriveAt w M b sf sn D) (hZ : ∀ c, Z c → M c ∧ ¬ DM b sf sn c) (h : JInv pre D L 0 0 rss) (hus : (usedB D.seen : Int) ≤ D.room) (hro : D.room ≤ 1048576) (hcnt : D.safe.length + D.queue.length ≤ q) (hf : L.files.length ≤ q) (hrc : rss.flatten.length ≤ q * 10) (hm : I64 most) (hp : pre.length ≤ 998) (hq : q ≤ 90) :
    Calls Tryz.prog 12 #[.pointer (some ⟨b, 0, none⟩), encStr pre, .int .i64 most] w fun e w' => ∃ l M', e = .returned (.tuple #[.pointer (some ⟨l, 0, none⟩), .int .i64 0]) ∧ Step w w' ∧ w.heap.size ≤ l ∧ Sess pre w' M' Z b l D ⟨max 1 most, L.files, true⟩ rss q ∧ (∀ c, M c → M' c) ∧ (∀ c, c < w.heap.size → M' c → M c) := by
  obtain ⟨hr, ns, hn, hG⟩ := h.good (by omega) (by omega) (by omega)
  refine (jOpen_ hD h.dead hm hp hn hG).mono ?_
  rintro e w' ⟨l, g, M', rfl, hS, hl, hD', hL', h1, h2, h3⟩
  refine ⟨l, M', rfl, hS, hl, ⟨⟨sf, sn, g, hD', hL', fun c hc => ⟨h1 c (hZ c hc).1, fun hj => ?_⟩⟩, ⟨h.dead, h.armed, h.chain, h.names, h.rising, h.start⟩, hus, hro, hcnt, hf, hrc⟩, h1, h2⟩
  have hlt := hD.old c (hZ c hc).1
  rcases hj with hj | hj | hj
  · exact (hZ c hc).2 hj
  · omega
  · have := h3 c hj; omega
theorem Sess.open_ {pre : List UInt8} {w : World} {M : Nat → Prop} {b q : Nat} {sf sn : Option Nat} {D : DDr} {L : DLog} {rss : List (List (List UInt8))} {most : Int} (hD : DriveAt w M b sf sn D) (h : JInv pre D L 0 0 rss) (hus : (usedB D.seen : Int) ≤ D.room) (hro : D.room ≤ 1048576) (hcnt : D.safe.length + D.queue.length ≤ q) (hf : L.files.length ≤ q) (hrc : rss.flatten.length ≤ q * 10) (hm : I64 most) (hp : pre.length ≤ 998) (hq : q ≤ 90) :
    Calls Tryz.prog 12 #[.pointer (some ⟨b, 0, none⟩), encStr pre, .int .i64 most] w fun e w' => ∃ l M', e = .returned (.tuple #[.pointer (some ⟨l, 0, none⟩), .int .i64 0]) ∧ Step w w' ∧ w.heap.size ≤ l ∧ Sess pre w' M' (fun _ => False) b l D ⟨max 1 most, L.files, true⟩ rss q ∧ (∀ c, M c → M' c) ∧ (∀ c, c < w.heap.size → M' c → M c) :=
  Sess.openZ hD (fun c hc => hc.elim) h hus hro hcnt hf hrc hm hp hq
theorem DriveAt.newZ {w : World} {Z : Nat → Prop} {b : Nat} {r : Int} (h : DrAt w b (.map none) (.map none) (.slice none 0 0) (max 0 r) false 0 false) (hZ : ∀ c, Z c → c < w.heap.size) : DriveAt w (fun c => c = b ∨ Z c) b none none (DDr.new r) := by
  have hlt := h.lt
  refine ⟨⟨.slice none 0 0, h, ⟨none, 0, rfl, Nat.le_refl _, by simp [maxLen], Nat.zero_le _, fun h => absurd h (by simp [DDr.new])⟩⟩, .inl ⟨rfl, rfl⟩, .inl ⟨rfl, rfl⟩, fun m hm => (by cases hm), fun c hc => ?_, fun c hc => ?_, DDr.new_wf r⟩
  · rcases hc with hc | hc | hc
    · exact .inl hc
    · cases hc
    · cases hc
  · rcases hc with rfl | hc
    · exact hlt
    · exact hZ c hc
/-- A journal upon a new drive, beside what others turn. -/
theorem Sess.open0Z {pre : List UInt8} {w : World} {Z : Nat → Prop} {b : Nat} {r most : Int} (h : DrAt w b (.map none) (.map none) (.slice none 0 0) (max 0 r) false 0 false) (hZ : ∀ c, Z c → c < w.heap.size ∧ c ≠ b) (hr : r ≤ 1048576) (hm : I64 most) (hp : pre.length ≤ 998) :
    Calls Tryz.prog 12 #[.pointer (some ⟨b, 0, none⟩), encStr pre, .int .i64 most] w fun e w' => ∃ l M', e = .returned (.tuple #[.pointer (some ⟨l, 0, none⟩), .int .i64 0]) ∧ Step w w' ∧ w.heap.size ≤ l ∧ Sess pre w' M' Z b l (DDr.new r) ⟨max 1 most, [], true⟩ [] 0 ∧ (∀ c, c < w.heap.size → M' c → c = b ∨ Z c) := by
  refine (Sess.openZ (L := ⟨0, [], true⟩) (rss := []) (q := 0) (DriveAt.newZ h (fun c hc => (hZ c hc).1)) (fun c hc => ⟨.inr hc, fun hd => ?_⟩) (JInv.new pre r 0) ?_ ?_ (Nat.le_refl _) (Nat.le_refl _) (Nat.le_refl _) hm hp (by omega)).mono ?_
  · rcases hd with hd | hd | hd
    · exact (hZ c hc).2 hd
    · cases hd
    · cases hd
  · show ((usedB [] : Nat) : Int) ≤ max 0 r
    simp [usedB]
    omega
  · show max 0 r ≤ 1048576
    omega
  · rintro e w' ⟨l, M', rfl, h1, h2, h3, _, h5⟩
    exact ⟨l, M', rfl, h1, h2, h3, h5⟩
/-- A journal upon a new drive. -/
theorem Sess.open0 {pre : List UInt8} {w : World} {b : Nat} {r most : Int} (h : DrAt w b (.map none) (.map none) (.slice none 0 0) (max 0 r) false 0 false) (hr : r ≤ 1048576) (hm : I64 most) (hp : pre.length ≤ 998) :
    Calls Tryz.prog 12 #[.pointer (some ⟨b, 0, none⟩), encStr pre, .int .i64 most] w fun e w' => ∃ l M', e = .returned (.tuple #[.pointer (some ⟨l, 0, none⟩), .int .i64 0]) ∧ Step w w' ∧ w.heap.size ≤ l ∧ Sess pre w' M' (fun _ => False) b l (DDr.new r) ⟨max 1 most, [], true⟩ [] 0 ∧ (∀ c, c < w.heap.size → M' c → c = b) := by
  refine (Sess.open0Z h (Z := fun _ => False) (fun c hc => hc.elim) hr hm hp).mono ?_
  rintro e w' ⟨l, M', rfl, h1, h2, h3, h5⟩
  exact ⟨l, M', rfl, h1, h2, h3, fun c hc hx => (h5 c hc hx).resolve_right id⟩
end Go.Proofs.YthebdlkmoailaaaGreatDoor
