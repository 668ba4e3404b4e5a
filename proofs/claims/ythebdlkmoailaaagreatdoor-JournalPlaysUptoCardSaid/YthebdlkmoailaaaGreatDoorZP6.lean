/-
  Walks: a drive's Append, Trim, Remove, Flush, Arm.
  Walks: maps.Clone at files, Flush.
-/
import Derived.Test.YthebdlkmoailaaaGreatDoorZK4
import Derived.Test.YthebdlkmoailaaaGreatDoorZMClone
set_option linter.unusedVariables false
set_option linter.unusedSimpArgs false
namespace Go.Proofs.YthebdlkmoailaaaGreatDoor
open Go.RowKit Go.Gr Go.Maps
open Go.Proofs (encStr)
set_option linter.unusedSimpArgs false
set_option linter.unusedVariables false
set_option maxRecDepth 100000 in
set_option maxHeartbeats 2000000 in
theorem dAppend_ {w : World} {M M2 : Nat → Prop} {b : Nat} {sf sn : Option Nat} {D : DDr} {s d : List UInt8} {dv : Value} (h : DriveAt w M b sf sn D) (hd : Ty.bytes.rep w M2 [dv] d) (hs : s.length ≤ 1000) (hu : usedB D.seen ≤ 1099511627776) (hr0 : 0 ≤ D.room) (hr1 : D.room ≤ 1099511627776)
    (hl : (dataB D.seen s).length + d.length ≤ 68719476736) (hq : D.safe.length + D.queue.length < 1000000) :
    Calls Tryz.prog 27 #[.pointer (some ⟨b, 0, none⟩), encStr s, dv] w fun y w' => y = .returned (.int .i64 (appendD D s d).2) ∧ ∃ M' sf' sn', DriveAt w' M' b sf' sn' (appendD D s d).1 ∧ DGo b w M sf sn w' M' sf' sn' := by
  obtain ⟨queue, hr, _⟩ := h.row
  have hsm : s.length ≤ maxLen := by simp [maxLen]; omega
  obtain ⟨vv, hv, hlk⟩ := h.seen.look hsm
  obtain ⟨va, vc, rfl, _⟩ := Ty.slice_val hv
  have hlk1 := hlk w (fun _ _ => rfl) false
  simp only [Bool.false_eq_true, if_false] at hlk1
  have c1 : w.cell? ⟨b, 1, none⟩ = some (.map sn) := hr.cell 1
  have HW := Lib.hid (dWrite_ h hd hs hu hr0 hr1 hl hq)
  clear h hd hr hv hlk hl hu hq
  generalize (dataB D.seen s).length = L at *
  go_enter Tryz.func27, Tryz.ntmps27
  go_wp2_with (go_at_call 60; refine HW.out.mono ?_; rintro y w1 ⟨rfl, h1⟩)
  go_ret
  exact ⟨rfl, h1⟩
set_option maxRecDepth 100000 in
set_option maxHeartbeats 2000000 in
theorem dRemove_ {w : World} {M : Nat → Prop} {b : Nat} {sf sn : Option Nat} {D : DDr} {s : List UInt8} (h : DriveAt w M b sf sn D) (hs : s.length ≤ 1000) (hq : D.safe.length + D.queue.length < 1000000) :
    Calls Tryz.prog 66 #[.pointer (some ⟨b, 0, none⟩), encStr s] w fun y w' => y = .returned (.int .i64 (removeD D s).2) ∧ ∃ M' sf' sn', DriveAt w' M' b sf' sn' (removeD D s).1 ∧ DGo b w M sf sn w' M' sf' sn' := by
  obtain ⟨queue, hr, _⟩ := h.row
  have hsm : s.length ≤ maxLen := by simp [maxLen]; omega
  have HTH := Lib.hid (dThere_ hr h.seen hsm)
  have HRAW := Lib.hid (dRaw_ (x := .rm s) (e := noneB D.seen s) h (xv := .iface 144 (.agg #[encStr s])) rfl (by unfold noneB; split <;> simp [I64]) (fun _ => hs) hq)
  clear h hr hq
  unfold removeD
  generalize noneB D.seen s = e0 at *
  go_enter Tryz.func66, Tryz.ntmps66
  go_wp2_with (first
    | (go_at_call 57; refine HTH.out.mono ?_; rintro y w1 ⟨rfl, hw1⟩; subst w1)
    | (go_at_call 59; refine HRAW.out.mono ?_; rintro y w2 ⟨rfl, h2⟩))
  go_ret
  exact ⟨rfl, h2⟩
end Go.Proofs.YthebdlkmoailaaaGreatDoor

namespace Go.Proofs.YthebdlkmoailaaaGreatDoor
open Go.RowKit Go.Gr Go.Maps
open Go.Proofs (encStr)
set_option linter.unusedSimpArgs false
set_option linter.unusedVariables false
theorem mClone_ {w : World} {M : Nat → Prop} {v : Option Nat} {fs : List DPair} (h : FilesAt w M (.map v) fs) :
    Calls Tryz.prog 65 #[.map v] w fun e w' => ∃ v', e = .returned (.map v') ∧ FilesAt w' (fun c => M c ∨ v' = some c) (.map v') fs ∧ Step w w' ∧ (∀ m, v' = some m → m = w.heap.size) ∧ (∀ m, v' = some m → m < w'.heap.size) ∧ (v = none → v' = none) := by
  rcases h with ⟨h1, h2⟩ | ⟨mb, h1, hM, hm⟩
  · obtain rfl : v = none := by injection h1
    refine (AnyW.maps_Clone_nil Tryz.mcloneF w).mono ?_
    rintro e w' ⟨rfl, rfl⟩
    exact ⟨none, rfl, .inl ⟨rfl, h2⟩, Step.refl _, (fun m h => nomatch h), (fun m h => nomatch h), fun _ => rfl⟩
  · obtain rfl : v = some mb := by injection h1
    obtain ⟨zs, hS, hv, rfl⟩ := hm
    refine (AnyW.maps_Clone_owns Tryz.mcloneF 9 rawElem mb _ _ w hS.1).mono ?_
    rintro e w' ⟨rfl, ho1, ho2, hb⟩
    have hst : Step w w' := Step.of hb
    refine ⟨some w.heap.size, rfl, .inr ⟨w.heap.size, rfl, .inr rfl, zs, ⟨ho1, hS.2⟩, fun z hz => ?_, rfl⟩, hst, (fun m h => by injection h with h; exact h.symm), (fun m h => by injection h with h; subst h; exact ho1.lt), (fun h => nomatch h)⟩
    refine Ty.bytes.keep (hv z hz) fun c hc hm => ⟨hst.heap hc, fun hx => ?_⟩
    rcases hx with hx | hx
    · exact hm hx
    · injection hx with hx; omega
theorem FilesAt.ne_cells {w : World} {M : Nat → Prop} {v : Option Nat} {fs : List DPair} {b : Nat} {cs : Array Value} {e : TypeId} (h : FilesAt w M (.map v) fs) (hb : CellsAt w b cs e) : ∀ m, v = some m → m < w.heap.size ∧ m ≠ b := by
  intro m hm
  rcases h with ⟨h1, _⟩ | ⟨m', h1, _, hmp⟩
  · rw [hm] at h1; cases h1
  · obtain rfl : m = m' := by rw [hm] at h1; injection h1 with h1; injection h1
    refine ⟨hmp.lt, ?_⟩
    obtain ⟨es, cl, hob⟩ := MapR.obj hmp
    rintro rfl
    rw [show w.heap[m]? = _ from hb] at hob
    cases hob
theorem nil_deeds {w : World} {M : Nat → Prop} : (Ty.slice tDeed).rep w M [.slice none 0 0] [] := ⟨none, 0, rfl, Nat.le_refl _, Nat.zero_le _, by simp, fun h => absurd h (by simp)⟩
set_option maxRecDepth 100000 in
set_option maxHeartbeats 4000000 in
theorem dFlush_ {w : World} {M : Nat → Prop} {b : Nat} {sf sn : Option Nat} {D : DDr} (h : DriveAt w M b sf sn D) :
    Calls Tryz.prog 31 #[.pointer (some ⟨b, 0, none⟩)] w fun y w' => y = .returned (.int .i64 (flushD D).2) ∧ ∃ M' sf' sn', DriveAt w' M' b sf' sn' (flushD D).1 ∧ DGo b w M sf sn w' M' sf' sn' := by
  obtain ⟨⟨queue, hr, hqu⟩, hs, hsn, hne, ho, hold, hwf⟩ := h
  have HMAY := Lib.hid (dMay_ (e := 0) hr hwf.left0 hwf.leftI.2)
  have hblt := hr.lt
  obtain ⟨m, hm⟩ : ∃ m, m = mayB D.armed D.left D.dead 0 := ⟨_, rfl⟩
  rw [← hm] at HMAY
  have hRB : flushD D = if m.1.1 = true then ({ D with safe := D.seen, queue := [], left := m.2.1, dead := m.2.2 }, m.1.2.2) else ({ D with left := m.2.1, dead := m.2.2 }, m.1.2.2) := by rw [hm]; rfl
  rw [hRB]
  have hml := mayB_left (dead := D.dead) (e := 0) hwf.left0 hwf.leftI
  rw [← hm] at hml
  have HW1 : Hid (({ D with safe := D.seen, queue := [], left := m.2.1, dead := m.2.2 } : DDr).Wf) := Lib.hid ⟨trivial, rfl, by have := hwf.seenFew; simpa using this, hml.1, hml.2⟩
  have HW2 : Hid (({ D with left := m.2.1, dead := m.2.2 } : DDr).Wf) := Lib.hid ⟨hwf.fit, hwf.same, hwf.few, hml.1, hml.2⟩
  have HSF := Lib.hid (hs.ne_cells hr)
  have HSN := Lib.hid (hsn.ne_cells hr)
  have HS := Lib.hid hs
  have HN := Lib.hid hsn
  have HQ := Lib.hid hqu
  clear hRB hm hr hml hs hsn hqu
  obtain ⟨⟨m1, m2, m3⟩, m4, m5⟩ := m
  simp only at HMAY HW1 HW2 ⊢
  cases m1 with
  | false =>
    rw [if_neg (by simp)]
    go_enter Tryz.func31, Tryz.ntmps31
    go_wp2_with (go_at_call 64; refine HMAY.out.mono ?_; rintro y w1 ⟨rfl, hC1, hT1⟩; have HC1 := Lib.hid hC1; have HT1 := Lib.hid hT1; clear hC1 hT1)
    go_ret
    have hz1 := HT1.out.size
    have hkp : ∀ c, c < w.heap.size → ¬ M c → w1.heap[c]? = w.heap[c]? ∧ ¬ M c := fun c hc hm => ⟨HT1.out.block c hc (fun er => hm (ho c (.inl er))), hm⟩
    exact ⟨rfl, M, sf, sn, ⟨⟨queue, HC1.out, (Ty.slice tDeed).keep HQ.out hkp⟩, HS.out.keep2 (fun m hm => ⟨HT1.out.block m (HSF.out m hm).1 (HSF.out m hm).2, ho m (.inr (.inl hm))⟩) hkp, HN.out.keep2 (fun m hm => ⟨HT1.out.block m (HSN.out m hm).1 (HSN.out m hm).2, ho m (.inr (.inr hm))⟩) hkp, hne, ho, fun c hc => by have := hold c hc; omega, HW2.out⟩, ⟨HT1.out.mono (fun c _ hm => .inr (.inl hm)), fun c h => h, fun c _ h => h, fun c _ h => h⟩⟩
  | true =>
    rw [if_pos rfl]
    go_enter Tryz.func31, Tryz.ntmps31
    go_upto_region 3 with (go_at_call 64; refine HMAY.out.mono ?_; rintro y w1 ⟨rfl, hC1, hT1⟩; have HC1 := Lib.hid hC1; have HT1 := Lib.hid hT1; clear hC1 hT1)
    have hz1 := HT1.out.size
    have hkp : ∀ c, c < w.heap.size → ¬ M c → w1.heap[c]? = w.heap[c]? ∧ ¬ M c := fun c hc hm => ⟨HT1.out.block c hc (fun er => hm (ho c (.inl er))), hm⟩
    have hN1 := HN.out.keep2 (w' := w1) (fun m hm => ⟨HT1.out.block m (HSN.out m hm).1 (HSN.out m hm).2, ho m (.inr (.inr hm))⟩) hkp
    have HN1 := Lib.hid hN1
    have HCL := Lib.hid (mClone_ hN1)
    have p1 : w1.cell? ⟨b, 1, none⟩ = some (.map sn) := HC1.out.cell 1
    clear hN1
    go_upto_region 4 with (go_at_call 65; refine HCL.out.mono ?_; rintro y w2 ⟨v2, rfl, hF2, hS2, hv2, hv3, hv4⟩; have d0 : w2.cell? ⟨b, 0, none⟩ = some (.map sf) := (hS2.cell (by first | assumption | omega | (simp; done) | (simp; omega)) 0).trans (HC1.out.cell 0); have d2 : w2.cell? ⟨b, 2, none⟩ = some queue := (hS2.cell (by first | assumption | omega | (simp; done) | (simp; omega)) 2).trans (HC1.out.cell 2); have g0 : w2.frozen? ⟨b, 0, none⟩ = false := (hS2.frozen (by first | assumption | omega | (simp; done) | (simp; omega)) 0).trans (HC1.out.frozen 0); have g2 : w2.frozen? ⟨b, 2, none⟩ = false := (hS2.frozen (by first | assumption | omega | (simp; done) | (simp; omega)) 2).trans (HC1.out.frozen 2); have HF2 := Lib.hid hF2; have HS2 := Lib.hid hS2; have HV2 := Lib.hid hv2; have HV3 := Lib.hid hv3; clear hF2 hS2 hv2 hv3 hv4)
    go_wp2
    go_ret
    have hz2 := HS2.out.size
    have hkb : ∀ c, c ≠ b → ((w2.setCell ⟨b, 0, none⟩ (.map v2)).setCell ⟨b, 2, none⟩ (.slice none 0 0)).heap[c]? = w2.heap[c]? := fun c hc => by
      rw [heap_setCell_other _ _ _ _ hc, heap_setCell_other _ _ _ _ hc]
    have hkp2 : ∀ c, c < w1.heap.size → ¬ M c → ((w2.setCell ⟨b, 0, none⟩ (.map v2)).setCell ⟨b, 2, none⟩ (.slice none 0 0)).heap[c]? = w1.heap[c]? ∧ ¬ (M c ∨ v2 = some c) := fun c hc hm =>
      ⟨(hkb c (fun e => hm (ho c (.inl e)))).trans (HS2.out.heap hc), fun hx => hx.elim hm (fun hx => by have := HV2.out c hx; omega)⟩
    refine ⟨rfl, fun c => M c ∨ v2 = some c, v2, sn, ⟨⟨.slice none 0 0, CellsAt.set (CellsAt.set (CellsAt.step HC1.out HS2.out) 0 _) 2 _, nil_deeds⟩, ?_, ?_, ?_, ?_, ?_, HW1.out⟩, ⟨?_, fun c h => .inl h, ?_, ?_⟩⟩
    · refine HF2.out.keep2 (fun m hm => ⟨hkb m (by have := HV2.out m hm; omega), .inr hm⟩) fun c hc hm => ⟨hkb c (fun e => hm (.inl (ho c (.inl e)))), hm⟩
    · exact HN1.out.keep2 (fun m hm => ⟨(hkb m (HSN.out m hm).2).trans (HS2.out.heap (by have := (HSN.out m hm).1; omega)), .inl (ho m (.inr (.inr hm)))⟩) hkp2
    · intro m hm er
      have h1 := HV2.out m hm
      have h2 := (HSN.out m er).1
      omega
    · intro c hc
      rcases hc with hc | hc | hc
      · exact .inl (ho c (.inl hc))
      · exact .inr hc
      · exact .inl (ho c (.inr (.inr hc)))
    · intro c hc
      have hsz : ((w2.setCell ⟨b, 0, none⟩ (.map v2)).setCell ⟨b, 2, none⟩ (.slice none 0 0)).heap.size = w2.heap.size := by simp
      rw [hsz]
      rcases hc with hc | hc
      · have := hold c hc; omega
      · exact HV3.out c hc
    · exact (((HT1.out.mono (fun c _ hm => .inr (.inl hm))).then HS2.out).setCell (p := ⟨b, 0, none⟩) (fun _ => .inr (.inl rfl)) _).setCell (p := ⟨b, 2, none⟩) (fun _ => .inr (.inl rfl)) _
    · intro c hc hm
      rcases hm with hm | hm
      · exact hm
      · have := HV2.out c hm; omega
    · intro c hc hd
      rcases hd with hd | hd | hd
      · exact .inl hd
      · have := HV2.out c hd; omega
      · exact .inr (.inr hd)
end Go.Proofs.YthebdlkmoailaaaGreatDoor
