/-
  Walks: a drive's Used at no map, Write, Append, Trim, Remove.
-/
import Derived.Test.YthebdlkmoailaaaGreatDoorZK3
set_option linter.unusedVariables false
set_option linter.unusedSimpArgs false
namespace Go.Proofs.YthebdlkmoailaaaGreatDoor
open Go.RowKit Go.Gr Go.Maps
open Go.Proofs (encStr)
set_option linter.unusedSimpArgs false
set_option linter.unusedVariables false
set_option maxRecDepth 100000 in
theorem dUsed0_ {w : World} {b : Nat} {safe queue : Value} {room left : Int} {armed dead : Bool} (h : DrAt w b safe (.map none) queue room armed left dead) :
    Calls Tryz.prog 83 #[.pointer (some ⟨b, 0, none⟩)] w fun x w' => x = .returned (.int .i64 0) ∧ Step w w' := by
  have c1 : w.cell? ⟨b, 1, none⟩ = some (.map none) := h.cell 1
  clear h
  have hrg : ∀ W : World, (Instr.range 83 (.map none)).run Tryz.prog W = .ok (.pointer (some ⟨W.heap.size, 0, none⟩)) (W.alloc (.mapIter none 0 #[] 0)) := fun W => by simp [Instr.range, run_underlying Tryz.underlying83, Result.andThen]
  have hnx : ∀ (W : World) (ty : TypeId), (Instr.next (.pointer (some ⟨W.heap.size, 0, none⟩)) false ty).run Tryz.prog (W.alloc (.mapIter none 0 #[] 0)) = .ok (.tuple #[.bool false]) (W.alloc (.mapIter none 0 #[] 0)) := fun W ty => by
    have hg : (getObj W.heap.size).run Tryz.prog (W.alloc (.mapIter none 0 #[] 0)) = .ok (.mapIter none 0 #[] 0) (W.alloc (.mapIter none 0 #[] 0)) := by simp only [getObj, Sem.run, heap_alloc_new W _]
    simp [Instr.next, hg, Result.andThen]
  go_enter Tryz.func83, Tryz.ntmps83
  go_wp2
  refine wp_loop_rounds 1 ?_
  rw [rounds_succ]
  go_wp2
  go_ret
  exact ⟨rfl, by (repeat (first | exact Step.refl _ | refine Step.alloc ?_ _ | refine Step.drew ?_ | refine Step.drewN ?_ _ | refine Step.setCell ?_ (by first | exact Nat.le_refl _ | assumption | omega | (simp; done) | (simp; omega)) _ | assumption | refine Step.trans ?_ (by assumption : Step _ _)))⟩
theorem dUsedD_ {w : World} {M : Nat → Prop} {b : Nat} {sf sn : Option Nat} {D : DDr} (h : DriveAt w M b sf sn D) (hu : usedB D.seen ≤ 4611686018427387904) :
    Calls Tryz.prog 83 #[.pointer (some ⟨b, 0, none⟩)] w fun x w' => x = .returned (.int .i64 (usedB D.seen)) ∧ Step w w' := by
  obtain ⟨queue, hr, _⟩ := h.row
  rcases h.seen with ⟨h1, h2⟩ | ⟨mb, h1, _, hm⟩
  · obtain rfl : sn = none := by injection h1
    rw [h2]
    exact dUsed0_ hr
  · obtain rfl : sn = some mb := by injection h1
    exact dUsed_ hr hm hu
set_option maxRecDepth 100000 in
set_option maxHeartbeats 4000000 in
theorem dWrite_ {w : World} {M M2 : Nat → Prop} {b : Nat} {sf sn : Option Nat} {D : DDr} {s d : List UInt8} {dv : Value} (h : DriveAt w M b sf sn D) (hd : Ty.bytes.rep w M2 [dv] d) (hs : s.length ≤ 1000) (hu : usedB D.seen ≤ 1099511627776) (hr0 : 0 ≤ D.room) (hr1 : D.room ≤ 1099511627776)
    (hl : (dataB D.seen s).length + d.length ≤ 68719476736) (hq : D.safe.length + D.queue.length < 1000000) :
    Calls Tryz.prog 60 #[.pointer (some ⟨b, 0, none⟩), encStr s, .int .i64 ((dataB D.seen s).length : Int), dv] w fun y w' => y = .returned (.int .i64 (appendD D s d).2) ∧ ∃ M' sf' sn', DriveAt w' M' b sf' sn' (appendD D s d).1 ∧ DGo b w M sf sn w' M' sf' sn' := by
  obtain ⟨queue, hr, _⟩ := h.row
  obtain ⟨da, dc, rfl, _, _, _⟩ := Ty.slice_val hd
  have hsm : s.length ≤ maxLen := by simp [maxLen]; omega
  obtain ⟨vv, hv, hlk⟩ := h.seen.look hsm
  obtain ⟨va, vc, rfl, _⟩ := Ty.slice_val hv
  have hlk1 := hlk w (fun _ _ => rfl) false
  simp only [Bool.false_eq_true, if_false] at hlk1
  have c1 : w.cell? ⟨b, 1, none⟩ = some (.map sn) := hr.cell 1
  have c3 : w.cell? ⟨b, 3, none⟩ = some (.int .i64 D.room) := hr.cell 3
  have HU := Lib.hid (fun (W : World) (hW : Step w W) => dUsedD_ (h.step hW) (by omega))
  have H := Lib.hid h
  have HD := Lib.hid hd
  obtain ⟨e0, he0⟩ : ∃ e0 : Int, e0 = if D.room - (usedB D.seen : Int) < (d.length : Int) then 8 else 0 := ⟨_, rfl⟩
  have HRAW := Lib.hid (fun (W : World) (MM : Nat → Prop) (xv : Value) (hW : DriveAt W MM b sf sn D) (hx : tDeed.rep W MM [xv] (.wr s (dataB D.seen s).length d)) => dRaw_ (e := e0) hW hx (by rw [he0]; split <;> simp [I64]) (fun _ => ⟨Nat.le_refl _, hl, hs⟩) hq)
  have hAP : appendD D s d = rawB D (.wr s (dataB D.seen s).length d) e0 := by rw [he0]; rfl
  rw [hAP]
  have HE := Lib.hid he0
  have hblt := hr.lt
  clear h hd hr hv hlk hAP he0
  generalize hL : (dataB D.seen s).length = L at *
  generalize hN : d.length = N at *
  generalize hUs : usedB D.seen = U at *
  have hL36 : L + N ≤ 68719476736 := hl
  have hw0 : IntKind.i64.wrap 0 = 0 := by rfl
  have hw1 : IntKind.i64.wrap (N : Int) = (N : Int) := by rw [IntKind.wrap_i64]; omega
  have hw2 : IntKind.i64.wrap (D.room - (U : Int)) = D.room - (U : Int) := by rw [IntKind.wrap_i64]; omega
  by_cases hfull : D.room - (U : Int) < (N : Int)
  · have he : e0 = 8 := by rw [HE.out, if_pos hfull]
    subst he
    clear HE
    have htst : decide (D.room - (U : Int) < (N : Int)) = true := decide_eq_true hfull
    go_enter Tryz.func60, Tryz.ntmps60
    go_wp2
    refine wp_region_held_drew (S := (fun w' => w'.cell? ⟨b, 3, none⟩ = some (.int .i64 D.room))) (by kernel_rfl) ?_ (fun hHeld => ?_)
    · (go_keep)
    refine tkH 0 ?_
    try simp only [Act.put, gtA, gtB, gtC, gtD, gtE, gtF]
    refine tkH 1 ?_
    try simp only [Act.put, gtA, gtB, gtC, gtD, gtE, gtF]
    refine tkH 2 ?_
    try simp only [Act.put, gtA, gtB, gtC, gtD, gtE, gtF]
    refine tkH 3 ?_
    try simp only [Act.put, gtA, gtB, gtC, gtD, gtE, gtF]
    refine tkH 4 ?_
    try simp only [Act.put, gtA, gtB, gtC, gtD, gtE, gtF]
    refine tkH 5 ?_
    try simp only [Act.put, gtA, gtB, gtC, gtD, gtE, gtF]
    refine tkH 6 ?_
    try simp only [Act.put, gtA, gtB, gtC, gtD, gtE, gtF]
    refine tkH 7 ?_
    try simp only [Act.put, gtA, gtB, gtC, gtD, gtE, gtF]
    refine tkH 8 ?_
    try simp only [Act.put, gtA, gtB, gtC, gtD, gtE, gtF]
    refine tkH 9 ?_
    try simp only [Act.put, gtA, gtB, gtC, gtD, gtE, gtF]
    refine tkH 10 ?_
    try simp only [Act.put, gtA, gtB, gtC, gtD, gtE, gtF]
    refine rdH (rs := [11]) (.cons rfl (fun K hK => ?_) .nil)
    try simp only [gtA, gtB, gtC]
    go_simp
    (go_at_call 83; refine (HU.out _ stp).mono ?_; rintro y w2 ⟨rfl, hS2⟩; have s2 : ∀ j, w2.cell? ⟨b, j, none⟩ = w.cell? ⟨b, j, none⟩ := fun j => (hS2.cell hblt j).trans (Step.cell (stp : Step w _) hblt j); have HS2 : Hid (Step w w2) := Lib.hid (Step.trans stp hS2); clear hS2)
    refine hK.out _ _ ?_ (fun hHeld => ?_)
    · (go_keep)
    clear hK K
    try simp only [Act.put, gtA, gtB, gtC, gtD, gtE, gtF]
    refine tkH 12 ?_
    try simp only [Act.put, gtA, gtB, gtC, gtD, gtE, gtF]
    refine tkH 13 ?_
    try simp only [Act.put, gtA, gtB, gtC, gtD, gtE, gtF]
    refine wpAnyH_done (by kernel_rfl) ?_ _
    go_wp2_with (first
      | (go_at_call 58; refine (Clone_ _ _ _ _ (Ty.step _ HD.out (HS2.out.trans stp))).mono ?_; rintro y w3 ⟨v3, rfl, hA3, hS3⟩; obtain ⟨a3, n3, c3, rfl, HN3⟩ := hA3.valN; have HS3 : Hid (Step w w3) := Lib.hid (HS2.out.trans (Step.trans stp hS3)); have HA3 := Lib.hid hA3; have hz23 := HS2.out.size; clear hA3 hS3)
      | (go_at_call 59; refine (HRAW.out _ M _ (H.out.step (HS3.out.trans stp)) ⟨_, rfl, ?_⟩).mono ?_; (exact Ty.step _ (Gr.Own.rep' (M := M) (Gr.Own.flat Ty.flat_byte HA3.out) (fun c hc hm => by have h1 := (HA3.out.lt hc).1; have h2 := H.out.old c hm; (try simp at h1); omega)) stp); rintro y w4 ⟨rfl, M', sf', sn', hD4, hG4⟩))
    go_ret
    exact ⟨rfl, M', sf', sn', hD4, DGo.from HS3.out H.out.old hG4⟩

  · have he : e0 = 0 := by rw [HE.out, if_neg hfull]
    subst he
    clear HE
    have htst : decide (D.room - (U : Int) < (N : Int)) = false := decide_eq_false hfull
    go_enter Tryz.func60, Tryz.ntmps60
    go_wp2
    refine wp_region_held_drew (S := (fun w' => w'.cell? ⟨b, 3, none⟩ = some (.int .i64 D.room))) (by kernel_rfl) ?_ (fun hHeld => ?_)
    · (go_keep)
    refine tkH 0 ?_
    try simp only [Act.put, gtA, gtB, gtC, gtD, gtE, gtF]
    refine tkH 1 ?_
    try simp only [Act.put, gtA, gtB, gtC, gtD, gtE, gtF]
    refine tkH 2 ?_
    try simp only [Act.put, gtA, gtB, gtC, gtD, gtE, gtF]
    refine tkH 3 ?_
    try simp only [Act.put, gtA, gtB, gtC, gtD, gtE, gtF]
    refine tkH 4 ?_
    try simp only [Act.put, gtA, gtB, gtC, gtD, gtE, gtF]
    refine tkH 5 ?_
    try simp only [Act.put, gtA, gtB, gtC, gtD, gtE, gtF]
    refine tkH 6 ?_
    try simp only [Act.put, gtA, gtB, gtC, gtD, gtE, gtF]
    refine tkH 7 ?_
    try simp only [Act.put, gtA, gtB, gtC, gtD, gtE, gtF]
    refine tkH 8 ?_
    try simp only [Act.put, gtA, gtB, gtC, gtD, gtE, gtF]
    refine tkH 9 ?_
    try simp only [Act.put, gtA, gtB, gtC, gtD, gtE, gtF]
    refine tkH 10 ?_
    try simp only [Act.put, gtA, gtB, gtC, gtD, gtE, gtF]
    refine rdH (rs := [11]) (.cons rfl (fun K hK => ?_) .nil)
    try simp only [gtA, gtB, gtC]
    go_simp
    (go_at_call 83; refine (HU.out _ stp).mono ?_; rintro y w2 ⟨rfl, hS2⟩; have s2 : ∀ j, w2.cell? ⟨b, j, none⟩ = w.cell? ⟨b, j, none⟩ := fun j => (hS2.cell hblt j).trans (Step.cell (stp : Step w _) hblt j); have HS2 : Hid (Step w w2) := Lib.hid (Step.trans stp hS2); clear hS2)
    refine hK.out _ _ ?_ (fun hHeld => ?_)
    · (go_keep)
    clear hK K
    try simp only [Act.put, gtA, gtB, gtC, gtD, gtE, gtF]
    refine tkH 12 ?_
    try simp only [Act.put, gtA, gtB, gtC, gtD, gtE, gtF]
    refine tkH 13 ?_
    try simp only [Act.put, gtA, gtB, gtC, gtD, gtE, gtF]
    refine wpAnyH_done (by kernel_rfl) ?_ _
    go_wp2_with (first
      | (go_at_call 58; refine (Clone_ _ _ _ _ (Ty.step _ HD.out (HS2.out.trans stp))).mono ?_; rintro y w3 ⟨v3, rfl, hA3, hS3⟩; obtain ⟨a3, n3, c3, rfl, HN3⟩ := hA3.valN; have HS3 : Hid (Step w w3) := Lib.hid (HS2.out.trans (Step.trans stp hS3)); have HA3 := Lib.hid hA3; have hz23 := HS2.out.size; clear hA3 hS3)
      | (go_at_call 59; refine (HRAW.out _ M _ (H.out.step (HS3.out.trans stp)) ⟨_, rfl, ?_⟩).mono ?_; (exact Ty.step _ (Gr.Own.rep' (M := M) (Gr.Own.flat Ty.flat_byte HA3.out) (fun c hc hm => by have h1 := (HA3.out.lt hc).1; have h2 := H.out.old c hm; (try simp at h1); omega)) stp); rintro y w4 ⟨rfl, M', sf', sn', hD4, hG4⟩))
    go_ret
    exact ⟨rfl, M', sf', sn', hD4, DGo.from HS3.out H.out.old hG4⟩

end Go.Proofs.YthebdlkmoailaaaGreatDoor
