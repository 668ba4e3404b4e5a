/-
  Walk: looks (JournalPlays): does a journal look like the reference's?
  What a round of JournalPlays knows; what each act makes of it.
  JournalPlays' beginning: a journal upon a new drive, the reference's journal beside it.
-/
import Derived.Test.YthebdlkmoailaaaGreatDoorZP14
import Derived.Test.YthebdlkmoailaaaGreatDoorZP17
import Derived.Test.YthebdlkmoailaaaGreatDoorZP11
import Derived.Test.YthebdlkmoailaaaGreatDoorZP2
import Derived.Test.YthebdlkmoailaaaGreatDoorZN7
import Derived.Test.YthebdlkmoailaaaGreatDoorZP10
import Derived.Test.YthebdlkmoailaaaGreatDoorZL19
set_option linter.unusedVariables false
set_option linter.unusedSimpArgs false
namespace Go.Proofs.YthebdlkmoailaaaGreatDoor
open Go.RowKit Go.Gr Go.Maps
open Go.Proofs (encStr)
set_option linter.unusedSimpArgs false
set_option linter.unusedVariables false
set_option maxRecDepth 100000 in
theorem jRecordsArg_ {w : World} {l b a z : Nat} {pre : List UInt8} {most : Int} {fv : Value} {closed : Bool} {fs : List DFile} (hl : LgAt w l b pre most fv closed) (hf : FRow w fv fs) (hbad : z < a ∨ a < firstL fs ∨ (lastF fs).to_ < z) :
    Calls Tryz.prog 16 #[.pointer (some ⟨l, 0, none⟩), .int .u64 (a : Int), .int .u64 (z : Int)] w fun e w' => e = .returned (.tuple #[.slice none 0 0, .int .i64 1]) ∧ Step w w' := by
  have HFI : Hid (∀ W : World, Step w W → Calls Tryz.prog 39 #[.pointer (some ⟨l, 0, none⟩)] W fun e w' => e = .returned (.int .u64 (firstL fs : Int)) ∧ w' = W) := Lib.hid (fun W hW => jFirst_ (CellsAt.step hl hW) (hf.step hW))
  have HNX : Hid (∀ W : World, Step w W → Calls Tryz.prog 17 #[.pointer (some ⟨l, 0, none⟩)] W fun e w' => e = .returned (.int .u64 ((lastF fs).to_ : Int)) ∧ Step W w') := Lib.hid (fun W hW => jNext_ (CellsAt.step hl hW) (hf.step hW))
  clear hl hf
  generalize firstL fs = f at *
  generalize (lastF fs).to_ = T at *
  by_cases c1 : z < a
  · have d1 : decide ((z : Int) < (a : Int)) = true := decide_eq_true (by omega)
    clear hbad
    go_enter Tryz.func16, Tryz.ntmps16
    go_wp2
    go_ret2
    exact ⟨rfl, by (repeat (first | exact Step.refl _ | refine Step.alloc ?_ _ | refine Step.drew ?_ | refine Step.drewN ?_ _ | refine Step.setCell ?_ (by first | exact Nat.le_refl _ | assumption | omega | (simp; done) | (simp; omega)) _ | assumption | refine Step.trans ?_ (by assumption : Step _ _)))⟩
  · have d1 : decide ((z : Int) < (a : Int)) = false := decide_eq_false (by omega)
    by_cases c2 : a < f
    · have d2 : decide ((a : Int) < (f : Int)) = true := decide_eq_true (by omega)
      clear hbad
      go_enter Tryz.func16, Tryz.ntmps16
      go_wp2_with (go_at_call 39; refine (HFI.out _ stp).mono ?_; rintro e w1 ⟨rfl, hw1⟩; subst hw1)
      go_ret2
      exact ⟨rfl, by (repeat (first | exact Step.refl _ | refine Step.alloc ?_ _ | refine Step.drew ?_ | refine Step.drewN ?_ _ | refine Step.setCell ?_ (by first | exact Nat.le_refl _ | assumption | omega | (simp; done) | (simp; omega)) _ | assumption | refine Step.trans ?_ (by assumption : Step _ _)))⟩
    · have d2 : decide ((a : Int) < (f : Int)) = false := decide_eq_false (by omega)
      have d3 : decide ((T : Int) < (z : Int)) = true := decide_eq_true (by omega)
      have d4 : decide (T < z) = true := decide_eq_true (by omega)
      clear hbad
      go_enter Tryz.func16, Tryz.ntmps16
      go_wp2_with (first
        | (go_at_call 39; refine (HFI.out _ stp).mono ?_; rintro e w1 ⟨rfl, hw1⟩; subst hw1)
        | (go_at_call 17; refine (HNX.out _ stp).mono ?_; rintro e w1 ⟨rfl, hS1⟩))
      go_ret2
      exact ⟨rfl, by (repeat (first | exact Step.refl _ | refine Step.alloc ?_ _ | refine Step.drew ?_ | refine Step.drewN ?_ _ | refine Step.setCell ?_ (by first | exact Nat.le_refl _ | assumption | omega | (simp; done) | (simp; omega)) _ | assumption | refine Step.trans ?_ (by assumption : Step _ _)))⟩
section
variable {pre : List UInt8} {w : World} {M : Nat → Prop} {xb b l : Nat} {D : DDr} {L : DLog} {s f : Nat} {rss : List (List (List UInt8))} {q U C : Nat}
theorem PSess.recordsArg {a z : Nat} (h : PSess pre w M xb b l D L s f rss q U C) (hbad : z < a ∨ a < f ∨ f + rss.flatten.length < z) :
    Calls Tryz.prog 16 #[.pointer (some ⟨l, 0, none⟩), .int .u64 (a : Int), .int .u64 (z : Int)] w fun e w' => e = .returned (.tuple #[.slice none 0 0, .int .i64 1]) ∧ Step w w' := by
  obtain ⟨sf, sn, g, hD, hL, _, _⟩ := h.mem
  obtain ⟨fv, h1, h2, _⟩ := hL.row
  exact jRecordsArg_ h1 h2 (by rw [firstL_le h.inv.chain h.inv.start, (h.inv.chain.last h.inv.start).2]; exact hbad)
end
theorem own_formN {α : Type} {E : Ty α} {e : TypeId} {w : World} {M : Nat → Prop} {B : Nat} {v : Value} {xs : List α} (h : Gr.Own E e w M B v xs) : (v = .slice none 0 0 ∧ xs = []) ∨ ∃ g c, v = .slice (some ⟨g, 0, none⟩) xs.length c := by
  obtain ⟨_, cells, ho, _⟩ := h
  rcases ho.2 with ⟨hv, h0⟩ | ⟨g, cap, cur, hv, _⟩
  · exact .inl ⟨hv, List.length_eq_zero_iff.1 h0⟩
  · exact .inr ⟨g, cap, hv⟩
theorem span_at {w : World} {M : Nat → Prop} {a : Option Addr} {n c k : Nat} {xs : List (Nat × Nat)} (h : (Ty.slice tSpan).rep w M [.slice a n c] xs) (hk : k < xs.length) :
    ∃ g off, a = some ⟨g, off, none⟩ ∧ g < w.heap.size ∧ w.cell? ⟨g, off + k * 2, none⟩ = some (.int .u64 (xs[k].1 : Int)) ∧ w.cell? ⟨g, off + k * 2 + 1, none⟩ = some (.int .u64 (xs[k].2 : Int)) := by
  obtain ⟨g, off, es, rfl, hg, _, ⟨c1, c2, rfl, ⟨rfl, _⟩, ⟨rfl, _⟩⟩, hc⟩ := Ty.slice_at h hk
  exact ⟨g, off, rfl, hg, hc 0 _ rfl, hc 1 _ rfl⟩
set_option maxRecDepth 100000 in
set_option maxHeartbeats 8000000 in
theorem looks_ {pre : List UInt8} {w : World} {M : Nat → Prop} {xb b l : Nat} {D : DDr} {L : DLog} {s f : Nat} {rss : List (List (List UInt8))} {q U C : Nat} {fv : Value} {sn a z : Nat} (h : PSess pre w M xb b l D L s f rss q U C) (hp : pre.length ≤ 998) (hq : q < 99) (hU : U ≤ 68719476736) (hT : f + rss.flatten.length ≤ 1000000) (hrep : (Ty.slice tRFile).rep w M [fv] (zipR L.files rss)) :
    Calls Tryz.prog 35 #[.pointer (some ⟨l, 0, none⟩), .agg #[fv, .int .u64 (sn : Int), .bool L.closed], .int .u64 (a : Int), .int .u64 (z : Int)] w fun e w' => e = .returned (.bool true) ∧ Step w w' := by
  have hch := h.inv.chain
  have hlen := hch.len
  obtain ⟨fa, fc, rfl, _, _, _⟩ := Ty.slice_val hrep
  have hzl := zipR_len hlen
  obtain ⟨N, hN⟩ : ∃ N, N = (zipR L.files rss).length := ⟨_, rfl⟩
  have hN100 : N ≤ 100 := by have := h.few; omega
  rw [← hN] at hrep hzl ⊢
  obtain ⟨cl, hcl⟩ : ∃ cl, cl = L.closed := ⟨_, rfl⟩
  obtain ⟨T, hTe⟩ : ∃ T, T = f + rss.flatten.length := ⟨_, rfl⟩
  obtain ⟨Cl, hCl⟩ : ∃ Cl, Cl = rClosed (refOf L s rss) := ⟨_, rfl⟩
  have hRC : ∀ sn, rClosed ⟨zipR L.files rss, sn, L.closed⟩ = Cl := fun sn => by rw [hCl]; rfl
  have HR := Lib.hid hrep
  have HRN : Hid (∀ W : World, Step w W → Calls Tryz.prog 29 #[.agg #[.slice fa N fc, .int .u64 (sn : Int), .bool cl]] W fun e w' => e = .returned (.int .u64 (T : Int)) ∧ Step W w') := Lib.hid (fun W hW => by
    have h1 := rNext_ (s := sn) (cl := cl) (Ty.step _ hrep hW)
    rw [show rNext (zipR L.files rss) = T by rw [hTe]; exact refOf_next hch h.inv.start] at h1
    exact h1)
  have HRF : Hid (∀ W : World, Step w W → Calls Tryz.prog 36 #[.agg #[.slice fa N fc, .int .u64 (sn : Int), .bool cl]] W fun e w' => e = .returned (.int .u64 (f : Int)) ∧ Step W w') := Lib.hid (fun W hW => by
    have h1 := rFirst_ (s := sn) (cl := cl) (Ty.step _ hrep hW)
    rw [show rFirst (zipR L.files rss) = f from refOf_first hch h.inv.start] at h1
    exact h1)
  have HRC : Hid (∀ W : World, Step w W → Calls Tryz.prog 67 #[.agg #[.slice fa N fc, .int .u64 (sn : Int), .bool cl]] W fun e w' => e = .returned (.int .u64 (Cl : Int)) ∧ Step W w') := Lib.hid (fun W hW => by
    have h1 := rClosed_ (s := sn) (cl := cl) (Ty.step _ hrep hW)
    rw [hcl, hRC] at h1
    rw [hcl]
    exact h1)
  have HRA : Hid (∀ W : World, Step w W → Calls Tryz.prog 68 #[.agg #[.slice fa N fc, .int .u64 (sn : Int), .bool cl]] W fun e w' => ∃ v, e = .returned v ∧ Gr.Own Ty.bytes 40 w' M W.heap.size v rss.flatten ∧ Step W w') := Lib.hid (fun W hW => by
    have h1 := rAll_ (s := sn) (cl := cl) (Ty.step _ hrep hW) (by rw [zipR_all hlen]; omega)
    rw [zipR_all hlen] at h1
    exact h1)
  have HJN : Hid (∀ W : World, Step w W → Calls Tryz.prog 17 #[.pointer (some ⟨l, 0, none⟩)] W fun e w' => e = .returned (.int .u64 (T : Int)) ∧ Step W w') := Lib.hid (fun W hW => by rw [hTe]; exact (h.step hW).next)
  have HJF : Hid (∀ W : World, Step w W → Calls Tryz.prog 39 #[.pointer (some ⟨l, 0, none⟩)] W fun e w' => e = .returned (.int .u64 (f : Int)) ∧ w' = W) := Lib.hid (fun W hW => (h.step hW).first)
  have HJC : Hid (∀ W : World, Step w W → Calls Tryz.prog 41 #[.pointer (some ⟨l, 0, none⟩)] W fun e w' => e = .returned (.int .u64 (Cl : Int)) ∧ Step W w') := Lib.hid (fun W hW => by rw [hCl]; exact (h.step hW).closed)
  have HJS : Hid (∀ W : World, Step w W → Calls Tryz.prog 40 #[.pointer (some ⟨l, 0, none⟩)] W fun e w' => ∃ v, e = .returned v ∧ Gr.Own tSpan 75 w' (fun _ => False) W.heap.size v (spansL L.files) ∧ Step W w') := Lib.hid (fun W hW => (h.step hW).spans)
  have hfew := h.few
  have HRE : Hid (¬ (z < a ∨ a < f ∨ T < z) → ∀ W : World, Step w W → Calls Tryz.prog 16 #[.pointer (some ⟨l, 0, none⟩), .int .u64 (a : Int), .int .u64 (z : Int)] W fun e w' => ∃ v ds, e = .returned (.tuple #[v, .int .i64 0]) ∧ Gr.Own (tGB 5) 40 w' (· < W.heap.size) W.heap.size v ds ∧ Step W w' ∧ Hid (ds.map Prod.fst = (rss.flatten.take (z - f)).drop (a - f)) ∧ ApartD ds) := Lib.hid (fun hok W hW => (h.step hW).records hp hq hU (by omega) (by omega) (by omega) (by omega) (by omega))
  have HRB : Hid ((z < a ∨ a < f ∨ T < z) → ∀ W : World, Step w W → Calls Tryz.prog 16 #[.pointer (some ⟨l, 0, none⟩), .int .u64 (a : Int), .int .u64 (z : Int)] W fun e w' => e = .returned (.tuple #[.slice none 0 0, .int .i64 1]) ∧ Step W w') := Lib.hid (fun hbad W hW => (h.step hW).recordsArg (by rw [← hTe]; exact hbad))
  have HCH := Lib.hid hch
  have HN := Lib.hid hN
  have hspl : (spansL L.files).length = N := by unfold spansL; rw [List.length_map, hzl]
  have HSP := Lib.hid hspl
  have HZL := Lib.hid hzl
  have HTE := Lib.hid hTe
  have hT2 : T ≤ 1000000 := by omega
  rw [← hcl]
  clear h hrep hch hlen hN hspl hcl hTe hCl hRC hT hfew hzl
  go_enter Tryz.func35, Tryz.ntmps35
  go_upto_region 2 with (go_at_call 40; refine (HJS.out _ stp).mono ?_; rintro e w1 ⟨v1, rfl, hA1, hS1⟩; obtain ⟨a1, n1, c1, rfl, HN1⟩ := hA1.valN; have HA1 : Hid ((Ty.slice tSpan).rep w1 (fun _ => False) [.slice a1 n1 c1] (spansL L.files)) := Lib.hid (Own.rep' hA1 (fun _ _ h => h)); have HS1 : Hid (Step w w1) := Lib.hid (Step.trans stp hS1); have hxk := hS1.heap (b := w.heap.size) (by simp); rw [heap_alloc_new] at hxk; clear hA1 hS1)
  refine wp_codeN (fun wx => CellsAt wx w.heap.size #[.slice fa N fc, .int .u64 (sn : Int), .bool cl] 55 ∧ Step w wx ∧ (Ty.slice tSpan).rep wx (fun _ => False) [.slice a1 n1 c1] (spansL L.files)) ⟨hxk, HS1.out, HA1.out⟩ ?_
  rintro w2 ⟨hx2, hS2, hA2⟩
  obtain ⟨xb, hxb⟩ : ∃ xb, xb = w.heap.size := ⟨_, rfl⟩
  rw [← hxb] at hx2 ⊢
  have HX2 := Lib.hid hx2
  have HS2 := Lib.hid hS2
  have HA2 := Lib.hid hA2
  have e0 : w2.cell? ⟨xb, 0, none⟩ = some (.slice fa N fc) := hx2.cell 0
  have e1 : w2.cell? ⟨xb, 1, none⟩ = some (.int .u64 (sn : Int)) := hx2.cell 1
  have e2 : w2.cell? ⟨xb, 2, none⟩ = some (.bool cl) := hx2.cell 2
  have hxl := hx2.lt
  have hn1 : n1 = N := HN1.out.trans HSP.out
  subst hn1
  clear hx2 hS2 hA2 hxb HA1 HS1 hxk HN1
  refine wp_region_held_drew (S := (fun w' => w'.cell? ⟨xb, 0, none⟩ = some (.slice fa n1 fc) ∧ w'.cell? ⟨xb, 1, none⟩ = some (.int .u64 (sn : Int)) ∧ w'.cell? ⟨xb, 2, none⟩ = some (.bool cl))) (by kernel_rfl) ?_ (fun hHeld => ?_)
  · (go_keep)
  refine tkH 0 ?_
  try simp only [Act.put, gtA, gtB, gtC, gtD, gtE, gtF]
  refine tkH 2 ?_
  try simp only [Act.put, gtA, gtB, gtC, gtD, gtE, gtF]
  refine rdH (rs := [1]) (.cons rfl (fun K hK => ?_) .nil)
  try simp only [gtA, gtB, gtC]
  go_simp
  (go_at_call 39; refine (HJF.out _ (HS2.out.trans stp)).mono ?_; rintro e w3 ⟨rfl, hw3⟩; subst hw3)
  refine hK.out _ _ ?_ (fun hHeld => ?_)
  · (go_keep)
  clear hK K
  try simp only [Act.put, gtA, gtB, gtC, gtD, gtE, gtF]
  refine rdH (rs := [3]) (.cons rfl (fun K hK => ?_) .nil)
  try simp only [gtA, gtB, gtC]
  go_simp
  (go_at_call 36; refine (HRF.out _ (HS2.out.trans (stp))).mono ?_; rintro e w4 ⟨rfl, hS4⟩; have HS4 : Hid (Step w2 w4) := Lib.hid ((Step.trans stp hS4)); have y4 : ∀ j, w4.cell? ⟨xb, j, none⟩ = _ := fun j => HS4.out.cell hxl j; clear hS4)
  refine hK.out _ _ ?_ (fun hHeld => ?_)
  · (go_keep)
  clear hK K
  try simp only [Act.put, gtA, gtB, gtC, gtD, gtE, gtF]
  refine tkH 4 ?_
  try simp only [Act.put, gtA, gtB, gtC, gtD, gtE, gtF]
  refine tkH 5 ?_
  try simp only [Act.put, gtA, gtB, gtC, gtD, gtE, gtF]
  refine tkH 6 ?_
  try simp only [Act.put, gtA, gtB, gtC, gtD, gtE, gtF]
  refine tkH 8 ?_
  try simp only [Act.put, gtA, gtB, gtC, gtD, gtE, gtF]
  refine rdH (rs := [7]) (.cons rfl (fun K hK => ?_) .nil)
  try simp only [gtA, gtB, gtC]
  go_simp
  (go_at_call 17; refine (HJN.out _ (HS2.out.trans (HS4.out.trans stp))).mono ?_; rintro e w5 ⟨rfl, hS5⟩; have HS5 : Hid (Step w2 w5) := Lib.hid (HS4.out.trans (Step.trans stp hS5)); have y5 : ∀ j, w5.cell? ⟨xb, j, none⟩ = _ := fun j => HS5.out.cell hxl j; clear hS5)
  refine hK.out _ _ ?_ (fun hHeld => ?_)
  · (go_keep)
  clear hK K
  try simp only [Act.put, gtA, gtB, gtC, gtD, gtE, gtF]
  refine rdH (rs := [9]) (.cons rfl (fun K hK => ?_) .nil)
  try simp only [gtA, gtB, gtC]
  go_simp
  (go_at_call 29; refine (HRN.out _ (HS2.out.trans (HS5.out.trans stp))).mono ?_; rintro e w6 ⟨rfl, hS6⟩; have HS6 : Hid (Step w2 w6) := Lib.hid (HS5.out.trans (Step.trans stp hS6)); have y6 : ∀ j, w6.cell? ⟨xb, j, none⟩ = _ := fun j => HS6.out.cell hxl j; clear hS6)
  refine hK.out _ _ ?_ (fun hHeld => ?_)
  · (go_keep)
  clear hK K
  try simp only [Act.put, gtA, gtB, gtC, gtD, gtE, gtF]
  refine tkH 10 ?_
  try simp only [Act.put, gtA, gtB, gtC, gtD, gtE, gtF]
  refine tkH 11 ?_
  try simp only [Act.put, gtA, gtB, gtC, gtD, gtE, gtF]
  refine tkH 12 ?_
  try simp only [Act.put, gtA, gtB, gtC, gtD, gtE, gtF]
  refine tkH 13 ?_
  try simp only [Act.put, gtA, gtB, gtC, gtD, gtE, gtF]
  refine tkH 15 ?_
  try simp only [Act.put, gtA, gtB, gtC, gtD, gtE, gtF]
  refine rdH (rs := [14]) (.cons rfl (fun K hK => ?_) .nil)
  try simp only [gtA, gtB, gtC]
  go_simp
  (go_at_call 41; refine (HJC.out _ (HS2.out.trans (HS6.out.trans stp))).mono ?_; rintro e w7 ⟨rfl, hS7⟩; have HS7 : Hid (Step w2 w7) := Lib.hid (HS6.out.trans (Step.trans stp hS7)); have y7 : ∀ j, w7.cell? ⟨xb, j, none⟩ = _ := fun j => HS7.out.cell hxl j; clear hS7)
  refine hK.out _ _ ?_ (fun hHeld => ?_)
  · (go_keep)
  clear hK K
  try simp only [Act.put, gtA, gtB, gtC, gtD, gtE, gtF]
  refine rdH (rs := [16]) (.cons rfl (fun K hK => ?_) .nil)
  try simp only [gtA, gtB, gtC]
  go_simp
  (go_at_call 67; refine (HRC.out _ (HS2.out.trans (HS7.out.trans stp))).mono ?_; rintro e w8 ⟨rfl, hS8⟩; have HS8 : Hid (Step w2 w8) := Lib.hid (HS7.out.trans (Step.trans stp hS8)); have y8 : ∀ j, w8.cell? ⟨xb, j, none⟩ = _ := fun j => HS8.out.cell hxl j; clear hS8)
  refine hK.out _ _ ?_ (fun hHeld => ?_)
  · (go_keep)
  clear hK K
  try simp only [Act.put, gtA, gtB, gtC, gtD, gtE, gtF]
  refine tkH 17 ?_
  try simp only [Act.put, gtA, gtB, gtC, gtD, gtE, gtF]
  refine tkH 18 ?_
  try simp only [Act.put, gtA, gtB, gtC, gtD, gtE, gtF]
  refine tkH 19 ?_
  try simp only [Act.put, gtA, gtB, gtC, gtD, gtE, gtF]
  refine tkH 20 ?_
  try simp only [Act.put, gtA, gtB, gtC, gtD, gtE, gtF]
  refine tkH 21 ?_
  try simp only [Act.put, gtA, gtB, gtC, gtD, gtE, gtF]
  refine tkH 22 ?_
  try simp only [Act.put, gtA, gtB, gtC, gtD, gtE, gtF]
  refine tkH 23 ?_
  try simp only [Act.put, gtA, gtB, gtC, gtD, gtE, gtF]
  refine tkH 24 ?_
  try simp only [Act.put, gtA, gtB, gtC, gtD, gtE, gtF]
  refine tkH 25 ?_
  try simp only [Act.put, gtA, gtB, gtC, gtD, gtE, gtF]
  refine tkH 26 ?_
  try simp only [Act.put, gtA, gtB, gtC, gtD, gtE, gtF]
  refine wpAnyH_done (by kernel_rfl) ?_ _
  go_upto_region 4 with fail
  refine wp_codeN (fun wx => Step w2 wx) (by first | exact HS8.out | exact HS8.out.trans stp) ?_
  rintro w9 hS9
  have HS9 := Lib.hid hS9
  have e0 : w9.cell? ⟨xb, 0, none⟩ = some (.slice fa n1 fc) := (hS9.cell hxl 0).trans e0
  have e1 : w9.cell? ⟨xb, 1, none⟩ = some (.int .u64 (sn : Int)) := (hS9.cell hxl 1).trans e1
  have e2 : w9.cell? ⟨xb, 2, none⟩ = some (.bool cl) := (hS9.cell hxl 2).trans e2
  clear hS9 HS4 HS5 HS6 HS7 HS8 y4 y5 y6 y7 y8 HJS HJN HJF HJC HRC
  go_wp2
  go_loopw [47] (fun iv w' => ∃ k : Nat, iv = .int .i64 (k : Int) ∧ k ≤ n1 ∧ Hid (Step w9 w')) (fun iv _ => n1 - (Go.RowKit.intOf iv).toNat)
  case atStart => exact ⟨0, rfl, Nat.zero_le _, Lib.hid (Step.refl _)⟩
  case round =>
    obtain ⟨k, rfl, hk, HK⟩ := hrel
    have HKW : Hid (Step w2 wr) := Lib.hid (HS9.out.trans HK.out)
    by_cases hlt : k < n1
    · have hd : decide ((k : Int) < (n1 : Int)) = true := decide_eq_true (by omega)
      have hk1 : k < L.files.length := by rw [← HZL.out]; exact hlt
      have hk2 : k < (zipR L.files rss).length := by rw [← HN.out]; exact hlt
      have hk3 : k < (spansL L.files).length := by rw [HSP.out]; exact hlt
      obtain ⟨z1, z2, z3⟩ := HCH.out.zipAt hk1 hk2
      obtain ⟨g7, o7, ha7, hg7, p0, p1⟩ := span_at (Ty.step _ HA2.out HKW.out) hk3
      obtain ⟨g8, o8, ra, rc, ha8, hg8, q0, q1, q2, hbd, hrr, _⟩ := tRFile.cells (Ty.step _ HR.out (HS2.out.trans HKW.out)) hk2
      subst ha7 ha8
      have hrl := Ty.slice_le hrr
      have hE : (spansL L.files)[k] = (L.files[k].from_, L.files[k].to_) := by simp [spansL]
      rw [hE] at p0 p1
      simp only at p0 p1
      rw [← z1] at p0
      rw [← z2] at p1
      unfold rEnd at p1
      have HLT : Hid (k + 1 ≤ n1) := Lib.hid hlt
      clear z1 z2 z3 hE hrr hk1 hk3
      generalize ((zipR L.files rss)[k]).from_ = A at *
      generalize ((zipR L.files rss)[k]).recs.length = m at *
      generalize ((zipR L.files rss)[k]).size = sz at *
      clear hk2
      go_upto_region 7 with fail
      refine wp_codeN (fun wx => CellsAt wx wr.heap.size #[.int .u64 (A : Int), .slice ra m rc, .int .i64 sz] 107 ∧ Step wr wx) ⟨CellsAt.new rfl, by (repeat (first | exact Step.refl _ | refine Step.alloc ?_ _ | refine Step.drew ?_ | refine Step.drewN ?_ _ | refine Step.setCell ?_ (by first | exact Nat.le_refl _ | assumption | omega | (simp; done) | (simp; omega)) _ | assumption | refine Step.trans ?_ (by assumption : Step _ _)))⟩ ?_
      rintro w11 ⟨hf11, hS11⟩
      obtain ⟨fb, hfb⟩ : ∃ fb, fb = wr.heap.size := ⟨_, rfl⟩
      rw [← hfb] at hf11 ⊢
      have f0 : w11.cell? ⟨fb, 0, none⟩ = some (.int .u64 (A : Int)) := hf11.cell 0
      have f1 : w11.cell? ⟨fb, 1, none⟩ = some (.slice ra m rc) := hf11.cell 1
      have f2 : w11.cell? ⟨fb, 2, none⟩ = some (.int .i64 sz) := hf11.cell 2
      have p0 := (hS11.cell hg7 _).trans p0
      have p1 := (hS11.cell hg7 _).trans p1
      have HS11 := Lib.hid hS11
      clear hfb hf11 hS11 q0 q1 q2
      refine wp_region_held_drew (S := (fun w' => w'.cell? ⟨g7, o7 + k * 2, none⟩ = some (.int .u64 (A : Int)) ∧ w'.cell? ⟨g7, o7 + k * 2 + 1, none⟩ = some (.int .u64 ((A + m : Nat) : Int)) ∧ w'.cell? ⟨fb, 0, none⟩ = some (.int .u64 (A : Int)) ∧ w'.cell? ⟨fb, 1, none⟩ = some (.slice ra m rc) ∧ w'.cell? ⟨fb, 2, none⟩ = some (.int .i64 sz))) (by kernel_rfl) ?_ (fun hHeld => ?_)
      · (go_keep)
      refine tkH 0 ?_
      try simp only [Act.put, gtA, gtB, gtC, gtD, gtE, gtF]
      refine tkH 1 ?_
      try simp only [Act.put, gtA, gtB, gtC, gtD, gtE, gtF]
      refine tkH 2 ?_
      try simp only [Act.put, gtA, gtB, gtC, gtD, gtE, gtF]
      refine tkH 3 ?_
      try simp only [Act.put, gtA, gtB, gtC, gtD, gtE, gtF]
      refine tkH 4 ?_
      try simp only [Act.put, gtA, gtB, gtC, gtD, gtE, gtF]
      refine tkH 5 ?_
      try simp only [Act.put, gtA, gtB, gtC, gtD, gtE, gtF]
      refine tkH 6 ?_
      try simp only [Act.put, gtA, gtB, gtC, gtD, gtE, gtF]
      refine tkH 7 ?_
      try simp only [Act.put, gtA, gtB, gtC, gtD, gtE, gtF]
      refine tkH 8 ?_
      try simp only [Act.put, gtA, gtB, gtC, gtD, gtE, gtF]
      refine tkH 9 ?_
      try simp only [Act.put, gtA, gtB, gtC, gtD, gtE, gtF]
      refine tkH 10 ?_
      try simp only [Act.put, gtA, gtB, gtC, gtD, gtE, gtF]
      refine tkH 11 ?_
      try simp only [Act.put, gtA, gtB, gtC, gtD, gtE, gtF]
      refine tkH 12 ?_
      try simp only [Act.put, gtA, gtB, gtC, gtD, gtE, gtF]
      refine tkH 13 ?_
      try simp only [Act.put, gtA, gtB, gtC, gtD, gtE, gtF]
      refine tkH 14 ?_
      try simp only [Act.put, gtA, gtB, gtC, gtD, gtE, gtF]
      refine rdH (rs := [15]) (.cons rfl (fun K hK => ?_) .nil)
      try simp only [gtA, gtB, gtC]
      go_simp
      (go_at_call 61; refine (rEnd_ hbd hrl).mono ?_; rintro e w12 ⟨rfl, hS12⟩; have HS12 : Hid (Step w11 w12) := Lib.hid (Step.trans stp hS12); have s12a : ∀ j, w12.cell? ⟨g7, j, none⟩ = _ := fun j => HS12.out.cell (Nat.lt_of_lt_of_le hg7 HS11.out.size) j; have s12b : ∀ j, w12.cell? ⟨fb, j, none⟩ = _ := fun j => HS12.out.cell (lt_of_cell f0) j; clear hS12)
      refine hK.out _ _ ?_ (fun hHeld => ?_)
      · (go_keep)
      clear hK K
      try simp only [Act.put, gtA, gtB, gtC, gtD, gtE, gtF]
      refine tkH 16 ?_
      try simp only [Act.put, gtA, gtB, gtC, gtD, gtE, gtF]
      refine tkH 17 ?_
      try simp only [Act.put, gtA, gtB, gtC, gtD, gtE, gtF]
      refine wpAnyH_done (by kernel_rfl) ?_ _
      go_wp2
      go_roundw
      case rel => exact ⟨k + 1, by go_num, HLT.out, Lib.hid (HK.out.trans (HS11.out.trans (HS12.out.trans stp)))⟩
      case measure => simp [Go.RowKit.intOf]; omega
    · have hd : decide ((k : Int) < (n1 : Int)) = false := decide_eq_false (by omega)
      have e0 : wr.cell? ⟨xb, 0, none⟩ = some (.slice fa n1 fc) := (HK.out.cell (lt_of_cell e0) 0).trans e0
      have e1 : wr.cell? ⟨xb, 1, none⟩ = some (.int .u64 (sn : Int)) := (HK.out.cell (lt_of_cell e1) 1).trans e1
      have e2 : wr.cell? ⟨xb, 2, none⟩ = some (.bool cl) := (HK.out.cell (lt_of_cell e2) 2).trans e2
      have HWr : Hid (Step w wr) := Lib.hid (HS2.out.trans HKW.out)
      clear HCH HN HSP HZL HA2 HR HS9 HK HKW
      by_cases c1 : z < a
      · have d1 : decide ((z : Int) < (a : Int)) = true := decide_eq_true (by omega)
        have HBAD := Lib.hid (HRB.out (by omega))
        clear HRE HRB
        go_wp2_with (first
          | (go_at_call 16; refine (HBAD.out _ (HWr.out.trans stp)).mono ?_; rintro e w13 ⟨rfl, hS13⟩; have HS13 : Hid (Step wr w13) := Lib.hid (Step.trans stp hS13); have g0 : w13.cell? ⟨xb, 0, none⟩ = some (.slice fa n1 fc) := (HS13.out.cell (lt_of_cell e0) 0).trans e0; have g1 : w13.cell? ⟨xb, 1, none⟩ = some (.int .u64 (sn : Int)) := (HS13.out.cell (lt_of_cell e1) 1).trans e1; have g2 : w13.cell? ⟨xb, 2, none⟩ = some (.bool cl) := (HS13.out.cell (lt_of_cell e2) 2).trans e2; clear hS13)
          | (go_at_call 36; refine (HRF.out _ (HWr.out.trans (HS13.out.trans stp))).mono ?_; rintro e w14 ⟨rfl, hS14⟩; have HS14 : Hid (Step wr w14) := Lib.hid (HS13.out.trans (Step.trans stp hS14)); have g0 : w14.cell? ⟨xb, 0, none⟩ = some (.slice fa n1 fc) := (HS14.out.cell (lt_of_cell e0) 0).trans e0; have g1 : w14.cell? ⟨xb, 1, none⟩ = some (.int .u64 (sn : Int)) := (HS14.out.cell (lt_of_cell e1) 1).trans e1; have g2 : w14.cell? ⟨xb, 2, none⟩ = some (.bool cl) := (HS14.out.cell (lt_of_cell e2) 2).trans e2; clear hS14)
          | (go_at_call 29; refine (HRN.out _ (HWr.out.trans (HS14.out.trans stp))).mono ?_; rintro e w15 ⟨rfl, hS15⟩; have HS15 : Hid (Step wr w15) := Lib.hid (HS14.out.trans (Step.trans stp hS15)); clear hS15))
        go_ret
        first
          | exact ⟨rfl, HWr.out.trans (HS15.out.trans stp)⟩
          | exact ⟨rfl, HWr.out.trans (HS14.out.trans stp)⟩
          | exact ⟨rfl, HWr.out.trans (HS13.out.trans stp)⟩

      have d1 : decide ((z : Int) < (a : Int)) = false := decide_eq_false (by omega)
      by_cases c2 : a < f
      · have d2 : decide ((a : Int) < (f : Int)) = true := decide_eq_true (by omega)
        have HBAD := Lib.hid (HRB.out (by omega))
        clear HRE HRB
        go_wp2_with (first
          | (go_at_call 16; refine (HBAD.out _ (HWr.out.trans stp)).mono ?_; rintro e w13 ⟨rfl, hS13⟩; have HS13 : Hid (Step wr w13) := Lib.hid (Step.trans stp hS13); have g0 : w13.cell? ⟨xb, 0, none⟩ = some (.slice fa n1 fc) := (HS13.out.cell (lt_of_cell e0) 0).trans e0; have g1 : w13.cell? ⟨xb, 1, none⟩ = some (.int .u64 (sn : Int)) := (HS13.out.cell (lt_of_cell e1) 1).trans e1; have g2 : w13.cell? ⟨xb, 2, none⟩ = some (.bool cl) := (HS13.out.cell (lt_of_cell e2) 2).trans e2; clear hS13)
          | (go_at_call 36; refine (HRF.out _ (HWr.out.trans (HS13.out.trans stp))).mono ?_; rintro e w14 ⟨rfl, hS14⟩; have HS14 : Hid (Step wr w14) := Lib.hid (HS13.out.trans (Step.trans stp hS14)); have g0 : w14.cell? ⟨xb, 0, none⟩ = some (.slice fa n1 fc) := (HS14.out.cell (lt_of_cell e0) 0).trans e0; have g1 : w14.cell? ⟨xb, 1, none⟩ = some (.int .u64 (sn : Int)) := (HS14.out.cell (lt_of_cell e1) 1).trans e1; have g2 : w14.cell? ⟨xb, 2, none⟩ = some (.bool cl) := (HS14.out.cell (lt_of_cell e2) 2).trans e2; clear hS14)
          | (go_at_call 29; refine (HRN.out _ (HWr.out.trans (HS14.out.trans stp))).mono ?_; rintro e w15 ⟨rfl, hS15⟩; have HS15 : Hid (Step wr w15) := Lib.hid (HS14.out.trans (Step.trans stp hS15)); clear hS15))
        go_ret
        first
          | exact ⟨rfl, HWr.out.trans (HS15.out.trans stp)⟩
          | exact ⟨rfl, HWr.out.trans (HS14.out.trans stp)⟩
          | exact ⟨rfl, HWr.out.trans (HS13.out.trans stp)⟩

      have d2 : decide ((a : Int) < (f : Int)) = false := decide_eq_false (by omega)
      by_cases c3 : T < z
      · have d3 : decide ((T : Int) < (z : Int)) = true := decide_eq_true (by omega)
        have d4 : decide (T < z) = true := decide_eq_true c3
        have HBAD := Lib.hid (HRB.out (by omega))
        clear HRE HRB
        go_wp2_with (first
          | (go_at_call 16; refine (HBAD.out _ (HWr.out.trans stp)).mono ?_; rintro e w13 ⟨rfl, hS13⟩; have HS13 : Hid (Step wr w13) := Lib.hid (Step.trans stp hS13); have g0 : w13.cell? ⟨xb, 0, none⟩ = some (.slice fa n1 fc) := (HS13.out.cell (lt_of_cell e0) 0).trans e0; have g1 : w13.cell? ⟨xb, 1, none⟩ = some (.int .u64 (sn : Int)) := (HS13.out.cell (lt_of_cell e1) 1).trans e1; have g2 : w13.cell? ⟨xb, 2, none⟩ = some (.bool cl) := (HS13.out.cell (lt_of_cell e2) 2).trans e2; clear hS13)
          | (go_at_call 36; refine (HRF.out _ (HWr.out.trans (HS13.out.trans stp))).mono ?_; rintro e w14 ⟨rfl, hS14⟩; have HS14 : Hid (Step wr w14) := Lib.hid (HS13.out.trans (Step.trans stp hS14)); have g0 : w14.cell? ⟨xb, 0, none⟩ = some (.slice fa n1 fc) := (HS14.out.cell (lt_of_cell e0) 0).trans e0; have g1 : w14.cell? ⟨xb, 1, none⟩ = some (.int .u64 (sn : Int)) := (HS14.out.cell (lt_of_cell e1) 1).trans e1; have g2 : w14.cell? ⟨xb, 2, none⟩ = some (.bool cl) := (HS14.out.cell (lt_of_cell e2) 2).trans e2; clear hS14)
          | (go_at_call 29; refine (HRN.out _ (HWr.out.trans (HS14.out.trans stp))).mono ?_; rintro e w15 ⟨rfl, hS15⟩; have HS15 : Hid (Step wr w15) := Lib.hid (HS14.out.trans (Step.trans stp hS15)); clear hS15))
        go_ret
        first
          | exact ⟨rfl, HWr.out.trans (HS15.out.trans stp)⟩
          | exact ⟨rfl, HWr.out.trans (HS14.out.trans stp)⟩
          | exact ⟨rfl, HWr.out.trans (HS13.out.trans stp)⟩

      have d3 : decide ((T : Int) < (z : Int)) = false := decide_eq_false (by omega)
      have d4 : decide (T < z) = false := decide_eq_false c3
      have HOK := Lib.hid (HRE.out (by omega))
      clear HRE HRB
      have haz : a ≤ z := by omega
      have hfa : f ≤ a := by omega
      have hzT : z ≤ T := by omega
      have HEQL : Hid ((rss.flatten.take (z - f)).drop (a - f) = (rss.flatten.drop (a - f)).take (z - f - (a - f))) := Lib.hid (List.drop_take ..)
      have HFLN : Hid (rss.flatten.length = T - f) := Lib.hid (by rw [HTE.out]; omega)
      obtain ⟨lo, hlo⟩ : ∃ lo, lo = a - f := ⟨_, rfl⟩
      obtain ⟨hi, hhi⟩ : ∃ hi, hi = z - f := ⟨_, rfl⟩
      rw [← hlo, ← hhi] at HEQL HOK
      have hb1 : (a : Int) - (f : Int) = (lo : Int) := by omega
      have hb2 : (z : Int) - (f : Int) = (hi : Int) := by omega
      have hw1 : IntKind.u64.wrap (lo : Int) = (lo : Int) := by rw [IntKind.wrap_u64]; omega
      have hw2 : IntKind.u64.wrap (hi : Int) = (hi : Int) := by rw [IntKind.wrap_u64]; omega
      have hlh : lo ≤ hi := by omega
      have hhT : hi ≤ T - f := by omega
      have HLO := Lib.hid hlo
      have HHI := Lib.hid hhi
      clear hlo hhi HTE
      go_upto_region 14 with (first
        | (go_at_call 16; refine (HOK.out _ (HWr.out.trans stp)).mono ?_; rintro e w13 ⟨v13, ds13, rfl, hO13, hS13, hm13, _⟩; have HS13 : Hid (Step wr w13) := Lib.hid (Step.trans stp hS13); obtain ⟨a13, n13, c13, rfl, HN13⟩ := hO13.valN; have HR13 : Hid ((Ty.slice Ty.bytes).rep w13 (fun _ => False) [.slice a13 n13 c13] ((rss.flatten.drop lo).take (hi - lo))) := Lib.hid (by rw [← HEQL.out, ← hm13.out]; exact slice_mapE Prod.fst rfl tGB_bytes (own_slice hO13)); have g0 : w13.cell? ⟨xb, 0, none⟩ = some (.slice fa n1 fc) := (HS13.out.cell (lt_of_cell e0) 0).trans e0; have g1 : w13.cell? ⟨xb, 1, none⟩ = some (.int .u64 (sn : Int)) := (HS13.out.cell (lt_of_cell e1) 1).trans e1; have g2 : w13.cell? ⟨xb, 2, none⟩ = some (.bool cl) := (HS13.out.cell (lt_of_cell e2) 2).trans e2; clear hS13 hO13)
        | (go_at_call 36; refine (HRF.out _ (HWr.out.trans (HS13.out.trans stp))).mono ?_; rintro e w14 ⟨rfl, hS14⟩; have HS14 : Hid (Step wr w14) := Lib.hid (HS13.out.trans (Step.trans stp hS14)); have HT14 : Hid (Step w13 w14) := Lib.hid (Step.trans stp hS14); have g0 : w14.cell? ⟨xb, 0, none⟩ = some (.slice fa n1 fc) := (HS14.out.cell (lt_of_cell e0) 0).trans e0; have g1 : w14.cell? ⟨xb, 1, none⟩ = some (.int .u64 (sn : Int)) := (HS14.out.cell (lt_of_cell e1) 1).trans e1; have g2 : w14.cell? ⟨xb, 2, none⟩ = some (.bool cl) := (HS14.out.cell (lt_of_cell e2) 2).trans e2; clear hS14)
        | (go_at_call 29; refine (HRN.out _ (HWr.out.trans (HS14.out.trans stp))).mono ?_; rintro e w15 ⟨rfl, hS15⟩; have HS15 : Hid (Step wr w15) := Lib.hid (HS14.out.trans (Step.trans stp hS15)); have HT15 : Hid (Step w13 w15) := Lib.hid (HT14.out.trans (Step.trans stp hS15)); have g0 : w15.cell? ⟨xb, 0, none⟩ = some (.slice fa n1 fc) := (HS15.out.cell (lt_of_cell e0) 0).trans e0; have g1 : w15.cell? ⟨xb, 1, none⟩ = some (.int .u64 (sn : Int)) := (HS15.out.cell (lt_of_cell e1) 1).trans e1; have g2 : w15.cell? ⟨xb, 2, none⟩ = some (.bool cl) := (HS15.out.cell (lt_of_cell e2) 2).trans e2; clear hS15)
        | (go_at_call 68; refine (HRA.out _ (HWr.out.trans (HS15.out.trans stp))).mono ?_; rintro e w16 ⟨v16, rfl, hA16, hS16⟩; have HF16 := Lib.hid (own_formN hA16); obtain ⟨A, n16, C16, rfl, HN16⟩ := hA16.valN; have HR16 : Hid ((Ty.slice Ty.bytes).rep w16 (fun _ => False) [.slice A n16 C16] rss.flatten) := Lib.hid (Own.rep' (hA16.less (fun _ _ h => h.elim)) (fun _ _ h => h)); have HS16 : Hid (Step wr w16) := Lib.hid (HS15.out.trans (Step.trans stp hS16)); have HT16 : Hid (Step w13 w16) := Lib.hid (HT15.out.trans (Step.trans stp hS16)); have g0 : w16.cell? ⟨xb, 0, none⟩ = some (.slice fa n1 fc) := (HS16.out.cell (lt_of_cell e0) 0).trans e0; have g1 : w16.cell? ⟨xb, 1, none⟩ = some (.int .u64 (sn : Int)) := (HS16.out.cell (lt_of_cell e1) 1).trans e1; have g2 : w16.cell? ⟨xb, 2, none⟩ = some (.bool cl) := (HS16.out.cell (lt_of_cell e2) 2).trans e2; clear hS16 hA16))
      have hn16 : n16 = T - f := by rw [HN16.out, HFLN.out]
      have hnC : n16 ≤ C16 := by
        obtain ⟨_, _, hv, hle, _⟩ := HR16.out
        simp only [List.cons.injEq, Value.slice.injEq, and_true] at hv
        omega
      have hC16 : C16 ≤ maxLen := by
        obtain ⟨_, _, hv, _, hle, _⟩ := HR16.out
        simp only [List.cons.injEq, Value.slice.injEq, and_true] at hv
        omega
      have HR13b : Hid ((Ty.slice Ty.bytes).rep w16 (fun _ => False) [.slice a13 n13 c13] ((rss.flatten.drop lo).take (hi - lo))) := Lib.hid (Ty.step _ HR13.out HT16.out)
      have hlC : (lo : Int) ≤ (hi : Int) := by omega
      have hhC : (hi : Int) ≤ (C16 : Int) := by omega
      clear HN16
      rcases HF16.out with ⟨hv, hx⟩ | ⟨g, cc, hv⟩
      · injection hv with hv1 hv2 hv3
        subst hv1 hv3
        have hlo0 : lo = 0 := by omega
        have hhi0 : hi = 0 := by omega
        subst hlo0 hhi0
        have HEQ : Hid (∀ (W : World) (x : Option Addr) (n' k' : Nat), Step w16 W → x = none → n' = 0 → k' = 0 → Calls Tryz.prog 18 #[.slice a13 n13 c13, .slice x n' k'] W fun e w' => e = .returned (.bool true) ∧ Step W w') := Lib.hid (fun W x n' k' hW h1 h2 h3 => by
          subst h1 h2 h3
          refine Equals_same (Ty.step _ HR13b.out hW) (M2 := fun _ => False) ?_
          simp only [Nat.sub_self, List.take_zero]
          exact ⟨none, 0, rfl, Nat.le_refl _, by simp [maxLen], by simp, fun h => absurd h (by simp)⟩)
        have hc1 : True := trivial
        have hw0 : IntKind.u64.wrap 0 = 0 := rfl
        clear HF16 HR13 HR16 hx hv2
        refine wp_region_held_drew (S := (fun w' => w'.cell? ⟨xb, 0, none⟩ = some (.slice fa n1 fc) ∧ w'.cell? ⟨xb, 1, none⟩ = some (.int .u64 (sn : Int)) ∧ w'.cell? ⟨xb, 2, none⟩ = some (.bool cl))) (by kernel_rfl) ?_ (fun hHeld => ?_)
        · (go_keep)
        refine tkH 0 ?_
        try simp only [Act.put, gtA, gtB, gtC, gtD, gtE, gtF]
        refine tkH 1 ?_
        try simp only [Act.put, gtA, gtB, gtC, gtD, gtE, gtF]
        refine tkH 2 ?_
        try simp only [Act.put, gtA, gtB, gtC, gtD, gtE, gtF]
        refine tkH 3 ?_
        try simp only [Act.put, gtA, gtB, gtC, gtD, gtE, gtF]
        refine tkH 4 ?_
        try simp only [Act.put, gtA, gtB, gtC, gtD, gtE, gtF]
        refine tkH 5 ?_
        try simp only [Act.put, gtA, gtB, gtC, gtD, gtE, gtF]
        refine tkH 6 ?_
        try simp only [Act.put, gtA, gtB, gtC, gtD, gtE, gtF]
        refine tkH 9 ?_
        try simp only [Act.put, gtA, gtB, gtC, gtD, gtE, gtF]
        refine tkH 10 ?_
        try simp only [Act.put, gtA, gtB, gtC, gtD, gtE, gtF]
        refine rdH (rs := [7]) (.cons rfl (fun K hK => ?_) .nil)
        try simp only [gtA, gtB, gtC]
        go_simp
        (go_at_call 36; refine (HRF.out _ (HWr.out.trans (HS16.out.trans stp))).mono ?_; rintro e w17 ⟨rfl, hS17⟩; have HS17 : Hid (Step w16 w17) := Lib.hid (Step.trans stp hS17); have y17 : ∀ j, w17.cell? ⟨xb, j, none⟩ = _ := fun j => HS17.out.cell (lt_of_cell g0) j; clear hS17)
        refine hK.out _ _ ?_ (fun hHeld => ?_)
        · (go_keep)
        clear hK K
        try simp only [Act.put, gtA, gtB, gtC, gtD, gtE, gtF]
        refine tkH 8 ?_
        try simp only [Act.put, gtA, gtB, gtC, gtD, gtE, gtF]
        refine rdH (rs := [11]) (.cons rfl (fun K hK => ?_) .nil)
        try simp only [gtA, gtB, gtC]
        go_simp
        (go_at_call 36; refine (HRF.out _ (HWr.out.trans (HS16.out.trans (HS17.out.trans stp)))).mono ?_; rintro e w18 ⟨rfl, hS18⟩; have HS18 : Hid (Step w16 w18) := Lib.hid (HS17.out.trans (Step.trans stp hS18)); have y18 : ∀ j, w18.cell? ⟨xb, j, none⟩ = _ := fun j => HS18.out.cell (lt_of_cell g0) j; clear hS18)
        refine hK.out _ _ ?_ (fun hHeld => ?_)
        · (go_keep)
        clear hK K
        try simp only [Act.put, gtA, gtB, gtC, gtD, gtE, gtF]
        refine tkH 12 ?_
        try simp only [Act.put, gtA, gtB, gtC, gtD, gtE, gtF]
        refine tkH 13 ?_
        try simp only [Act.put, gtA, gtB, gtC, gtD, gtE, gtF]
        refine rdH (rs := [14]) (.cons rfl (fun K hK => ?_) .nil)
        try simp only [gtA, gtB, gtC]
        go_simp
        (go_at_call 18; refine (HEQ.out _ _ _ _ (HS18.out.trans stp) (by first | rfl | simp [hc1]) (by first | rfl | omega) (by first | rfl | omega)).mono ?_; rintro e w19 ⟨rfl, hS19⟩; have HS19 : Hid (Step w16 w19) := Lib.hid (HS18.out.trans (Step.trans stp hS19)); have y19 : ∀ j, w19.cell? ⟨xb, j, none⟩ = _ := fun j => HS19.out.cell (lt_of_cell g0) j; clear hS19)
        refine hK.out _ _ ?_ (fun hHeld => ?_)
        · (go_keep)
        clear hK K
        try simp only [Act.put, gtA, gtB, gtC, gtD, gtE, gtF]
        refine tkH 15 ?_
        try simp only [Act.put, gtA, gtB, gtC, gtD, gtE, gtF]
        refine tkH 16 ?_
        try simp only [Act.put, gtA, gtB, gtC, gtD, gtE, gtF]
        refine wpAnyH_done (by kernel_rfl) ?_ _
        go_wp2
        go_ret
        exact ⟨rfl, HWr.out.trans (HS16.out.trans (HS19.out.trans stp))⟩

      · injection hv with hv1 hv2 hv3
        subst hv1
        have HEQ : Hid (∀ (W : World) (x : Option Addr) (n' k' : Nat), Step w16 W → x = (if C16 = lo then some ⟨g, 0, none⟩ else some ⟨g, 0 + lo, none⟩) → n' = hi - lo → k' = C16 - lo → Calls Tryz.prog 18 #[.slice a13 n13 c13, .slice x n' k'] W fun e w' => e = .returned (.bool true) ∧ Step W w') := Lib.hid (fun W x n' k' hW h1 h2 h3 => by
          subst h1 h2 h3
          exact Equals_same (Ty.step _ HR13b.out hW) (slice_partP rfl (Ty.step _ HR16.out hW) hlh (by rw [HFLN.out]; exact hhT)))
        clear HF16 HR13 hv2 hv3
        by_cases hCf : C16 = lo
        · have hc1 : (C16 = lo) = True := by simp [hCf]
          have hc2 : ((C16 : Int) = (lo : Int)) = True := by simp [hCf]
          clear hCf
          refine wp_region_held_drew (S := (fun w' => w'.cell? ⟨xb, 0, none⟩ = some (.slice fa n1 fc) ∧ w'.cell? ⟨xb, 1, none⟩ = some (.int .u64 (sn : Int)) ∧ w'.cell? ⟨xb, 2, none⟩ = some (.bool cl))) (by kernel_rfl) ?_ (fun hHeld => ?_)
          · (go_keep)
          refine tkH 0 ?_
          try simp only [Act.put, gtA, gtB, gtC, gtD, gtE, gtF]
          refine tkH 1 ?_
          try simp only [Act.put, gtA, gtB, gtC, gtD, gtE, gtF]
          refine tkH 2 ?_
          try simp only [Act.put, gtA, gtB, gtC, gtD, gtE, gtF]
          refine tkH 3 ?_
          try simp only [Act.put, gtA, gtB, gtC, gtD, gtE, gtF]
          refine tkH 4 ?_
          try simp only [Act.put, gtA, gtB, gtC, gtD, gtE, gtF]
          refine tkH 5 ?_
          try simp only [Act.put, gtA, gtB, gtC, gtD, gtE, gtF]
          refine tkH 6 ?_
          try simp only [Act.put, gtA, gtB, gtC, gtD, gtE, gtF]
          refine tkH 9 ?_
          try simp only [Act.put, gtA, gtB, gtC, gtD, gtE, gtF]
          refine tkH 10 ?_
          try simp only [Act.put, gtA, gtB, gtC, gtD, gtE, gtF]
          refine rdH (rs := [7]) (.cons rfl (fun K hK => ?_) .nil)
          try simp only [gtA, gtB, gtC]
          go_simp
          (go_at_call 36; refine (HRF.out _ (HWr.out.trans (HS16.out.trans stp))).mono ?_; rintro e w17 ⟨rfl, hS17⟩; have HS17 : Hid (Step w16 w17) := Lib.hid (Step.trans stp hS17); have y17 : ∀ j, w17.cell? ⟨xb, j, none⟩ = _ := fun j => HS17.out.cell (lt_of_cell g0) j; clear hS17)
          refine hK.out _ _ ?_ (fun hHeld => ?_)
          · (go_keep)
          clear hK K
          try simp only [Act.put, gtA, gtB, gtC, gtD, gtE, gtF]
          refine tkH 8 ?_
          try simp only [Act.put, gtA, gtB, gtC, gtD, gtE, gtF]
          refine rdH (rs := [11]) (.cons rfl (fun K hK => ?_) .nil)
          try simp only [gtA, gtB, gtC]
          go_simp
          (go_at_call 36; refine (HRF.out _ (HWr.out.trans (HS16.out.trans (HS17.out.trans stp)))).mono ?_; rintro e w18 ⟨rfl, hS18⟩; have HS18 : Hid (Step w16 w18) := Lib.hid (HS17.out.trans (Step.trans stp hS18)); have y18 : ∀ j, w18.cell? ⟨xb, j, none⟩ = _ := fun j => HS18.out.cell (lt_of_cell g0) j; clear hS18)
          refine hK.out _ _ ?_ (fun hHeld => ?_)
          · (go_keep)
          clear hK K
          try simp only [Act.put, gtA, gtB, gtC, gtD, gtE, gtF]
          refine tkH 12 ?_
          try simp only [Act.put, gtA, gtB, gtC, gtD, gtE, gtF]
          refine tkH 13 ?_
          try simp only [Act.put, gtA, gtB, gtC, gtD, gtE, gtF]
          refine rdH (rs := [14]) (.cons rfl (fun K hK => ?_) .nil)
          try simp only [gtA, gtB, gtC]
          go_simp
          (go_at_call 18; refine (HEQ.out _ _ _ _ (HS18.out.trans stp) (by first | rfl | simp [hc1]) (by first | rfl | omega) (by first | rfl | omega)).mono ?_; rintro e w19 ⟨rfl, hS19⟩; have HS19 : Hid (Step w16 w19) := Lib.hid (HS18.out.trans (Step.trans stp hS19)); have y19 : ∀ j, w19.cell? ⟨xb, j, none⟩ = _ := fun j => HS19.out.cell (lt_of_cell g0) j; clear hS19)
          refine hK.out _ _ ?_ (fun hHeld => ?_)
          · (go_keep)
          clear hK K
          try simp only [Act.put, gtA, gtB, gtC, gtD, gtE, gtF]
          refine tkH 15 ?_
          try simp only [Act.put, gtA, gtB, gtC, gtD, gtE, gtF]
          refine tkH 16 ?_
          try simp only [Act.put, gtA, gtB, gtC, gtD, gtE, gtF]
          refine wpAnyH_done (by kernel_rfl) ?_ _
          go_wp2
          go_ret
          exact ⟨rfl, HWr.out.trans (HS16.out.trans (HS19.out.trans stp))⟩

        · have hc1 : (C16 = lo) = False := by simp [hCf]
          have hc2 : ((C16 : Int) = (lo : Int)) = False := by
            rw [eq_iff_iff, iff_false]
            omega
          clear hCf
          refine wp_region_held_drew (S := (fun w' => w'.cell? ⟨xb, 0, none⟩ = some (.slice fa n1 fc) ∧ w'.cell? ⟨xb, 1, none⟩ = some (.int .u64 (sn : Int)) ∧ w'.cell? ⟨xb, 2, none⟩ = some (.bool cl))) (by kernel_rfl) ?_ (fun hHeld => ?_)
          · (go_keep)
          refine tkH 0 ?_
          try simp only [Act.put, gtA, gtB, gtC, gtD, gtE, gtF]
          refine tkH 1 ?_
          try simp only [Act.put, gtA, gtB, gtC, gtD, gtE, gtF]
          refine tkH 2 ?_
          try simp only [Act.put, gtA, gtB, gtC, gtD, gtE, gtF]
          refine tkH 3 ?_
          try simp only [Act.put, gtA, gtB, gtC, gtD, gtE, gtF]
          refine tkH 4 ?_
          try simp only [Act.put, gtA, gtB, gtC, gtD, gtE, gtF]
          refine tkH 5 ?_
          try simp only [Act.put, gtA, gtB, gtC, gtD, gtE, gtF]
          refine tkH 6 ?_
          try simp only [Act.put, gtA, gtB, gtC, gtD, gtE, gtF]
          refine tkH 9 ?_
          try simp only [Act.put, gtA, gtB, gtC, gtD, gtE, gtF]
          refine tkH 10 ?_
          try simp only [Act.put, gtA, gtB, gtC, gtD, gtE, gtF]
          refine rdH (rs := [7]) (.cons rfl (fun K hK => ?_) .nil)
          try simp only [gtA, gtB, gtC]
          go_simp
          (go_at_call 36; refine (HRF.out _ (HWr.out.trans (HS16.out.trans stp))).mono ?_; rintro e w17 ⟨rfl, hS17⟩; have HS17 : Hid (Step w16 w17) := Lib.hid (Step.trans stp hS17); have y17 : ∀ j, w17.cell? ⟨xb, j, none⟩ = _ := fun j => HS17.out.cell (lt_of_cell g0) j; clear hS17)
          refine hK.out _ _ ?_ (fun hHeld => ?_)
          · (go_keep)
          clear hK K
          try simp only [Act.put, gtA, gtB, gtC, gtD, gtE, gtF]
          refine tkH 8 ?_
          try simp only [Act.put, gtA, gtB, gtC, gtD, gtE, gtF]
          refine rdH (rs := [11]) (.cons rfl (fun K hK => ?_) .nil)
          try simp only [gtA, gtB, gtC]
          go_simp
          (go_at_call 36; refine (HRF.out _ (HWr.out.trans (HS16.out.trans (HS17.out.trans stp)))).mono ?_; rintro e w18 ⟨rfl, hS18⟩; have HS18 : Hid (Step w16 w18) := Lib.hid (HS17.out.trans (Step.trans stp hS18)); have y18 : ∀ j, w18.cell? ⟨xb, j, none⟩ = _ := fun j => HS18.out.cell (lt_of_cell g0) j; clear hS18)
          refine hK.out _ _ ?_ (fun hHeld => ?_)
          · (go_keep)
          clear hK K
          try simp only [Act.put, gtA, gtB, gtC, gtD, gtE, gtF]
          refine tkH 12 ?_
          try simp only [Act.put, gtA, gtB, gtC, gtD, gtE, gtF]
          refine tkH 13 ?_
          try simp only [Act.put, gtA, gtB, gtC, gtD, gtE, gtF]
          refine rdH (rs := [14]) (.cons rfl (fun K hK => ?_) .nil)
          try simp only [gtA, gtB, gtC]
          go_simp
          (go_at_call 18; refine (HEQ.out _ _ _ _ (HS18.out.trans stp) (by first | rfl | simp [hc1]) (by first | rfl | omega) (by first | rfl | omega)).mono ?_; rintro e w19 ⟨rfl, hS19⟩; have HS19 : Hid (Step w16 w19) := Lib.hid (HS18.out.trans (Step.trans stp hS19)); have y19 : ∀ j, w19.cell? ⟨xb, j, none⟩ = _ := fun j => HS19.out.cell (lt_of_cell g0) j; clear hS19)
          refine hK.out _ _ ?_ (fun hHeld => ?_)
          · (go_keep)
          clear hK K
          try simp only [Act.put, gtA, gtB, gtC, gtD, gtE, gtF]
          refine tkH 15 ?_
          try simp only [Act.put, gtA, gtB, gtC, gtD, gtE, gtF]
          refine tkH 16 ?_
          try simp only [Act.put, gtA, gtB, gtC, gtD, gtE, gtF]
          refine wpAnyH_done (by kernel_rfl) ?_ _
          go_wp2
          go_ret
          exact ⟨rfl, HWr.out.trans (HS16.out.trans (HS19.out.trans stp))⟩

end Go.Proofs.YthebdlkmoailaaaGreatDoor

namespace Go.Proofs.YthebdlkmoailaaaGreatDoor
open Go.RowKit Go.Gr Go.Maps
open Go.Proofs (encStr)
set_option linter.unusedSimpArgs false
set_option linter.unusedVariables false
section
variable {pre : List UInt8} {w : World} {M : Nat → Prop} {xb b l : Nat} {D : DDr} {L : DLog} {s f : Nat} {rss : List (List (List UInt8))} {q U C : Nat}
theorem PSess.other {w' : World} (h : PSess pre w M xb b l D L s f rss q U C) (hk : ∀ c, c ≠ xb → w'.heap[c]? = w.heap[c]?) (hz : w'.heap.size = w.heap.size) : PSess pre w' M xb b l D L s f rss q U C := by
  obtain ⟨⟨sf, sn, g, hD, hL, hx, hn⟩, h3, h4, h5, h6⟩ := h
  obtain ⟨fv, k1, k2, k3⟩ := hL.row
  refine ⟨⟨sf, sn, g, hD.keep (fun c hc => ⟨hk c (fun e => hn (e ▸ .inl hc)), hD.own c hc⟩) (fun c hc hm => ⟨hk c (fun e => hm (e ▸ hx)), hm⟩) (fun c hc => by rw [hz]; exact hD.old c hc), ⟨⟨fv, CellsAt.kept k1 (hk l (fun e => hn (.inr (.inl e.symm)))), k2.kept (fun c hc => hk c (fun e => hn (.inr (.inr (by rw [← e, ← k3, hc]))))), k3⟩, hL.own, hL.gown, hL.ne, hL.most⟩, hx, hn⟩, h3, h4, h5, h6⟩
theorem PSess.in (h : PSess pre w M xb b l D L s f rss q U C) : M xb := by
  obtain ⟨sf, sn, g, _, _, hx, _⟩ := h.mem
  exact hx
end
/-- A round: the journal l behind k acts; block wb: the reference's journal; the acts beside them. -/
structure PlAt (w0 w : World) (M : Nat → Prop) (b l : Nat) (D : DDr) (L : DLog) (s f : Nat) (rss : List (List (List UInt8))) (k : Nat) (most : Int) (wb : Nat) (fv : Value) (rv : Value) (acts : List DAct) : Prop where
  sess : PSess [119, 46] w M wb b l D L s f rss k (10000 * k) (200 * k + 100)
  room : D.room = 1073741824
  most : L.most = max 1 most
  step : Step w0 w
  fresh : ∀ c, M c → w0.heap.size ≤ c
  row : (Ty.slice tAct).rep w M [rv] acts
  ref : CellsAt w wb #[fv, .int .u64 ((s + L.files.length : Nat) : Int), .bool L.closed] 55
  refs : (Ty.slice tRFile).rep w M [fv] (zipR L.files rss)
  few : f + rss.flatten.length ≤ 10 * k
section
variable {w0 w : World} {M : Nat → Prop} {b l : Nat} {D : DDr} {L : DLog} {s f : Nat} {rss : List (List (List UInt8))} {k : Nat} {most : Int} {wb : Nat} {fv rv : Value} {acts : List DAct}
theorem PlAt.next {w' : World} (h : PlAt w0 w M b l D L s f rss k most wb fv rv acts) (hs : Step w w') : PlAt w0 w' M b l D L s f rss k most wb fv rv acts :=
  ⟨h.sess.step hs, h.room, h.most, h.step.trans hs, h.fresh, Ty.step _ h.row hs, h.ref.step hs, Ty.step _ h.refs hs, h.few⟩
theorem PlAt.more (h : PlAt w0 w M b l D L s f rss k most wb fv rv acts) : PlAt w0 w M b l D L s f rss (k + 1) most wb fv rv acts :=
  ⟨h.sess.more (by omega) (by omega) (by omega), h.room, h.most, h.step, h.fresh, h.row, h.ref, h.refs, by have := h.few; omega⟩
/-- A session that goes on, with the reference's journal put into its block. -/
theorem PlAt.put {w' w2 : World} {M' : Nat → Prop} {l' s' f' : Nat} {D' : DDr} {L' : DLog} {rss' : List (List (List UInt8))} {fv' : Value} (h : PlAt w0 w M b l D L s f rss k most wb fv rv acts) (g : XGo w w' M M' wb)
    (hs : PSess [119, 46] w' M' wb b l' D' L' s' f' rss' (k + 1) (10000 * (k + 1)) (200 * (k + 1) + 100)) (hr : D'.room = D.room) (hm : L'.most = max 1 most) (hf : f' + rss'.flatten.length ≤ 10 * (k + 1))
    (hk : ∀ c, c ≠ wb → w2.heap[c]? = w'.heap[c]?) (hz : w2.heap.size = w'.heap.size) (hst : Step w' w' → Step w0 w2) (hc : CellsAt w2 wb #[fv', .int .u64 ((s' + L'.files.length : Nat) : Int), .bool L'.closed] 55) (hrf : (Ty.slice tRFile).rep w' M' [fv'] (zipR L'.files rss')) :
    PlAt w0 w2 M' b l' D' L' s' f' rss' (k + 1) most wb fv' rv acts :=
  ⟨hs.other hk hz, by rw [hr, h.room], hm, hst (Step.refl _), g.cgo.fresh h.fresh h.step.size, Ty.keep _ (g.cgo.keep h.row) (fun c _ hc => ⟨hk c (fun e => hc (e ▸ hs.in)), hc⟩), hc, Ty.keep _ hrf (fun c _ hc => ⟨hk c (fun e => hc (e ▸ hs.in)), hc⟩), hf⟩
theorem PlAt.ref_go {w' : World} {M' : Nat → Prop} (h : PlAt w0 w M b l D L s f rss k most wb fv rv acts) (g : XGo w w' M M' wb) : CellsAt w' wb #[fv, .int .u64 ((s + L.files.length : Nat) : Int), .bool L.closed] 55 :=
  h.ref.kept (g.turn.block wb h.ref.lt (fun hx => hx.2 rfl))
theorem PlAt.flush (h : PlAt w0 w M b l D L s f rss k most wb fv rv acts) (hk : k < 40) :
    Calls Tryz.prog 31 #[.pointer (some ⟨b, 0, none⟩)] w fun e w' => e = .returned (.int .i64 0) ∧ ∃ M' D', XGo w w' M M' wb ∧ PlAt w0 w' M' b l D' L s f rss (k + 1) most wb fv rv acts := by
  refine (h.sess.flush (by omega)).mono ?_
  rintro e w' ⟨rfl, M', D', h1, h2, h3⟩
  exact ⟨rfl, M', D', h2, h.put h2 (h1.more (by omega) (by omega) (by omega)) h3 h.most (by have := h.few; omega) (fun _ _ => rfl) rfl (fun _ => h2.cgo.step h.step h.fresh) (h.ref_go h2) (h2.cgo.keep h.refs)⟩
theorem PlAt.close (h : PlAt w0 w M b l D L s f rss k most wb fv rv acts) (hk : k < 40) :
    Calls Tryz.prog 32 #[.pointer (some ⟨l, 0, none⟩)] w fun e w' => e = .returned (.int .i64 0) ∧ CellsAt w' wb #[fv, .int .u64 ((s + L.files.length : Nat) : Int), .bool L.closed] 55 ∧ ∃ M' D', XGo w w' M M' wb ∧ PlAt w0 (w'.setCell ⟨wb, 2, none⟩ (.bool true)) M' b l D' { L with closed := true } s f rss (k + 1) most wb fv rv acts := by
  refine (h.sess.close (by omega)).mono ?_
  rintro e w' ⟨rfl, M', D', h1, h2, h3⟩
  have hrg := h.ref_go h2
  exact ⟨rfl, hrg, M', D', h2, h.put h2 (h1.more (by omega) (by omega) (by omega)) h3 h.most (by have := h.few; omega) (fun c hc => heap_setCell_other _ _ _ _ (by simpa using hc)) (by simp) (fun _ => (h2.cgo.step h.step h.fresh).setCell (p := ⟨wb, 2, none⟩) (h.fresh wb h.sess.in) _) (hrg.set 2 _) (h2.cgo.keep h.refs)⟩
theorem PlAt.open_ (h : PlAt w0 w M b l D L s f rss k most wb fv rv acts) (hk : k < 40) (hm : I64 most) :
    Calls Tryz.prog 12 #[.pointer (some ⟨b, 0, none⟩), encStr [119, 46], .int .i64 most] w fun e w' => ∃ l', e = .returned (.tuple #[.pointer (some ⟨l', 0, none⟩), .int .i64 0]) ∧ CellsAt w' wb #[fv, .int .u64 ((s + L.files.length : Nat) : Int), .bool L.closed] 55 ∧ ∃ M', XGo w w' M M' wb ∧ PlAt w0 (w'.setCell ⟨wb, 2, none⟩ (.bool true)) M' b l' D ⟨max 1 most, L.files, true⟩ s f rss (k + 1) most wb fv rv acts := by
  refine (h.sess.open_ hm (by simp) (by omega) (by omega) (by have := h.few; omega)).mono ?_
  rintro e w' ⟨l', rfl, M', h1, h2⟩
  have hrg := h.ref_go h2
  exact ⟨l', rfl, hrg, M', h2, h.put h2 (h1.more (by omega) (by omega) (by omega)) rfl rfl (by have := h.few; omega) (fun c hc => heap_setCell_other _ _ _ _ (by simpa using hc)) (by simp) (fun _ => (h2.cgo.step h.step h.fresh).setCell (p := ⟨wb, 2, none⟩) (h.fresh wb h.sess.in) _) (hrg.set 2 _) (h2.cgo.keep h.refs)⟩
/-- Drop: the journal; the reference's journal is told then. -/
theorem PlAt.drop {below : Nat} (h : PlAt w0 w M b l D L s f rss k most wb fv rv acts) (hk : k < 40) (hb : below < 18446744073709551616) :
    Calls Tryz.prog 33 #[.pointer (some ⟨l, 0, none⟩), .int .u64 (below : Int)] w fun e w' => e = .returned (.int .i64 0) ∧ ∃ M' D' fs' s' f' rss', XGo w w' M M' wb ∧ PSess [119, 46] w' M' wb b l D' { L with files := fs' } s' f' rss' (k + 1) (10000 * (k + 1)) (200 * (k + 1) + 100) ∧ D'.room = D.room ∧ f' + rss'.flatten.length = f + rss.flatten.length ∧ s' + fs'.length = s + L.files.length ∧ rDrop below (zipR L.files rss) = zipR fs' rss' := by
  refine (h.sess.drop (by simp) (by omega) hb (by omega)).mono ?_
  rintro e w' ⟨rfl, M', D', fs', s', f', rss', h1, h2, h3, h4, h5, h6⟩
  exact ⟨rfl, M', D', fs', s', f', rss', h2, h1.more (by omega) (by omega) (by omega), h3, h4, h5, h6⟩
theorem PlAt.append {M2 : Nat → Prop} {v : Value} {recs : List (List UInt8)} (h : PlAt w0 w M b l D L s f rss k most wb fv rv acts) (hk : k < 40) (hrep : (Ty.slice Ty.bytes).rep w M2 [v] recs) (hr : (∀ r ∈ recs, r.length ≤ 600) ∧ recs.length ≤ 10) :
    Calls Tryz.prog 14 #[.pointer (some ⟨l, 0, none⟩), v] w fun e w' => e = .returned (.tuple #[.int .u64 ((f + rss.flatten.length : Nat) : Int), .int .i64 0]) ∧ ∃ M' D' L' rss', XGo w w' M M' wb ∧ PSess [119, 46] w' M' wb b l D' L' s f rss' (k + 1) (10000 * (k + 1)) (200 * (k + 1) + 100) ∧ D'.room = D.room ∧ L'.most = L.most ∧ rss'.flatten = rss.flatten ++ recs ∧ rAppend (refOf L s rss) (max 1 most) recs = refOf L' s rss' := by
  obtain ⟨hl1, hl2⟩ := h.sess.inv.chain.last h.sess.inv.start
  have hfew := h.sess.few
  have hf2 := h.few
  have hro := h.room
  have hdl := dataL_small (L := L) hr.1 hr.2 (by unfold openF; split <;> (try simp only) <;> omega) (by omega)
  refine (h.sess.append (U' := 10000 * (k + 1)) (by simp) (by omega) hrep (fun r hx => by have := hr.1 r hx; omega) (by omega) (by omega) (by omega) (by omega) (by omega) (by omega)).mono ?_
  rintro e w' ⟨rfl, M', D', L', rss', h1, h2, h3, h4, h5, h6⟩
  rw [h.most] at h6
  exact ⟨rfl, M', D', L', rss', h2, h1.more (Nat.le_refl _) (Nat.le_refl _) (by omega), h3, h4, h5, h6⟩
end
end Go.Proofs.YthebdlkmoailaaaGreatDoor

namespace Go.Proofs.YthebdlkmoailaaaGreatDoor
open Go.RowKit Go.Gr Go.Maps
open Go.Proofs (encStr)
set_option linter.unusedSimpArgs false
set_option linter.unusedVariables false
theorem good_nil (pre : List UInt8) : GoodJ pre [] 0 0 [] [] := ⟨trivial, NamesIn.nil _, List.Pairwise.nil, fun _ => ⟨rfl, rfl⟩⟩
theorem open_new {w : World} {b : Nat} {most : Int} (hb : DrAt w b (.map none) (.map none) (.slice none 0 0) (max 0 1073741824) false 0 false) (hm : I64 most) :
    Calls Tryz.prog 12 #[.pointer (some ⟨b, 0, none⟩), encStr [119, 46], .int .i64 most] w fun e w' => ∃ l, e = .returned (.tuple #[.pointer (some ⟨l, 0, none⟩), .int .i64 0]) ∧ Step w w' ∧ ∃ M' g, DriveAt w' M' b none none (calmD [] 1073741824) ∧ LogAt w' M' l b g [119, 46] ⟨max 1 most, [], true⟩ ∧ (∀ c, M' c → c = b ∨ w.heap.size ≤ c) := by
  have hD := DriveAt.new hb
  have e0 : DDr.new 1073741824 = calmD [] 1073741824 := by unfold DDr.new calmD; rw [Int.max_eq_right (by omega)]
  rw [e0] at hD
  obtain ⟨_, ns, hn, hG⟩ := (good_nil [119, 46]).good (by simp) (by simp) (by show usedB [] ≤ _; exact Nat.zero_le _)
  refine (jOpen_ hD rfl hm (by simp) hn hG).mono ?_
  rintro e w' ⟨l, g, M', rfl, h1, h2, h3, h4, h5, h6, h7⟩
  refine ⟨l, rfl, h1, M', g, h3, h4, fun c hc => ?_⟩
  rcases Nat.lt_or_ge c w.heap.size with hlt | hge
  · exact .inl (h6 c hlt hc)
  · exact .inr hge
/-- Before the first act. -/
theorem PlAt.start {w0 w w1 w2 : World} {M : Nat → Prop} {b l wb : Nat} {g : Option Nat} {most : Int} {rv : Value} {acts : List DAct} (hS : Step w0 w) (hbw : w0.heap.size ≤ b) (hD : DriveAt w1 M b none none (calmD [] 1073741824)) (hL : LogAt w1 M l b g [119, 46] ⟨max 1 most, [], true⟩) (hM : ∀ c, M c → c = b ∨ w.heap.size ≤ c) (hS1 : Step w w1) (hwb : wb = w1.heap.size) (hS2 : Step w1 w2) (hc : CellsAt w2 wb #[.slice none 0 0, .int .u64 0, .bool true] 55) (hr : (Ty.slice tAct).rep w2 (fun c => M c ∨ c = wb) [rv] acts) :
    PlAt w0 w2 (fun c => M c ∨ c = wb) b l (calmD [] 1073741824) ⟨max 1 most, [], true⟩ 0 0 [] 0 most wb (.slice none 0 0) rv acts := by
  have hwl := hc.lt
  have hz := hS.size
  have hz1 := hS1.size
  have hJM : ∀ c, JM b none none l g c → M c := fun c hx => by
    rcases hx with hx | rfl | hx
    · exact hD.own c hx
    · exact hL.own
    · exact (hL.gown c hx).1
  refine ⟨⟨⟨none, none, g, ?_, (hL.mono (fun c hc => .inl hc)).step hS2, .inr rfl, fun hx => by have := hD.old wb (hJM wb hx); omega⟩, (good_nil [119, 46]).inv rfl rfl, by simp, by show usedB [] ≤ _; exact Nat.zero_le _, by show 0 + 0 ≤ _; omega⟩, rfl, rfl, hS.trans (hS1.trans hS2), fun c hc => ?_, hr, hc, ⟨none, 0, rfl, Nat.le_refl _, by simp [maxLen], by simp [zipR], fun h => absurd h (by simp [zipR])⟩, by simp⟩
  · exact hD.keep (fun c hc => ⟨hS2.heap (hD.lt hc), .inl (hD.own c hc)⟩) (fun c hc hm => ⟨hS2.heap hc, fun hx => hx.elim hm (fun e => by omega)⟩) (fun c hc => by
      rcases hc with hc | rfl
      · exact Nat.lt_of_lt_of_le (hD.old c hc) hS2.size
      · exact hwl)
  · rcases hc with hc | rfl
    · rcases hM c hc with rfl | h
      · exact hbw
      · omega
    · omega
end Go.Proofs.YthebdlkmoailaaaGreatDoor
