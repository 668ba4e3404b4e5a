/-
  Walks: Coord.Answer where it is waited for (Work, Finish).
-/
import Derived.Test.YthflkfgiclcdiaaGreatC13
namespace Go.Proofs.YthflkfgiclcdiaaGreat
open Go.Gr Go.RowKit
set_option linter.unusedSimpArgs false
set_option maxRecDepth 100000 in
set_option maxHeartbeats 4000000 in
theorem cAnswer_work {w : World} {B cb ob nb : Nat} {c : DCoord} {l : List (Int × DAsk)} {vo vp vs vr : Value} {at_ : Int} {x : DAnswer} {b3 : Option Addr} {n3 k3 : Nat} (h : CoordIn w B cb { c with outs := some [], out := some l } vo vp (.map (some ob)) (.map (some nb)) vs vr) (hat : I64 at_)
    (hk : ∀ p ∈ l, p.2.kind = 2) (hin : ∃ p ∈ l, p.1 = at_) (hx : x.err = 0) (hxk : x.kind = 2) (hxt : x.txn = c.txn) (hne : l.filter (fun p => p.1 != at_) ≠ []) :
    Calls Tryz.prog 16 #[.pointer (some ⟨cb, 0, none⟩), .int .i64 at_, .agg (ansCells x 0 0 (.slice none 0 0) (.slice none 0 0) (.slice b3 n3 k3))] w fun e w' => e = .returned (.slice none 0 0) ∧
      CoordIn w' B cb { c with outs := some [(at_, ⟨0, 0, [], []⟩)], out := some (l.filter (fun p => p.1 != at_)) } vo vp (.map (some ob)) (.map (some nb)) vs vr ∧ Turn (fun b => b = ob ∨ b = nb) w w' := by
  obtain ⟨kind, inc, boot, txn, id, err, out, commit, reply, at2⟩ := x
  simp only at hx hxk hxt
  subst hx hxk hxt
  have hcb := h.lt
  have p8 : w.cell? ⟨cb, 8, none⟩ = some (.map (some nb)) := h.cells.cell 8
  have p0 : w.cell? ⟨cb, 0, none⟩ = some (.int .u64 (c.txn.boot : Int)) := h.cells.cell 0
  have p1 : w.cell? ⟨cb, 1, none⟩ = some (.int .u64 (c.txn.session : Int)) := h.cells.cell 1
  have p2 : w.cell? ⟨cb, 2, none⟩ = some (.int .u64 (c.txn.seq : Int)) := h.cells.cell 2
  have hO := h.out
  obtain ⟨b, hb, hm, _⟩ := hO
  obtain rfl : nb = b := by simpa using hb
  have HM := Lib.hid hm
  have H := Lib.hid h
  have HK := Lib.hid hk
  have HIN := Lib.hid hin
  have HNE := Lib.hid hne
  clear h hm hk hin hne hb
  have hlk := (HM.out.step ((Step.refl w).alloc (.cells (ansCells ⟨2, inc, boot, c.txn, id, 0, out, commit, reply, at2⟩ 0 0 (.slice none 0 0) (.slice none 0 0) (.slice b3 n3 k3)) 51))).look (t := 123) Tryz.underlying3 Tryz.underlying123 (Tryz.zeroValue39 _) hat true
  rcases hlk with ⟨hn, _⟩ | ⟨z, ⟨L⟩, hz, hrep, hr⟩
  · obtain ⟨p, hp, hpe⟩ := HIN.out
    exact absurd hpe (hn p hp)
  obtain ⟨ac7, ac9, hcs, ah⟩ := hrep
  simp only at hcs
  subst hcs
  obtain ⟨aa7, an7, rfl, _⟩ := Ty.slice_val ah.2.2.2.2.2.2.2.1
  obtain ⟨aa9, an9, rfl, _⟩ := Ty.slice_val ah.2.2.2.2.2.2.2.2.1
  have hkz : z.kind = 2 := HK.out _ hz
  rw [hkz] at hr
  clear ah hz
  have hz0 := Step.refl w
  unfold ansCells at hr ⊢
  simp only at hr ⊢
  go_enter Tryz.func16, Tryz.ntmps16
  go_wp2
  go_quiet (fail)
  go_wp2_with (go_at_call 57; refine (worked_ (c := c) (l := l) (x := ⟨2, inc, boot, c.txn, id, 0, out, commit, reply, at2⟩) (v3 := .slice b3 n3 k3) (H.out.keep (fun b h1 _ => Step.heap (by (repeat (first | exact Step.refl _ | refine Step.alloc ?_ _ | refine Step.drew ?_ | refine Step.drewN ?_ _ | refine Step.setCell ?_ (by first | exact Nat.le_refl _ | assumption | omega | (simp; done) | (simp; omega)) _ | assumption | refine Step.trans ?_ (by assumption : Step _ _))) : Step w _) h1)) hat rfl HNE.out).mono ?_; rintro e w1 ⟨rfl, hC1, hT1⟩; have HC1 := Lib.hid hC1; clear hC1)
  go_ret
  exact ⟨rfl, HC1.out, (Turn.of (by (repeat (first | exact Step.refl _ | refine Step.alloc ?_ _ | refine Step.drew ?_ | refine Step.drewN ?_ _ | refine Step.setCell ?_ (by first | exact Nat.le_refl _ | assumption | omega | (simp; done) | (simp; omega)) _ | assumption | refine Step.trans ?_ (by assumption : Step _ _))))).trans hT1⟩
end Go.Proofs.YthflkfgiclcdiaaGreat
