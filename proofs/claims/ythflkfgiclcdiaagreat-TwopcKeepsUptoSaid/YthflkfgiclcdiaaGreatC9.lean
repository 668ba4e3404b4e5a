/-
  Walk: Coord.Answer, where the answer is a stray.
-/
import Derived.Test.YthflkfgiclcdiaaGreatC8
import Derived.Test.YthflkfgiclcdiaaGreatW20
namespace Go.Proofs.YthflkfgiclcdiaaGreat
open Go.Gr Go.RowKit
set_option linter.unusedSimpArgs false
set_option maxRecDepth 100000 in
set_option maxHeartbeats 4000000 in
theorem cAnswer_out {w : World} {B cb : Nat} {c : DCoord} {vo vp mo mu vs vr : Value} {at_ : Int} {x : DAnswer} {oe oa : Int} {b1 b2 b3 : Option Addr} {n1 n2 n3 k1 k2 k3 : Nat} (h : CoordIn w B cb c vo vp mo mu vs vr) (hat : I64 at_)
    (hno : ∀ p ∈ c.out.getD [], p.1 ≠ at_) :
    Calls Tryz.prog 16 #[.pointer (some ⟨cb, 0, none⟩), .int .i64 at_, .agg (ansCells x oe oa (.slice b1 n1 k1) (.slice b2 n2 k2) (.slice b3 n3 k3))] w fun e w' => e = .returned (.slice none 0 0) ∧ Step w w' := by
  have hcb := h.lt
  have p8 : w.cell? ⟨cb, 8, none⟩ = some mu := h.cells.cell 8
  have hlk : ∀ W, Step w W → (Instr.lookup 123 mu (.int .i64 at_) true).run Tryz.prog W = .ok (.tuple #[.agg #[.int .i64 0, .int .u64 0, .int .u64 0, .int .u64 0, .int .u64 0, .int .u64 0, .int .u64 0, .slice none 0 0, .bool false, .slice none 0 0, .int .u64 0, .string ⟨#[]⟩], .bool false]) W := by
    intro W hW
    rcases ho : c.out with _ | l
    · have := h.out
      rw [ho] at this
      obtain rfl : mu = .map none := this
      exact Maps.look_nil true (Maps.int_keyed Tryz.underlying3) Tryz.underlying123 (Tryz.zeroValue39 W) (Maps.keyOf_int_mk Tryz.underlying3 (wf_i64 hat))
    · have := h.out
      rw [ho] at this
      obtain ⟨b, rfl, hm, _⟩ := this
      rcases (hm.step hW).look (t := 123) Tryz.underlying3 Tryz.underlying123 (Tryz.zeroValue39 W) hat true with ⟨_, hr⟩ | ⟨y, cs, hy, _⟩
      · exact hr
      · exact absurd rfl (hno _ (by rw [ho]; exact hy))
  have hlk' := Lib.hid hlk
  clear hlk
  have hl : ∀ o, (Instr.lookup 123 mu (.int .i64 at_) true).run Tryz.prog (w.alloc o) = _ := fun o => hlk'.out _ ((Step.refl w).alloc o)
  unfold ansCells
  go_enter Tryz.func16, Tryz.ntmps16
  go_wp2
  go_quiet (fail)
  go_wp2
  go_ret
  exact ⟨rfl, by (repeat (first | exact Step.refl _ | refine Step.alloc ?_ _ | refine Step.drew ?_ | refine Step.drewN ?_ _ | refine Step.setCell ?_ (by first | exact Nat.le_refl _ | assumption | omega | (simp; done) | (simp; omega)) _ | assumption | refine Step.trans ?_ (by assumption : Step _ _)))⟩
set_option maxRecDepth 100000 in
set_option maxHeartbeats 4000000 in
theorem cAnswer_in {w : World} {B cb : Nat} {c : DCoord} {vo vp mo mu vs vr : Value} {at_ : Int} {y : DAsk} {l : List (Int × DAsk)} {x : DAnswer} {oe oa : Int} {b1 b2 b3 : Option Addr} {n1 n2 n3 k1 k2 k3 : Nat} (h : CoordIn w B cb c vo vp mo mu vs vr) (ho : c.out = some l) (hat : I64 at_)
    (hk : ∀ p ∈ l, p.1 = at_ → p.2.kind = y.kind) (hin : ∃ p ∈ l, p.1 = at_) (hne : x.txn = c.txn → x.kind ≠ y.kind) :
    Calls Tryz.prog 16 #[.pointer (some ⟨cb, 0, none⟩), .int .i64 at_, .agg (ansCells x oe oa (.slice b1 n1 k1) (.slice b2 n2 k2) (.slice b3 n3 k3))] w fun e w' => e = .returned (.slice none 0 0) ∧ Step w w' := by
  have hcb := h.lt
  have p8 : w.cell? ⟨cb, 8, none⟩ = some mu := h.cells.cell 8
  have p0 : w.cell? ⟨cb, 0, none⟩ = some (.int .u64 (c.txn.boot : Int)) := h.cells.cell 0
  have p1 : w.cell? ⟨cb, 1, none⟩ = some (.int .u64 (c.txn.session : Int)) := h.cells.cell 1
  have p2 : w.cell? ⟨cb, 2, none⟩ = some (.int .u64 (c.txn.seq : Int)) := h.cells.cell 2
  have hO := h.out
  rw [ho] at hO
  obtain ⟨b, rfl, hm, _⟩ := hO
  have HM := Lib.hid hm
  have HK := Lib.hid hk
  have HIN := Lib.hid hin
  have HNE := Lib.hid hne
  clear h hm hk hin hne ho
  have hlk := (HM.out.step ((Step.refl w).alloc (.cells (ansCells x oe oa (.slice b1 n1 k1) (.slice b2 n2 k2) (.slice b3 n3 k3)) 51))).look (t := 123) Tryz.underlying3 Tryz.underlying123 (Tryz.zeroValue39 _) hat true
  rcases hlk with ⟨hn, _⟩ | ⟨z, ⟨L⟩, hz, hrep, hr⟩
  · obtain ⟨p, hp, hpe⟩ := HIN.out
    exact absurd hpe (hn p hp)
  obtain ⟨ac7, ac9, hcs, ah⟩ := hrep
  simp only at hcs
  subst hcs
  obtain ⟨aa7, an7, rfl, _⟩ := Ty.slice_val ah.2.2.2.2.2.2.2.1
  obtain ⟨aa9, an9, rfl, _⟩ := Ty.slice_val ah.2.2.2.2.2.2.2.2.1
  have HKZ := Lib.hid (HK.out _ hz rfl)
  clear ah hz
  have hcase : ((x.txn.boot : Int) == (c.txn.boot : Int)) = false ∨ (((x.txn.boot : Int) == (c.txn.boot : Int)) = true ∧ ((x.txn.session : Int) == (c.txn.session : Int)) = false) ∨
      (((x.txn.boot : Int) == (c.txn.boot : Int)) = true ∧ ((x.txn.session : Int) == (c.txn.session : Int)) = true ∧ ((x.txn.seq : Int) == (c.txn.seq : Int)) = false) ∨
      (((x.txn.boot : Int) == (c.txn.boot : Int)) = true ∧ ((x.txn.session : Int) == (c.txn.session : Int)) = true ∧ ((x.txn.seq : Int) == (c.txn.seq : Int)) = true ∧ (x.kind == z.kind) = false) := by
    by_cases h1 : x.txn.boot = c.txn.boot
    · by_cases h2 : x.txn.session = c.txn.session
      · by_cases h3 : x.txn.seq = c.txn.seq
        · refine .inr (.inr (.inr ⟨beq_iff_eq.2 (by omega), beq_iff_eq.2 (by omega), beq_iff_eq.2 (by omega), beq_eq_false_iff_ne.2 ?_⟩))
          rw [HKZ.out]
          refine HNE.out ?_
          rcases hx : x.txn with ⟨q1, q2, q3⟩
          rcases hc : c.txn with ⟨r1, r2, r3⟩
          rw [hx, hc] at h1 h2 h3
          simp only at h1 h2 h3
          rw [h1, h2, h3]
        · exact .inr (.inr (.inl ⟨beq_iff_eq.2 (by omega), beq_iff_eq.2 (by omega), beq_eq_false_iff_ne.2 (by omega)⟩))
      · exact .inr (.inl ⟨beq_iff_eq.2 (by omega), beq_eq_false_iff_ne.2 (by omega)⟩)
    · exact .inl (beq_eq_false_iff_ne.2 (by omega))
  rcases hcase with h1 | ⟨h1, h2⟩ | ⟨h1, h2, h3⟩ | ⟨h1, h2, h3, h4⟩
  · unfold ansCells at hr ⊢
    go_enter Tryz.func16, Tryz.ntmps16
    go_wp2
    go_quiet (fail)
    go_wp2
    go_ret
    exact ⟨rfl, by (repeat (first | exact Step.refl _ | refine Step.alloc ?_ _ | refine Step.drew ?_ | refine Step.drewN ?_ _ | refine Step.setCell ?_ (by first | exact Nat.le_refl _ | assumption | omega | (simp; done) | (simp; omega)) _ | assumption | refine Step.trans ?_ (by assumption : Step _ _)))⟩
  · unfold ansCells at hr ⊢
    go_enter Tryz.func16, Tryz.ntmps16
    go_wp2
    go_quiet (fail)
    go_wp2
    go_ret
    exact ⟨rfl, by (repeat (first | exact Step.refl _ | refine Step.alloc ?_ _ | refine Step.drew ?_ | refine Step.drewN ?_ _ | refine Step.setCell ?_ (by first | exact Nat.le_refl _ | assumption | omega | (simp; done) | (simp; omega)) _ | assumption | refine Step.trans ?_ (by assumption : Step _ _)))⟩
  · unfold ansCells at hr ⊢
    go_enter Tryz.func16, Tryz.ntmps16
    go_wp2
    go_quiet (fail)
    go_wp2
    go_ret
    exact ⟨rfl, by (repeat (first | exact Step.refl _ | refine Step.alloc ?_ _ | refine Step.drew ?_ | refine Step.drewN ?_ _ | refine Step.setCell ?_ (by first | exact Nat.le_refl _ | assumption | omega | (simp; done) | (simp; omega)) _ | assumption | refine Step.trans ?_ (by assumption : Step _ _)))⟩
  · unfold ansCells at hr ⊢
    go_enter Tryz.func16, Tryz.ntmps16
    go_wp2
    go_quiet (fail)
    go_wp2
    go_ret
    exact ⟨rfl, by (repeat (first | exact Step.refl _ | refine Step.alloc ?_ _ | refine Step.drew ?_ | refine Step.drewN ?_ _ | refine Step.setCell ?_ (by first | exact Nat.le_refl _ | assumption | omega | (simp; done) | (simp; omega)) _ | assumption | refine Step.trans ?_ (by assumption : Step _ _)))⟩
end Go.Proofs.YthflkfgiclcdiaaGreat
