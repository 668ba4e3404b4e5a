/-
  Walks: the document's error of a request (refCheck), and that the program's own is the same.
-/
import Derived.Test.YthflkfgiclcdiaaW4
import Derived.Test.YthflkfgiclcdiaaW6
import Derived.BigGuardPart
namespace Go.Proofs.Ythflkfgiclcdiaa
open Go.RowKit Go.Gr
set_option linter.unusedSimpArgs false
def badMost (o : DOp) : Bool := decide (o.kind = 4 ∧ (o.most < 1 ∨ 32 < o.most))
def badSize (o : DOp) : Bool := decide (64 < o.key.length ∨ (o.kind = 4 ∧ 64 < o.value.length) ∨ ((o.kind = 2 ∨ o.kind = 5) ∧ 128 < o.value.length))
def badKind (o : DOp) : Bool := decide (o.kind < 1 ∨ 6 < o.kind)
def checkRef (ops : List DOp) : Int := if ops.any badMost then 1 else if 16 < ops.length then 2 else if ops.any badSize then 2 else if ops.any badKind then 3 else 0

theorem faultB_zero {o : DOp} : faultB o = 0 ↔ badMost o = false ∧ badSize o = false ∧ badKind o = false := by
  simp only [faultB, badMost, badSize, badKind, decide_eq_false_iff_not]
  (repeat' split) <;> constructor <;> intro h <;> first | (exfalso; omega) | (refine ⟨?_, ?_, ?_⟩ <;> omega) | rfl
theorem faultB_one {o : DOp} : faultB o = 1 ↔ badMost o = true := by
  simp only [faultB, badMost, decide_eq_true_iff]
  (repeat' split) <;> constructor <;> intro h <;> first | (exfalso; omega) | rfl | omega
theorem faultB_two {o : DOp} : faultB o = 2 ↔ badMost o = false ∧ badSize o = true := by
  simp only [faultB, badMost, badSize, decide_eq_true_iff, decide_eq_false_iff_not]
  (repeat' split) <;> constructor <;> intro h <;> first | (exfalso; omega) | rfl | (refine ⟨?_, ?_⟩ <;> omega)

/-- The least error that is none, of a list. -/
theorem checkAll_spec (ops : List DOp) : checkAll ops = if ops.any badMost then 1 else if ops.any badSize then 2 else if ops.any badKind then 3 else 0 := by
  suffices H : ∀ (l : List DOp) (c : Int), (c = 0 ∨ c = 1 ∨ c = 2 ∨ c = 3) → l.foldl checkStep c =
      if c = 1 ∨ l.any badMost = true then 1 else if c = 2 ∨ l.any badSize = true then 2 else if c = 3 ∨ l.any badKind = true then 3 else 0 by
    have := H ops 0 (.inl rfl)
    simpa [checkAll] using this
  intro l
  induction l with
  | nil => intro c hc; rcases hc with rfl | rfl | rfl | rfl <;> simp
  | cons o l ih =>
    intro c hc
    have hr := faultB_range o
    have h0 := @faultB_zero o
    have h1 := @faultB_one o
    have h2 := @faultB_two o
    have hs : checkStep c o = 0 ∨ checkStep c o = 1 ∨ checkStep c o = 2 ∨ checkStep c o = 3 := by
      unfold checkStep
      split <;> omega
    rw [List.foldl_cons, ih _ hs]
    have e1 : checkStep c o = 1 ↔ c = 1 ∨ badMost o = true := by
      rw [← h1]; unfold checkStep; split <;> omega
    have e2 : ¬ (c = 1 ∨ badMost o = true) → (checkStep c o = 2 ↔ c = 2 ∨ badSize o = true) := by
      intro hn
      rw [← h1] at hn
      have : badSize o = true ↔ faultB o = 2 := by
        rw [h2]
        constructor
        · intro h; exact ⟨by rw [Bool.eq_false_iff]; intro hb; exact hn (.inr (h1.2 hb)), h⟩
        · exact fun h => h.2
      rw [this]; unfold checkStep; split <;> omega
    have e3 : ¬ (c = 1 ∨ badMost o = true) → ¬ (c = 2 ∨ badSize o = true) → (checkStep c o = 3 ↔ c = 3 ∨ badKind o = true) := by
      intro hn hn2
      have hm : badMost o = false := by rw [Bool.eq_false_iff]; exact fun hb => hn (.inr hb)
      have hz : badSize o = false := by rw [Bool.eq_false_iff]; exact fun hb => hn2 (.inr hb)
      have n1 : faultB o ≠ 1 := fun h => by rw [h1, hm] at h; cases h
      have n2 : faultB o ≠ 2 := fun h => by rw [h2, hz] at h; cases h.2
      have : badKind o = true ↔ faultB o = 3 := by
        constructor
        · intro h
          have n0 : faultB o ≠ 0 := fun h' => by rw [h0, h] at h'; cases h'.2.2
          omega
        · intro h
          cases hk : badKind o with
          | true => rfl
          | false => exact absurd ((h0.2 ⟨hm, hz, hk⟩).symm.trans h) (by decide)
      have m1 : c ≠ 1 := fun h => hn (.inl h)
      have m2 : c ≠ 2 := fun h => hn2 (.inl h)
      rw [this]; unfold checkStep; split <;> omega
    simp only [List.any_cons, Bool.or_eq_true]
    by_cases p1 : c = 1 ∨ badMost o = true
    · rw [if_pos (.inl (e1.2 p1)), if_pos (by rcases p1 with h | h; exact .inl h; exact .inr (.inl h))]
    · have p1' : ¬ (checkStep c o = 1) := fun h => p1 (e1.1 h)
      have q1 : (checkStep c o = 1 ∨ l.any badMost = true) ↔ (c = 1 ∨ badMost o = true ∨ l.any badMost = true) := by
        constructor
        · rintro (h | h); exact absurd h p1'; exact .inr (.inr h)
        · rintro (h | h | h); exact absurd (.inl h) p1; exact absurd (.inr h) p1; exact .inr h
      by_cases p2 : c = 2 ∨ badSize o = true
      · have q2 : (checkStep c o = 2 ∨ l.any badSize = true) := .inl ((e2 p1).2 p2)
        have q2' : (c = 2 ∨ badSize o = true ∨ l.any badSize = true) := by rcases p2 with h | h; exact .inl h; exact .inr (.inl h)
        simp only [q1, if_pos q2, if_pos q2']
      · have p2' : ¬ (checkStep c o = 2) := fun h => p2 ((e2 p1).1 h)
        have q2 : (checkStep c o = 2 ∨ l.any badSize = true) ↔ (c = 2 ∨ badSize o = true ∨ l.any badSize = true) := by
          constructor
          · rintro (h | h); exact absurd h p2'; exact .inr (.inr h)
          · rintro (h | h | h); exact absurd (.inl h) p2; exact absurd (.inr h) p2; exact .inr h
        have q3 : (checkStep c o = 3 ∨ l.any badKind = true) ↔ (c = 3 ∨ badKind o = true ∨ l.any badKind = true) := by
          rw [e3 p1 p2, or_assoc]
        simp only [q1, q2, q3]
theorem check_same (ops : List DOp) : checkB ops = checkRef ops := by
  unfold checkB checkRef
  rw [checkAll_spec]
  by_cases h1 : ops.any badMost = true
  · simp [h1]
  · by_cases h2 : ops.any badSize = true
    · simp [h1, h2]
    · by_cases h3 : ops.any badKind = true
      · simp [h1, h2, h3]
      · simp [h1, h2, h3]

theorem any_take {α : Type} {l : List α} {p : α → Bool} (h : ∀ j (hj : j < l.length), j < l.length → p l[j] = false) : l.any p = false := any_not fun j hj => h j hj hj

set_option maxRecDepth 100000 in
set_option maxHeartbeats 4000000 in
theorem refCheck_ {w : World} {M : Nat → Prop} {v : Value} {xs : List DOp} (h : (Ty.slice tOp).rep w M [v] xs) :
    Calls Try.prog 12 #[v] w fun e w' => e = .returned (.int .i64 (checkRef xs)) ∧ Step w w' := by
  obtain ⟨a, c, rfl, hc, hm, hl⟩ := Ty.slice_val h
  have H := Lib.hid h
  clear h hc hm
  rw [lim_eq] at hl
  go_enter Try.func12, Try.ntmps12
  go_wp2
  go_loop [3] (fun i => ∃ k : Nat, i = .int .i64 k ∧ k ≤ xs.length ∧ Hid (∀ j (hj : j < xs.length), j < k → badMost xs[j] = false)) (fun i => xs.length - (intOf i).toNat)
  case atStart => exact ⟨0, rfl, by omega, Lib.hid (fun j _ h => absurd h (by omega))⟩
  case round =>
    obtain ⟨k, rfl, hk, hag⟩ := hrel
    by_cases hlt : k < xs.length
    · obtain ⟨ob, oo, oes, rfl, ohb, _, ou, ocu⟩ := Ty.slice_at H.out hlt
      obtain ⟨oc1, oc2, rfl, oh0, oh1, oh2, oh3⟩ := ou
      have oq0 := (Step.cell (w' := w) (by (repeat (first | exact Step.refl _ | refine Step.alloc ?_ _ | refine Step.drew ?_ | refine Step.drewN ?_ _ | refine Step.setCell ?_ (by first | exact Nat.le_refl _ | assumption | omega | (simp; done) | (simp; omega)) _ | assumption | refine Step.trans ?_ (by assumption : Step _ _)))) ohb _).trans (ocu 0 _ rfl)
      have oq1 := (Step.cell (w' := w) (by (repeat (first | exact Step.refl _ | refine Step.alloc ?_ _ | refine Step.drew ?_ | refine Step.drewN ?_ _ | refine Step.setCell ?_ (by first | exact Nat.le_refl _ | assumption | omega | (simp; done) | (simp; omega)) _ | assumption | refine Step.trans ?_ (by assumption : Step _ _)))) ohb _).trans (ocu 1 _ rfl)
      have oq2 := (Step.cell (w' := w) (by (repeat (first | exact Step.refl _ | refine Step.alloc ?_ _ | refine Step.drew ?_ | refine Step.drewN ?_ _ | refine Step.setCell ?_ (by first | exact Nat.le_refl _ | assumption | omega | (simp; done) | (simp; omega)) _ | assumption | refine Step.trans ?_ (by assumption : Step _ _)))) ohb _).trans (ocu 2 _ rfl)
      have oq3 := (Step.cell (w' := w) (by (repeat (first | exact Step.refl _ | refine Step.alloc ?_ _ | refine Step.drew ?_ | refine Step.drewN ?_ _ | refine Step.setCell ?_ (by first | exact Nat.le_refl _ | assumption | omega | (simp; done) | (simp; omega)) _ | assumption | refine Step.trans ?_ (by assumption : Step _ _)))) ohb _).trans (ocu 3 _ rfl)
      simp only [show tOp.n = 4 from rfl, Nat.add_zero] at oq0 oq1 oq2 oq3
      obtain ⟨oa1, on1, rfl, _⟩ := Ty.slice_val oh1
      obtain ⟨oa2, on2, rfl, _⟩ := Ty.slice_val oh2
      have oH0 := Lib.hid oh0
      have oH1 := Lib.hid oh1
      have oH2 := Lib.hid oh2
      have oH3 := Lib.hid oh3
      clear ocu oh0 oh1 oh2 oh3
      by_cases hb : xs[k].kind = 4 ∧ (xs[k].most < 1 ∨ 32 < xs[k].most)
      · have hr : Hid (checkRef xs = 1) := Lib.hid (if_pos (any_of_at hlt (decide_eq_true hb)))
        obtain ⟨hb1, hb2⟩ := hb
        rcases hb2 with hb2 | hb2
        all_goals go_wp2
        all_goals go_ret
        all_goals exact ⟨by rw [hr.out]; rfl, Step.refl _⟩
      · have hn : Hid (badMost xs[k] = false) := Lib.hid (decide_eq_false hb)
        rcases (by omega : xs[k].kind ≠ 4 ∨ (xs[k].kind = 4 ∧ 1 ≤ xs[k].most ∧ xs[k].most ≤ 32)) with hb1 | ⟨hb1, hb2, hb3⟩
        all_goals clear hb
        all_goals go_wp2
        all_goals refine ⟨⟨k + 1, by go_num, by omega, Lib.hid (fun j hj hlt' => ?_)⟩, by simp [intOf]; omega⟩
        all_goals (rcases Nat.lt_or_ge j k with h' | h'; exact hag.out j hj h'; obtain rfl : j = k := (by omega); exact hn.out)
    · obtain rfl : k = xs.length := by omega
      have hno : Hid (xs.any badMost = false) := Lib.hid (any_take hag.out)
      clear hag
      by_cases h16 : 16 < xs.length
      · have hr : Hid (checkRef xs = 2) := Lib.hid (by unfold checkRef; rw [hno.out, if_neg (by simp), if_pos h16])
        go_wp2
        go_ret
        exact ⟨by rw [hr.out]; rfl, Step.refl _⟩
      · go_wp2
        go_loopw [4, 5] (fun i _ w' => ∃ k : Nat, i = .int .i64 k ∧ k ≤ xs.length ∧ Hid (∀ j (hj : j < xs.length), j < k → badSize xs[j] = false) ∧ Step w w') (fun i _ _ => xs.length - (intOf i).toNat)
        case atStart => exact ⟨0, rfl, by omega, Lib.hid (fun j _ h => absurd h (by omega)), Step.refl _⟩
        case round =>
          rename_i wr _
          obtain ⟨k, rfl, hk, hag, hB⟩ := hrel
          by_cases hlt : k < xs.length
          · obtain ⟨ob, oo, oes, rfl, ohb, _, ou, ocu⟩ := Ty.slice_at H.out hlt
            obtain ⟨oc1, oc2, rfl, oh0, oh1, oh2, oh3⟩ := ou
            have oq0 := (Step.cell (w' := wr) (by (repeat (first | exact Step.refl _ | refine Step.alloc ?_ _ | refine Step.drew ?_ | refine Step.drewN ?_ _ | refine Step.setCell ?_ (by first | exact Nat.le_refl _ | assumption | omega | (simp; done) | (simp; omega)) _ | assumption | refine Step.trans ?_ (by assumption : Step _ _)))) ohb _).trans (ocu 0 _ rfl)
            have oq1 := (Step.cell (w' := wr) (by (repeat (first | exact Step.refl _ | refine Step.alloc ?_ _ | refine Step.drew ?_ | refine Step.drewN ?_ _ | refine Step.setCell ?_ (by first | exact Nat.le_refl _ | assumption | omega | (simp; done) | (simp; omega)) _ | assumption | refine Step.trans ?_ (by assumption : Step _ _)))) ohb _).trans (ocu 1 _ rfl)
            have oq2 := (Step.cell (w' := wr) (by (repeat (first | exact Step.refl _ | refine Step.alloc ?_ _ | refine Step.drew ?_ | refine Step.drewN ?_ _ | refine Step.setCell ?_ (by first | exact Nat.le_refl _ | assumption | omega | (simp; done) | (simp; omega)) _ | assumption | refine Step.trans ?_ (by assumption : Step _ _)))) ohb _).trans (ocu 2 _ rfl)
            have oq3 := (Step.cell (w' := wr) (by (repeat (first | exact Step.refl _ | refine Step.alloc ?_ _ | refine Step.drew ?_ | refine Step.drewN ?_ _ | refine Step.setCell ?_ (by first | exact Nat.le_refl _ | assumption | omega | (simp; done) | (simp; omega)) _ | assumption | refine Step.trans ?_ (by assumption : Step _ _)))) ohb _).trans (ocu 3 _ rfl)
            simp only [show tOp.n = 4 from rfl, Nat.add_zero] at oq0 oq1 oq2 oq3
            obtain ⟨oa1, on1, rfl, _⟩ := Ty.slice_val oh1
            obtain ⟨oa2, on2, rfl, _⟩ := Ty.slice_val oh2
            have oH0 := Lib.hid oh0
            have oH1 := Lib.hid oh1
            have oH2 := Lib.hid oh2
            have oH3 := Lib.hid oh3
            clear ocu oh0 oh1 oh2 oh3
            have hsz : Hid (badSize xs[k] = decide (64 < xs[k].key.length ∨ (xs[k].kind = 4 ∧ 64 < xs[k].value.length) ∨ ((xs[k].kind = 2 ∨ xs[k].kind = 5) ∧ 128 < xs[k].value.length))) := Lib.hid rfl
            have hrr : Hid (badSize xs[k] = true → checkRef xs = 2) := Lib.hid (fun hb => by unfold checkRef; rw [hno.out, if_neg (by simp), if_neg h16, if_pos (any_of_at hlt hb)])
            have hkeep : Hid (badSize xs[k] = false → ∀ j (hj : j < xs.length), j < k + 1 → badSize xs[j] = false) := Lib.hid (fun hn j hj hlt' => by
              rcases Nat.lt_or_ge j k with h' | h'
              · exact hag.out j hj h'
              · obtain rfl : j = k := by omega
                exact hn)
            clear oH0 oH1 oH2 oH3 hag
            generalize badSize xs[k] = bz at hsz hrr hkeep
            generalize xs[k].kind = kd at *
            generalize xs[k].key.length = kl at *
            generalize xs[k].value.length = vl at *
            have yes : (64 < kl ∨ (kd = 4 ∧ 64 < vl) ∨ ((kd = 2 ∨ kd = 5) ∧ 128 < vl)) → Hid (checkRef xs = 2) := fun hb => Lib.hid (hrr.out (by rw [hsz.out]; exact decide_eq_true hb))
            have no : ¬ (64 < kl ∨ (kd = 4 ∧ 64 < vl) ∨ ((kd = 2 ∨ kd = 5) ∧ 128 < vl)) → Hid (∀ j (hj : j < xs.length), j < k + 1 → badSize xs[j] = false) := fun hb => Lib.hid (hkeep.out (by rw [hsz.out]; exact decide_eq_false hb))
            have way : (64 < kl ∧ Hid (checkRef xs = 2)) ∨ (kl ≤ 64 ∧ kd = 4 ∧ 64 < vl ∧ Hid (checkRef xs = 2)) ∨ (kl ≤ 64 ∧ kd = 4 ∧ vl ≤ 64 ∧ Hid (∀ j (hj : j < xs.length), j < k + 1 → badSize xs[j] = false)) ∨
                (kl ≤ 64 ∧ kd = 2 ∧ 128 < vl ∧ Hid (checkRef xs = 2)) ∨ (kl ≤ 64 ∧ kd = 5 ∧ 128 < vl ∧ Hid (checkRef xs = 2)) ∨ (kl ≤ 64 ∧ kd = 2 ∧ vl ≤ 128 ∧ Hid (∀ j (hj : j < xs.length), j < k + 1 → badSize xs[j] = false)) ∨ (kl ≤ 64 ∧ kd = 5 ∧ vl ≤ 128 ∧ Hid (∀ j (hj : j < xs.length), j < k + 1 → badSize xs[j] = false)) ∨
                (kl ≤ 64 ∧ kd ≠ 4 ∧ kd ≠ 2 ∧ kd ≠ 5 ∧ Hid (∀ j (hj : j < xs.length), j < k + 1 → badSize xs[j] = false)) := by
              by_cases q : (64 < kl ∨ (kd = 4 ∧ 64 < vl) ∨ ((kd = 2 ∨ kd = 5) ∧ 128 < vl))
              · have y := yes q
                clear yes no hsz hrr hkeep
                simp only [y, and_true]
                omega
              · have y := no q
                clear yes no hsz hrr hkeep
                simp only [y, and_true]
                omega
            clear yes no hsz hrr hkeep
            rcases way with ⟨g1, hr⟩ | ⟨g1, rfl, g2, hr⟩ | ⟨g1, rfl, g2, hn⟩ | ⟨g1, rfl, g2, hr⟩ | ⟨g1, rfl, g2, hr⟩ | ⟨g1, rfl, g2, hn⟩ | ⟨g1, rfl, g2, hn⟩ | ⟨g1, g2, g3, g4, hn⟩
            · have G1 : decide ((64 : Int) < (kl : Int)) = true := decide_eq_true (by omega)
              go_wp2
              go_ret
              exact ⟨by rw [hr.out]; rfl, by (repeat (first | exact Step.refl _ | refine Step.alloc ?_ _ | refine Step.drew ?_ | refine Step.drewN ?_ _ | refine Step.setCell ?_ (by first | exact Nat.le_refl _ | assumption | omega | (simp; done) | (simp; omega)) _ | assumption | refine Step.trans ?_ (by assumption : Step _ _)))⟩
            · have G1 : decide ((64 : Int) < (kl : Int)) = false := decide_eq_false (by omega)
              have G2 : decide ((64 : Int) < (vl : Int)) = true := decide_eq_true (by omega)
              go_wp2
              go_ret
              exact ⟨by rw [hr.out]; rfl, by (repeat (first | exact Step.refl _ | refine Step.alloc ?_ _ | refine Step.drew ?_ | refine Step.drewN ?_ _ | refine Step.setCell ?_ (by first | exact Nat.le_refl _ | assumption | omega | (simp; done) | (simp; omega)) _ | assumption | refine Step.trans ?_ (by assumption : Step _ _)))⟩
            · have G1 : decide ((64 : Int) < (kl : Int)) = false := decide_eq_false (by omega)
              have G2 : decide ((64 : Int) < (vl : Int)) = false := decide_eq_false (by omega)
              go_wp2
              exact ⟨⟨k + 1, by go_num, by omega, hn, by (repeat (first | exact Step.refl _ | refine Step.alloc ?_ _ | refine Step.drew ?_ | refine Step.drewN ?_ _ | refine Step.setCell ?_ (by first | exact Nat.le_refl _ | assumption | omega | (simp; done) | (simp; omega)) _ | assumption | refine Step.trans ?_ (by assumption : Step _ _)))⟩, by simp [intOf]; omega⟩
            · have G1 : decide ((64 : Int) < (kl : Int)) = false := decide_eq_false (by omega)
              have G2 : decide ((128 : Int) < (vl : Int)) = true := decide_eq_true (by omega)
              go_wp2
              go_ret
              exact ⟨by rw [hr.out]; rfl, by (repeat (first | exact Step.refl _ | refine Step.alloc ?_ _ | refine Step.drew ?_ | refine Step.drewN ?_ _ | refine Step.setCell ?_ (by first | exact Nat.le_refl _ | assumption | omega | (simp; done) | (simp; omega)) _ | assumption | refine Step.trans ?_ (by assumption : Step _ _)))⟩
            · have G1 : decide ((64 : Int) < (kl : Int)) = false := decide_eq_false (by omega)
              have G2 : decide ((128 : Int) < (vl : Int)) = true := decide_eq_true (by omega)
              go_wp2
              go_ret
              exact ⟨by rw [hr.out]; rfl, by (repeat (first | exact Step.refl _ | refine Step.alloc ?_ _ | refine Step.drew ?_ | refine Step.drewN ?_ _ | refine Step.setCell ?_ (by first | exact Nat.le_refl _ | assumption | omega | (simp; done) | (simp; omega)) _ | assumption | refine Step.trans ?_ (by assumption : Step _ _)))⟩
            · have G1 : decide ((64 : Int) < (kl : Int)) = false := decide_eq_false (by omega)
              have G2 : decide ((128 : Int) < (vl : Int)) = false := decide_eq_false (by omega)
              go_wp2
              exact ⟨⟨k + 1, by go_num, by omega, hn, by (repeat (first | exact Step.refl _ | refine Step.alloc ?_ _ | refine Step.drew ?_ | refine Step.drewN ?_ _ | refine Step.setCell ?_ (by first | exact Nat.le_refl _ | assumption | omega | (simp; done) | (simp; omega)) _ | assumption | refine Step.trans ?_ (by assumption : Step _ _)))⟩, by simp [intOf]; omega⟩
            · have G1 : decide ((64 : Int) < (kl : Int)) = false := decide_eq_false (by omega)
              have G2 : decide ((128 : Int) < (vl : Int)) = false := decide_eq_false (by omega)
              go_wp2
              exact ⟨⟨k + 1, by go_num, by omega, hn, by (repeat (first | exact Step.refl _ | refine Step.alloc ?_ _ | refine Step.drew ?_ | refine Step.drewN ?_ _ | refine Step.setCell ?_ (by first | exact Nat.le_refl _ | assumption | omega | (simp; done) | (simp; omega)) _ | assumption | refine Step.trans ?_ (by assumption : Step _ _)))⟩, by simp [intOf]; omega⟩
            · have G1 : decide ((64 : Int) < (kl : Int)) = false := decide_eq_false (by omega)
              have D4 : (kd == 4) = false := beq_eq_false_iff_ne.2 g2
              have D2 : (kd == 2) = false := beq_eq_false_iff_ne.2 g3
              have D5 : (kd == 5) = false := beq_eq_false_iff_ne.2 g4
              go_wp2
              exact ⟨⟨k + 1, by go_num, by omega, hn, by (repeat (first | exact Step.refl _ | refine Step.alloc ?_ _ | refine Step.drew ?_ | refine Step.drewN ?_ _ | refine Step.setCell ?_ (by first | exact Nat.le_refl _ | assumption | omega | (simp; done) | (simp; omega)) _ | assumption | refine Step.trans ?_ (by assumption : Step _ _)))⟩, by simp [intOf]; omega⟩
          · obtain rfl : k = xs.length := by omega
            have hno2 : Hid (xs.any badSize = false) := Lib.hid (any_take hag.out)
            clear hag
            go_wp2
            go_loop [6] (fun i => ∃ k : Nat, i = .int .i64 k ∧ k ≤ xs.length ∧ Hid (∀ j (hj : j < xs.length), j < k → badKind xs[j] = false)) (fun i => xs.length - (intOf i).toNat)
            case atStart => exact ⟨0, rfl, by omega, Lib.hid (fun j _ h => absurd h (by omega))⟩
            case round =>
              obtain ⟨k, rfl, hk, hag⟩ := hrel
              by_cases hlt : k < xs.length
              · obtain ⟨ob, oo, oes, rfl, ohb, _, ou, ocu⟩ := Ty.slice_at H.out hlt
                obtain ⟨oc1, oc2, rfl, oh0, oh1, oh2, oh3⟩ := ou
                have oq0 := (Step.cell (w' := wr) (by (repeat (first | exact Step.refl _ | refine Step.alloc ?_ _ | refine Step.drew ?_ | refine Step.drewN ?_ _ | refine Step.setCell ?_ (by first | exact Nat.le_refl _ | assumption | omega | (simp; done) | (simp; omega)) _ | assumption | refine Step.trans ?_ (by assumption : Step _ _)))) ohb _).trans (ocu 0 _ rfl)
                have oq1 := (Step.cell (w' := wr) (by (repeat (first | exact Step.refl _ | refine Step.alloc ?_ _ | refine Step.drew ?_ | refine Step.drewN ?_ _ | refine Step.setCell ?_ (by first | exact Nat.le_refl _ | assumption | omega | (simp; done) | (simp; omega)) _ | assumption | refine Step.trans ?_ (by assumption : Step _ _)))) ohb _).trans (ocu 1 _ rfl)
                have oq2 := (Step.cell (w' := wr) (by (repeat (first | exact Step.refl _ | refine Step.alloc ?_ _ | refine Step.drew ?_ | refine Step.drewN ?_ _ | refine Step.setCell ?_ (by first | exact Nat.le_refl _ | assumption | omega | (simp; done) | (simp; omega)) _ | assumption | refine Step.trans ?_ (by assumption : Step _ _)))) ohb _).trans (ocu 2 _ rfl)
                have oq3 := (Step.cell (w' := wr) (by (repeat (first | exact Step.refl _ | refine Step.alloc ?_ _ | refine Step.drew ?_ | refine Step.drewN ?_ _ | refine Step.setCell ?_ (by first | exact Nat.le_refl _ | assumption | omega | (simp; done) | (simp; omega)) _ | assumption | refine Step.trans ?_ (by assumption : Step _ _)))) ohb _).trans (ocu 3 _ rfl)
                simp only [show tOp.n = 4 from rfl, Nat.add_zero] at oq0 oq1 oq2 oq3
                obtain ⟨oa1, on1, rfl, _⟩ := Ty.slice_val oh1
                obtain ⟨oa2, on2, rfl, _⟩ := Ty.slice_val oh2
                have oH0 := Lib.hid oh0
                have oH1 := Lib.hid oh1
                have oH2 := Lib.hid oh2
                have oH3 := Lib.hid oh3
                clear ocu oh0 oh1 oh2 oh3
                by_cases hb : xs[k].kind < 1 ∨ 6 < xs[k].kind
                · have hr : Hid (checkRef xs = 3) := Lib.hid (by unfold checkRef; rw [hno.out, if_neg (by simp), if_neg h16, hno2.out, if_neg (by simp), if_pos (any_of_at hlt (decide_eq_true hb))])
                  rcases hb with hb | hb
                  all_goals go_wp2
                  all_goals go_ret
                  all_goals exact ⟨by rw [hr.out]; rfl, by (repeat (first | exact Step.refl _ | refine Step.alloc ?_ _ | refine Step.drew ?_ | refine Step.drewN ?_ _ | refine Step.setCell ?_ (by first | exact Nat.le_refl _ | assumption | omega | (simp; done) | (simp; omega)) _ | assumption | refine Step.trans ?_ (by assumption : Step _ _)))⟩
                · have hn : Hid (badKind xs[k] = false) := Lib.hid (decide_eq_false hb)
                  have hb1 : 1 ≤ xs[k].kind := by omega
                  have hb2 : xs[k].kind ≤ 6 := by omega
                  clear hb
                  go_wp2
                  all_goals refine ⟨⟨k + 1, by go_num, by omega, Lib.hid (fun j hj hlt' => ?_)⟩, by simp [intOf]; omega⟩
                  all_goals (rcases Nat.lt_or_ge j k with h' | h'; exact hag.out j hj h'; obtain rfl : j = k := (by omega); exact hn.out)
              · obtain rfl : k = xs.length := by omega
                have hr : Hid (checkRef xs = 0) := Lib.hid (by unfold checkRef; rw [hno.out, if_neg (by simp), if_neg h16, hno2.out, if_neg (by simp), any_take hag.out, if_neg (by simp)])
                go_wp2
                go_ret
                exact ⟨by rw [hr.out]; rfl, by (repeat (first | exact Step.refl _ | refine Step.alloc ?_ _ | refine Step.drew ?_ | refine Step.drewN ?_ _ | refine Step.setCell ?_ (by first | exact Nat.le_refl _ | assumption | omega | (simp; done) | (simp; omega)) _ | assumption | refine Step.trans ?_ (by assumption : Step _ _)))⟩
end Go.Proofs.Ythflkfgiclcdiaa
