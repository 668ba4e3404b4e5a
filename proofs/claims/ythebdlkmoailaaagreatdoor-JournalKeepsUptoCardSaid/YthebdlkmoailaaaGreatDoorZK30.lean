/-
  Walk: JournalKeeps.
-/
import Derived.Test.YthebdlkmoailaaaGreatDoorZK29
import Derived.Test.YthebdlkmoailaaaGreatDoorZP11
import Derived.Test.YthebdlkmoailaaaGreatDoorZA4
set_option linter.unusedVariables false
set_option linter.unusedSimpArgs false
namespace Go.Proofs.YthebdlkmoailaaaGreatDoor
open Go.RowKit Go.Gr Go.Maps
open Go.Proofs (encStr)
set_option linter.unusedSimpArgs false
set_option linter.unusedVariables false
theorem Apart_lit {w : World} {vs : List Value} {N : Nat → Nat} (hr : ∀ j (hj : j < vs.length), ∃ ys : List UInt8, ys.length = N j ∧ BR 5 w vs[j] ys) (hd : Apt vs) (hN : ∀ j, N j ≤ 8589934592) (hn : vs.length ≤ 1048576) :
    Calls Tryz.prog 23 #[.slice (some ⟨w.heap.size, 0, none⟩) vs.length vs.length] (w.alloc (.cells vs.toArray 40)) fun e w' => e = .returned (.bool true) ∧ Turn (ownM vs) w w' := by
  have hlt : ∀ b, ownM vs b → b < w.heap.size := by
    rintro b ⟨j, hj, hb⟩
    obtain ⟨ys, _, h2⟩ := hr j hj
    exact h2.lt hb
  refine (Apart_ (N := N) ?_ (fun j hj => ?_) hd hN hn).mono ?_
  · refine Gr.Own.rep' (Gr.Own.lit (E := Ty.raw) (e := 40) (B := 0) (M := ownM vs) (n := vs.length) rfl (by rw [lim_eq]; omega) (Nat.zero_le _) (by simp [Ty.raw]) fun i hi => ?_) (fun b hb hm => ?_)
    · have h1 : grp vs.toArray.toList 1 i = [vs[i]] := by
        unfold grp
        apply List.ext_getElem?
        intro j
        rw [List.getElem?_take, List.getElem?_drop]
        rcases j with _ | j
        · simp [hi]
        · simp
      obtain ⟨ys, _, h2⟩ := hr i hi
      exact ⟨h1, h2.one⟩
    · have := hlt b hm
      obtain rfl : w.heap.size = b := by simpa [Value.ownBlock] using hb
      omega
  · obtain ⟨ys, h1, h2⟩ := hr j hj
    exact ⟨ys, h1, h2.step ((Step.refl w).alloc _)⟩
  · rintro e w' ⟨rfl, hT⟩
    exact ⟨rfl, (Turn.of ((Step.refl w).alloc _)).trans hT⟩
theorem apt_of {vs : List Value} (h : (vs.map Value.ownBlock).Pairwise fun x y => ∀ b, x = some b → y ≠ some b) : Apt vs := fun i j hi hj g h1 h2 => by
  rw [List.pairwise_iff_getElem] at h
  rcases Nat.lt_trichotomy i j with hlt | rfl | hlt
  · exact absurd (by rw [List.getElem_map]; exact h2) (h i j (by simpa using hi) (by simpa using hj) hlt g (by rw [List.getElem_map]; exact h1))
  · rfl
  · exact absurd (by rw [List.getElem_map]; exact h1) (h j i (by simpa using hj) (by simpa using hi) hlt g (by rw [List.getElem_map]; exact h2))
/-- Three answers of Records, opened. -/
theorem tri_open {w : World} {B : Nat} {v : Value} {ds : List (List UInt8 × Option Nat)} {a b c : List UInt8} (h : Gr.Own (tGB 5) 40 w (· < B) B v ds) (hm : ds.map Prod.fst = [a, b, c]) (hap : ApartD ds) :
    ∃ g cp u0 u1 u2, v = .slice (some ⟨g, 0, none⟩) 3 cp ∧ B ≤ g ∧ g < w.heap.size ∧ w.cell? ⟨g, 0, none⟩ = some u0 ∧ w.cell? ⟨g, 1, none⟩ = some u1 ∧ w.cell? ⟨g, 2, none⟩ = some u2 ∧
      BR 5 w u0 a ∧ BR 5 w u1 b ∧ BR 5 w u2 c ∧ ([u0, u1, u2].map Value.ownBlock).Pairwise (fun x y => ∀ b, x = some b → y ≠ some b) ∧ ∀ u ∈ [u0, u1, u2], ∀ k, u.ownBlock = some k → B ≤ k ∧ k < w.heap.size ∧ k ≠ g := by
  rcases ds with _ | ⟨x0, _ | ⟨x1, _ | ⟨x2, _ | ⟨x3, ds⟩⟩⟩⟩
  · simp at hm
  · simp at hm
  · simp at hm
  · simp only [List.map_cons, List.map_nil, List.cons.injEq, and_true] at hm
    obtain ⟨e0, e1, e2⟩ := hm
    obtain ⟨A, cp, rfl⟩ := h.val
    have hG := OwnG.of h
    obtain ⟨g, es0, rfl, hB, hlt, ⟨u0, rfl, b0, o0, m0⟩, c0, _⟩ := hG.at (k := 0) (by simp)
    obtain ⟨g1, es1, hg1, _, _, ⟨u1, rfl, b1, o1, m1⟩, c1, _⟩ := hG.at (k := 1) (by simp)
    obtain ⟨g2, es2, hg2, _, _, ⟨u2, rfl, b2, o2, m2⟩, c2, _⟩ := hG.at (k := 2) (by simp)
    obtain rfl : g = g1 := by simpa using hg1
    obtain rfl : g = g2 := by simpa using hg2
    have q0 := c0 0 u0 rfl
    have q1 := c1 0 u1 rfl
    have q2 := c2 0 u2 rfl
    simp only [List.getElem_cons_zero, List.getElem_cons_succ] at b0 o0 m0 b1 o1 m1 b2 o2 m2
    rw [e0] at b0
    rw [e1] at b1
    rw [e2] at b2
    refine ⟨g, cp, u0, u1, u2, rfl, hB, hlt, q0, q1, q2, b0, b1, b2, ?_, ?_⟩
    · have h3 : [u0, u1, u2].map Value.ownBlock = [x0, x1, x2].map Prod.snd := by simp [o0, o1, o2]
      rw [h3, List.pairwise_map]
      exact hap
    · intro u hu k hk
      simp only [List.mem_cons, List.not_mem_nil, or_false] at hu
      rcases hu with rfl | rfl | rfl
      · have := m0 k (o0.symm.trans hk)
        exact ⟨by omega, b0.lt hk, by omega⟩
      · have := m1 k (o1.symm.trans hk)
        exact ⟨by omega, b1.lt hk, by omega⟩
      · have := m2 k (o2.symm.trans hk)
        exact ⟨by omega, b2.lt hk, by omega⟩
  · simp at hm
theorem spareB_pre (a : List UInt8) : a <+: spareB a := ⟨_, rfl⟩
set_option maxRecDepth 100000 in
set_option maxHeartbeats 8000000 in
theorem jKeeps_ {w : World} {M1 M2 : Nat → Prop} {va vb : Value} {a b : List UInt8} (ha : Ty.bytes.rep w M1 [va] a) (hb : Ty.bytes.rep w M2 [vb] b) :
    Calls Tryz.prog 4 #[va, vb] w fun e w' => e = .returned (.bool true) ∧ Step w w' := by
  obtain ⟨va1, ca, rfl, _, _, hla⟩ := Ty.slice_val ha
  obtain ⟨vb1, cb, rfl, _, _, hlb⟩ := Ty.slice_val hb
  rw [lim_eq] at hla hlb
  have HA : Hid (Ty.bytes.rep w (fun c => w.heap.size ≤ c) [.slice va1 a.length ca] a) := Lib.hid (Ty.bytes.keep ha (fun b hb _ => ⟨rfl, by omega⟩))
  have HB : Hid (Ty.bytes.rep w (fun c => w.heap.size ≤ c) [.slice vb1 b.length cb] b) := Lib.hid (Ty.bytes.keep hb (fun b hb _ => ⟨rfl, by omega⟩))
  clear ha hb
  by_cases hbig : 10000 < a.length + b.length
  · have hd : decide ((10000 : Int) < (a.length : Int) + (b.length : Int)) = true := decide_eq_true (by omega)
    go_enter Tryz.func4, Tryz.ntmps4
    go_wp2_with (go_at_call 10; refine (jAwake_ _).mono ?_; rintro e w1 ⟨rfl, hS1⟩; have HS1 : Hid (Step w w1) := Lib.hid (Step.trans (by (repeat (first | exact Step.refl _ | refine Step.alloc ?_ _ | refine Step.drew ?_ | refine Step.drewN ?_ _ | refine Step.setCell ?_ (by first | exact Nat.le_refl _ | assumption | omega | (simp; done) | (simp; omega)) _ | assumption | refine Step.trans ?_ (by assumption : Step _ _)))) hS1); clear hS1)
    go_ret
    exact ⟨rfl, HS1.out.trans (by (repeat (first | exact Step.refl _ | refine Step.alloc ?_ _ | refine Step.drew ?_ | refine Step.drewN ?_ _ | refine Step.setCell ?_ (by first | exact Nat.le_refl _ | assumption | omega | (simp; done) | (simp; omega)) _ | assumption | refine Step.trans ?_ (by assumption : Step _ _))))⟩
  · have hd : decide ((10000 : Int) < (a.length : Int) + (b.length : Int)) = false := decide_eq_false (by omega)
    have hA10 : Hid (∀ r ∈ [a], r.length ≤ 10000) := Lib.hid (by intro r hr; simp at hr; subst hr; omega)
    have hB10 : Hid (∀ r ∈ [a, b], r.length ≤ 10000) := Lib.hid (by intro r hr; simp at hr; rcases hr with rfl | rfl <;> omega)
    go_enter Tryz.func4, Tryz.ntmps4
    go_upto_region 7 with (first
      | (go_at_call 10; refine (jAwake_ _).mono ?_; rintro e w1 ⟨rfl, hS1⟩; have HS1 : Hid (Step w w1) := Lib.hid (Step.trans (by (repeat (first | exact Step.refl _ | refine Step.alloc ?_ _ | refine Step.drew ?_ | refine Step.drewN ?_ _ | refine Step.setCell ?_ (by first | exact Nat.le_refl _ | assumption | omega | (simp; done) | (simp; omega)) _ | assumption | refine Step.trans ?_ (by assumption : Step _ _)))) hS1); clear hS1)
      | (go_at_call 19; refine (Spare_ (Ty.step _ HA.out (HS1.out.trans (by (repeat (first | exact Step.refl _ | refine Step.alloc ?_ _ | refine Step.drew ?_ | refine Step.drewN ?_ _ | refine Step.setCell ?_ (by first | exact Nat.le_refl _ | assumption | omega | (simp; done) | (simp; omega)) _ | assumption | refine Step.trans ?_ (by assumption : Step _ _)))))) (by omega)).mono ?_; rintro e w2 ⟨g, rfl, hg2, hb2, hS2⟩; have HB2 := Lib.hid hb2; have HS2 : Hid (Step w w2) := Lib.hid (HS1.out.trans (Step.trans (by (repeat (first | exact Step.refl _ | refine Step.alloc ?_ _ | refine Step.drew ?_ | refine Step.drewN ?_ _ | refine Step.setCell ?_ (by first | exact Nat.le_refl _ | assumption | omega | (simp; done) | (simp; omega)) _ | assumption | refine Step.trans ?_ (by assumption : Step _ _)))) hS2)); clear hb2 hS2)
      | (go_at_call 11; refine (dNew_ _ 1048576).mono ?_; rintro e w3 ⟨rfl, hb3, hS3⟩; have HB3 := Lib.hid hb3; have HS3 : Hid (Step w2 w3) := Lib.hid (Step.trans (by (repeat (first | exact Step.refl _ | refine Step.alloc ?_ _ | refine Step.drew ?_ | refine Step.drewN ?_ _ | refine Step.setCell ?_ (by first | exact Nat.le_refl _ | assumption | omega | (simp; done) | (simp; omega)) _ | assumption | refine Step.trans ?_ (by assumption : Step _ _)))) hS3); clear hb3 hS3))
    have hgl : g < w2.heap.size := HB2.out.lt rfl
    have HW1 : Hid (w.heap.size ≤ g) := Lib.hid (Nat.le_trans (Nat.le_trans HS1.out.size (Step.size (by (repeat (first | exact Step.refl _ | refine Step.alloc ?_ _ | refine Step.drew ?_ | refine Step.drewN ?_ _ | refine Step.setCell ?_ (by first | exact Nat.le_refl _ | assumption | omega | (simp; done) | (simp; omega)) _ | assumption | refine Step.trans ?_ (by assumption : Step _ _)))))) hg2)
    have HOP : Hid (∀ W : World, Step w3 W → Calls Tryz.prog 12 #[.pointer (some ⟨w2.heap.size, 0, none⟩), encStr [119, 46], .int .i64 64] W fun e w' => ∃ l M', e = .returned (.tuple #[.pointer (some ⟨l, 0, none⟩), .int .i64 0]) ∧ Step W w' ∧ Sess [119, 46] w' M' (fun c => c = g) w2.heap.size l (DDr.new 1048576) ⟨max 1 64, [], true⟩ [] 0 ∧ (∀ c, M' c → w.heap.size ≤ c)) := Lib.hid (fun W hW => by
      have hz := HS3.out.size
      have hz2 := hW.size
      have hz0 := HS2.out.size
      have hgw := HW1.out
      refine (Sess.open0Z (Z := fun c => c = g) (CellsAt.step HB3.out hW) (by rintro c rfl; exact ⟨by omega, by omega⟩) (by omega) (by unfold I64; omega) (by simp)).mono ?_
      rintro e w' ⟨l, M', he, h1, _, h2, h3⟩
      refine ⟨l, M', he, h1, h2, fun c hc => ?_⟩
      rcases Nat.lt_or_ge c W.heap.size with h | h
      · rcases h3 c h hc with h | h <;> omega
      · omega)
    go_upto_region 10 with (go_at_call 12; refine (HOP.out _ (by (repeat (first | exact Step.refl _ | refine Step.alloc ?_ _ | refine Step.drew ?_ | refine Step.drewN ?_ _ | refine Step.setCell ?_ (by first | exact Nat.le_refl _ | assumption | omega | (simp; done) | (simp; omega)) _ | assumption | refine Step.trans ?_ (by assumption : Step _ _))))).mono ?_; rintro e w4 ⟨l, M4, rfl, hS4, hse4, hm4⟩; have HS4 : Hid (Step w2 w4) := Lib.hid (HS3.out.trans (Step.trans (by (repeat (first | exact Step.refl _ | refine Step.alloc ?_ _ | refine Step.drew ?_ | refine Step.drewN ?_ _ | refine Step.setCell ?_ (by first | exact Nat.le_refl _ | assumption | omega | (simp; done) | (simp; omega)) _ | assumption | refine Step.trans ?_ (by assumption : Step _ _)))) hS4)); have HSE4 := Lib.hid hse4; have HM4 := Lib.hid hm4; clear hS4 hse4 hm4)
    clear HOP HB3
    have HX4 : Hid (BR 5 w4 (.slice (some ⟨g, 0, none⟩) a.length (a.length + 33)) a) := Lib.hid ((HB2.out.pre (spareB_pre a)).step HS4.out)
    have HF4 : Hid (BR 5 w4 (.slice (some ⟨g, 0, none⟩) (a.length + 33) (a.length + 33)) (spareB a)) := Lib.hid (HB2.out.step HS4.out)
    have HS40 : Hid (Step w w4) := Lib.hid (HS2.out.trans HS4.out)
    clear HB2 HS3
    have HAP1 : Hid (∀ (W : World) (rv : Value), Step w4 W → (Ty.slice Ty.bytes).rep W (fun _ => False) [rv] [a] → Calls Tryz.prog 14 #[.pointer (some ⟨l, 0, none⟩), rv] W fun e w' => ∃ M5 D5 L5 rss5, e = .returned (.tuple #[.int .u64 0, .int .i64 0]) ∧ Sess [119, 46] w' M5 (fun c => c = g) w2.heap.size l D5 L5 rss5 1 ∧ Turn (fun c => M4 c ∧ ¬ c = g) W w' ∧ (∀ c, c < W.heap.size → M5 c → M4 c) ∧ usedB D5.seen ≤ 200000 ∧ D5.room = 1048576 ∧ rss5.flatten = [a]) := Lib.hid (fun W rv hW hrv => by
      have h1 := HSE4.out.step hW
      have h2 := h1.data10k (recs := [a]) (by omega) hA10.out (by simp)
      refine (Sess.appendOk h1 (by simp) (by omega) hrv (fun r hr => by have := hA10.out r hr; omega) (by simp) (by omega) (by show ((0 + _ : Nat) : Int) ≤ max 0 1048576; omega)).mono ?_
      rintro e w' ⟨M5, D5, L5, rss5, he, h3, h4, h5, h6, h7, h8⟩
      have h9 : usedB (DDr.new 1048576).seen = 0 := rfl
      exact ⟨M5, D5, L5, rss5, he, h3, h4, h5, by omega, by rw [h7]; rfl, by rw [h8]; rfl⟩)
    go_upto_region 11 with (go_at_call 14; refine (HAP1.out _ _ (by (repeat (first | exact Step.refl _ | refine Step.alloc ?_ _ | refine Step.drew ?_ | refine Step.drewN ?_ _ | refine Step.setCell ?_ (by first | exact Nat.le_refl _ | assumption | omega | (simp; done) | (simp; omega)) _ | assumption | refine Step.trans ?_ (by assumption : Step _ _)))) (list_lit1 rfl (HX4.out.rep (fun _ _ h => h)))).mono ?_; rintro e w5 ⟨M5, D5, L5, rss5, rfl, hse5, hT5, hle5, hu5, hro5, hr5⟩; have HT5 : Hid (Turn (fun c => M4 c ∧ ¬ c = g) w4 w5) := Lib.hid ((Turn.of (by (repeat (first | exact Step.refl _ | refine Step.alloc ?_ _ | refine Step.drew ?_ | refine Step.drewN ?_ _ | refine Step.setCell ?_ (by first | exact Nat.le_refl _ | assumption | omega | (simp; done) | (simp; omega)) _ | assumption | refine Step.trans ?_ (by assumption : Step _ _))))).trans hT5); have HM5 : Hid (∀ c, M5 c → w.heap.size ≤ c) := Lib.hid (fun c hc => (Nat.lt_or_ge c _).elim (fun h => HM4.out c (hle5 c h hc)) (fun h => Nat.le_trans (Nat.le_trans HS40.out.size (Step.size (by (repeat (first | exact Step.refl _ | refine Step.alloc ?_ _ | refine Step.drew ?_ | refine Step.drewN ?_ _ | refine Step.setCell ?_ (by first | exact Nat.le_refl _ | assumption | omega | (simp; done) | (simp; omega)) _ | assumption | refine Step.trans ?_ (by assumption : Step _ _)))))) h)); have HSE5 := Lib.hid hse5; have HU5 := Lib.hid hu5; have HRO5 := Lib.hid hro5; have HR5 := Lib.hid hr5; clear hse5 hT5 hle5 hu5 hro5 hr5)
    clear HAP1 HSE4
    have HS50 : Hid (Step w w5) := Lib.hid (Turn.step HS40.out HT5.out (fun c hc => HM4.out c hc.1))
    have HX5 : Hid (BR 5 w5 (.slice (some ⟨g, 0, none⟩) a.length (a.length + 33)) a) := Lib.hid (HX4.out.turn HT5.out (fun k hk hm => hm.2 (by simpa [Value.ownBlock] using hk.symm)))
    have HF5 : Hid (BR 5 w5 (.slice (some ⟨g, 0, none⟩) (a.length + 33) (a.length + 33)) (spareB a)) := Lib.hid (HF4.out.turn HT5.out (fun k hk hm => hm.2 (by simpa [Value.ownBlock] using hk.symm)))
    clear HX4 HF4 HT5
    have HAP2 : Hid (∀ (W : World) (rv : Value), Step w5 W → (Ty.slice Ty.bytes).rep W (fun _ => False) [rv] [a, b] → Calls Tryz.prog 14 #[.pointer (some ⟨l, 0, none⟩), rv] W fun e w' => ∃ M6 D6 L6 rss6, e = .returned (.tuple #[.int .u64 1, .int .i64 0]) ∧ Sess [119, 46] w' M6 (fun c => c = g) w2.heap.size l D6 L6 rss6 2 ∧ Turn (fun c => M5 c ∧ ¬ c = g) W w' ∧ (∀ c, c < W.heap.size → M6 c → M5 c) ∧ rss6.flatten = [a, a, b]) := Lib.hid (fun W rv hW hrv => by
      have h1 := HSE5.out.step hW
      have h2 := h1.data10k (recs := [a, b]) (by omega) hB10.out (by simp)
      have h0 := HRO5.out
      have h02 := HU5.out
      refine (Sess.appendOk h1 (by simp) (by omega) hrv (fun r hr => by have := hB10.out r hr; omega) (by simp) (by omega) (by rw [h0]; omega)).mono ?_
      rintro e w' ⟨M6, D6, L6, rss6, he, h3, h4, h5, h6, h7, h8⟩
      rw [HR5.out] at he h8
      exact ⟨M6, D6, L6, rss6, he, h3, h4, h5, h8⟩)
    go_upto_region 12 with (go_at_call 14; refine (HAP2.out _ _ (by (repeat (first | exact Step.refl _ | refine Step.alloc ?_ _ | refine Step.drew ?_ | refine Step.drewN ?_ _ | refine Step.setCell ?_ (by first | exact Nat.le_refl _ | assumption | omega | (simp; done) | (simp; omega)) _ | assumption | refine Step.trans ?_ (by assumption : Step _ _)))) (list_lit2 rfl (HX5.out.rep (fun _ _ h => h)) (Ty.less _ (Ty.step _ HB.out HS50.out) (fun _ _ h => h.elim)))).mono ?_; rintro e w6 ⟨M6, D6, L6, rss6, rfl, hse6, hT6, hle6, hr6⟩; have HT6 : Hid (Turn (fun c => M5 c ∧ ¬ c = g) w5 w6) := Lib.hid ((Turn.of (by (repeat (first | exact Step.refl _ | refine Step.alloc ?_ _ | refine Step.drew ?_ | refine Step.drewN ?_ _ | refine Step.setCell ?_ (by first | exact Nat.le_refl _ | assumption | omega | (simp; done) | (simp; omega)) _ | assumption | refine Step.trans ?_ (by assumption : Step _ _))))).trans hT6); have HM6 : Hid (∀ c, M6 c → w.heap.size ≤ c) := Lib.hid (fun c hc => (Nat.lt_or_ge c _).elim (fun h => HM5.out c (hle6 c h hc)) (fun h => Nat.le_trans (Nat.le_trans HS50.out.size (Step.size (by (repeat (first | exact Step.refl _ | refine Step.alloc ?_ _ | refine Step.drew ?_ | refine Step.drewN ?_ _ | refine Step.setCell ?_ (by first | exact Nat.le_refl _ | assumption | omega | (simp; done) | (simp; omega)) _ | assumption | refine Step.trans ?_ (by assumption : Step _ _)))))) h)); have HSE6 := Lib.hid hse6; have HR6 := Lib.hid hr6; clear hse6 hT6 hle6 hr6)
    clear HAP2 HSE5 HU5 HRO5 HR5
    have HS60 : Hid (Step w w6) := Lib.hid (Turn.step HS50.out HT6.out (fun c hc => HM5.out c hc.1))
    have HX6 : Hid (BR 5 w6 (.slice (some ⟨g, 0, none⟩) a.length (a.length + 33)) a) := Lib.hid (HX5.out.turn HT6.out (fun k hk hm => hm.2 (by simpa [Value.ownBlock] using hk.symm)))
    have HF6 : Hid (BR 5 w6 (.slice (some ⟨g, 0, none⟩) (a.length + 33) (a.length + 33)) (spareB a)) := Lib.hid (HF5.out.turn HT6.out (fun k hk hm => hm.2 (by simpa [Value.ownBlock] using hk.symm)))
    clear HX5 HF5 HT6
    go_upto_region 15 with (first
      | (go_at_call 20; refine (Kept_ ((HF6.out.step (by (repeat (first | exact Step.refl _ | refine Step.alloc ?_ _ | refine Step.drew ?_ | refine Step.drewN ?_ _ | refine Step.setCell ?_ (by first | exact Nat.le_refl _ | assumption | omega | (simp; done) | (simp; omega)) _ | assumption | refine Step.trans ?_ (by assumption : Step _ _))))).rep (M := fun _ => False) (fun _ _ h => h)) (Ty.step _ HA.out (HS60.out.trans (by (repeat (first | exact Step.refl _ | refine Step.alloc ?_ _ | refine Step.drew ?_ | refine Step.drewN ?_ _ | refine Step.setCell ?_ (by first | exact Nat.le_refl _ | assumption | omega | (simp; done) | (simp; omega)) _ | assumption | refine Step.trans ?_ (by assumption : Step _ _)))))) (by omega)).mono ?_; rintro e w7 ⟨rfl, hS7⟩; have HS7 : Hid (Step w6 w7) := Lib.hid (Step.trans (by (repeat (first | exact Step.refl _ | refine Step.alloc ?_ _ | refine Step.drew ?_ | refine Step.drewN ?_ _ | refine Step.setCell ?_ (by first | exact Nat.le_refl _ | assumption | omega | (simp; done) | (simp; omega)) _ | assumption | refine Step.trans ?_ (by assumption : Step _ _)))) hS7); clear hS7)
      | (go_at_call 21; refine (Over_ (HX6.out.step (HS7.out.trans (by (repeat (first | exact Step.refl _ | refine Step.alloc ?_ _ | refine Step.drew ?_ | refine Step.drewN ?_ _ | refine Step.setCell ?_ (by first | exact Nat.le_refl _ | assumption | omega | (simp; done) | (simp; omega)) _ | assumption | refine Step.trans ?_ (by assumption : Step _ _))))))).mono ?_; rintro e w8 ⟨rfl, hR8, hT8⟩; obtain ⟨fs8, hl8, hb8⟩ := hR8 _ _ (HF6.out.step (HS7.out.trans (by (repeat (first | exact Step.refl _ | refine Step.alloc ?_ _ | refine Step.drew ?_ | refine Step.drewN ?_ _ | refine Step.setCell ?_ (by first | exact Nat.le_refl _ | assumption | omega | (simp; done) | (simp; omega)) _ | assumption | refine Step.trans ?_ (by assumption : Step _ _)))))); have HF8 := Lib.hid hb8; have HL8 : Hid (fs8.length = a.length + 33) := Lib.hid (hl8.trans spareB_len); have HT8 : Hid (Turn (fun c => c = g) w6 w8) := Lib.hid ((Turn.of (HS7.out.trans (by (repeat (first | exact Step.refl _ | refine Step.alloc ?_ _ | refine Step.drew ?_ | refine Step.drewN ?_ _ | refine Step.setCell ?_ (by first | exact Nat.le_refl _ | assumption | omega | (simp; done) | (simp; omega)) _ | assumption | refine Step.trans ?_ (by assumption : Step _ _)))))).trans (hT8.mono (fun c _ hc => by simpa [Value.ownBlock] using hc.symm))); clear hR8 hT8 hl8 hb8))
    have HS80 : Hid (Step w w8) := Lib.hid (Turn.step HS60.out HT8.out (fun c hc => by rw [hc]; exact HW1.out))
    have HSE8 : Hid (Sess [119, 46] w8 (fun c => M6 c ∨ c = g) (fun c => c = g) w2.heap.size l D6 L6 rss6 2) := Lib.hid (HSE6.out.turnZ HT8.out.kept HT8.out.size (fun c hc => .inl hc))
    clear HSE6 HX6 HF6 HT8
    have hg8 : g < w8.heap.size := HF8.out.lt rfl
    have HRC : Hid (∀ W : World, Step w8 W → Calls Tryz.prog 16 #[.pointer (some ⟨l, 0, none⟩), .int .u64 0, .int .u64 3] W fun e w' => ∃ v ds, e = .returned (.tuple #[v, .int .i64 0]) ∧ Gr.Own (tGB 5) 40 w' (· < W.heap.size) W.heap.size v ds ∧ Step W w' ∧ ds.map Prod.fst = [a, a, b] ∧ ApartD ds) := Lib.hid (fun W hW => by
      have h := Sess.records (HSE8.out.step hW) (by simp) (by omega)
      rw [HR6.out] at h
      refine h.mono ?_
      rintro e w' ⟨v, ds, h1, h2, h3, h4, h5⟩
      exact ⟨v, ds, h1, h2, h3, h4.out, h5⟩)
    go_upto_region 16 with (go_at_call 16; refine (HRC.out _ (by (repeat (first | exact Step.refl _ | refine Step.alloc ?_ _ | refine Step.drew ?_ | refine Step.drewN ?_ _ | refine Step.setCell ?_ (by first | exact Nat.le_refl _ | assumption | omega | (simp; done) | (simp; omega)) _ | assumption | refine Step.trans ?_ (by assumption : Step _ _))))).mono ?_; rintro e w9 ⟨v9, ds9, rfl, hO9, hS9, hm9, hap9⟩; have hge9 := Step.size (show Step w8 _ from by (repeat (first | exact Step.refl _ | refine Step.alloc ?_ _ | refine Step.drew ?_ | refine Step.drewN ?_ _ | refine Step.setCell ?_ (by first | exact Nat.le_refl _ | assumption | omega | (simp; done) | (simp; omega)) _ | assumption | refine Step.trans ?_ (by assumption : Step _ _)))); obtain ⟨g9, cp9, u0, u1, u2, rfl, hB9, hlt9, q0, q1, q2, b0, b1, b2, hpw9, hin9⟩ := tri_open hO9 hm9 hap9; have HS9 : Hid (Step w8 w9) := Lib.hid (Step.trans (by (repeat (first | exact Step.refl _ | refine Step.alloc ?_ _ | refine Step.drew ?_ | refine Step.drewN ?_ _ | refine Step.setCell ?_ (by first | exact Nat.le_refl _ | assumption | omega | (simp; done) | (simp; omega)) _ | assumption | refine Step.trans ?_ (by assumption : Step _ _)))) hS9); have HPW9 := Lib.hid hpw9; have HIN9 : Hid (∀ u ∈ [u0, u1, u2], ∀ k, u.ownBlock = some k → w8.heap.size ≤ k ∧ k < w9.heap.size ∧ k ≠ g9) := Lib.hid (fun u hu k hk => ⟨Nat.le_trans hge9 (hin9 u hu k hk).1, (hin9 u hu k hk).2⟩); have HB0 := Lib.hid b0; have HB1 := Lib.hid b1; have HB2 := Lib.hid b2; clear hO9 hS9 hm9 hap9 hpw9 hin9 b0 b1 b2)
    go_upto_region 17 with (go_at_call 16; refine (HRC.out _ (HS9.out.trans (by (repeat (first | exact Step.refl _ | refine Step.alloc ?_ _ | refine Step.drew ?_ | refine Step.drewN ?_ _ | refine Step.setCell ?_ (by first | exact Nat.le_refl _ | assumption | omega | (simp; done) | (simp; omega)) _ | assumption | refine Step.trans ?_ (by assumption : Step _ _)))))).mono ?_; rintro e w10 ⟨v10, ds10, rfl, hO10, hS10, hm10, hap10⟩; have hge10 := Step.size (show Step w9 _ from by (repeat (first | exact Step.refl _ | refine Step.alloc ?_ _ | refine Step.drew ?_ | refine Step.drewN ?_ _ | refine Step.setCell ?_ (by first | exact Nat.le_refl _ | assumption | omega | (simp; done) | (simp; omega)) _ | assumption | refine Step.trans ?_ (by assumption : Step _ _)))); obtain ⟨g10, cp10, t0, t1, t2, rfl, hB10', hlt10, r0, r1, r2, b0, b1, b2, hpw10, hin10⟩ := tri_open hO10 hm10 hap10; have HS10 : Hid (Step w9 w10) := Lib.hid (Step.trans (by (repeat (first | exact Step.refl _ | refine Step.alloc ?_ _ | refine Step.drew ?_ | refine Step.drewN ?_ _ | refine Step.setCell ?_ (by first | exact Nat.le_refl _ | assumption | omega | (simp; done) | (simp; omega)) _ | assumption | refine Step.trans ?_ (by assumption : Step _ _)))) hS10); have HPW10 := Lib.hid hpw10; have HIN10 : Hid (∀ u ∈ [t0, t1, t2], ∀ k, u.ownBlock = some k → w9.heap.size ≤ k ∧ k < w10.heap.size ∧ k ≠ g10) := Lib.hid (fun u hu k hk => ⟨Nat.le_trans hge10 (hin10 u hu k hk).1, (hin10 u hu k hk).2⟩); have HC0 := Lib.hid b0; have HC1 := Lib.hid b1; have HC2 := Lib.hid b2; clear hO10 hS10 hm10 hap10 hpw10 hin10 b0 b1 b2)
    obtain ⟨x0, y0, rfl⟩ := HB0.out.val
    obtain ⟨x1, y1, rfl⟩ := HB1.out.val
    obtain ⟨x2, y2, rfl⟩ := HB2.out.val
    obtain ⟨x3, y3, rfl⟩ := HC0.out.val
    obtain ⟨x4, y4, rfl⟩ := HC1.out.val
    obtain ⟨x5, y5, rfl⟩ := HC2.out.val
    have HSA : Hid (Step w w10) := Lib.hid ((HS80.out.trans HS9.out).trans HS10.out)
    have p0 : w10.cell? ⟨g9, 0, none⟩ = some (.slice x0 a.length y0) := (HS10.out.cell hlt9 0).trans q0
    have p1 : w10.cell? ⟨g9, 1, none⟩ = some (.slice x1 a.length y1) := (HS10.out.cell hlt9 1).trans q1
    have p2 : w10.cell? ⟨g9, 2, none⟩ = some (.slice x2 b.length y2) := (HS10.out.cell hlt9 2).trans q2
    clear q0 q1 q2
    have hz10 : w9.heap.size ≤ w10.heap.size := HS10.out.size
    have hz9 : w8.heap.size ≤ w9.heap.size := HS9.out.size
    have hg99 : g9 < w10.heap.size := by omega
    go_upto_region 19 with (first
      | (go_at_call 22; refine (Equal_ (xs := a) (ys := a) ((HB0.out.step (HS10.out.trans (by (repeat (first | exact Step.refl _ | refine Step.alloc ?_ _ | refine Step.drew ?_ | refine Step.drewN ?_ _ | refine Step.setCell ?_ (by first | exact Nat.le_refl _ | assumption | omega | (simp; done) | (simp; omega)) _ | assumption | refine Step.trans ?_ (by assumption : Step _ _)))))).rep (M := fun _ => False) (fun _ _ h => h)) (Ty.step _ HA.out (HSA.out.trans (by (repeat (first | exact Step.refl _ | refine Step.alloc ?_ _ | refine Step.drew ?_ | refine Step.drewN ?_ _ | refine Step.setCell ?_ (by first | exact Nat.le_refl _ | assumption | omega | (simp; done) | (simp; omega)) _ | assumption | refine Step.trans ?_ (by assumption : Step _ _))))))).mono ?_; rintro e wE ⟨rfl, nE, rfl⟩; rw [decide_eq_true (rfl : a = a)])
      | (go_at_call 22; refine (Equal_ (xs := a) (ys := a) ((HB1.out.step (HS10.out.trans (by (repeat (first | exact Step.refl _ | refine Step.alloc ?_ _ | refine Step.drew ?_ | refine Step.drewN ?_ _ | refine Step.setCell ?_ (by first | exact Nat.le_refl _ | assumption | omega | (simp; done) | (simp; omega)) _ | assumption | refine Step.trans ?_ (by assumption : Step _ _)))))).rep (M := fun _ => False) (fun _ _ h => h)) (Ty.step _ HA.out (HSA.out.trans (by (repeat (first | exact Step.refl _ | refine Step.alloc ?_ _ | refine Step.drew ?_ | refine Step.drewN ?_ _ | refine Step.setCell ?_ (by first | exact Nat.le_refl _ | assumption | omega | (simp; done) | (simp; omega)) _ | assumption | refine Step.trans ?_ (by assumption : Step _ _))))))).mono ?_; rintro e wE ⟨rfl, nE, rfl⟩; rw [decide_eq_true (rfl : a = a)])
      | (go_at_call 22; refine (Equal_ (xs := b) (ys := b) ((HB2.out.step (HS10.out.trans (by (repeat (first | exact Step.refl _ | refine Step.alloc ?_ _ | refine Step.drew ?_ | refine Step.drewN ?_ _ | refine Step.setCell ?_ (by first | exact Nat.le_refl _ | assumption | omega | (simp; done) | (simp; omega)) _ | assumption | refine Step.trans ?_ (by assumption : Step _ _)))))).rep (M := fun _ => False) (fun _ _ h => h)) (Ty.step _ HB.out (HSA.out.trans (by (repeat (first | exact Step.refl _ | refine Step.alloc ?_ _ | refine Step.drew ?_ | refine Step.drewN ?_ _ | refine Step.setCell ?_ (by first | exact Nat.le_refl _ | assumption | omega | (simp; done) | (simp; omega)) _ | assumption | refine Step.trans ?_ (by assumption : Step _ _))))))).mono ?_; rintro e wE ⟨rfl, nE, rfl⟩; rw [decide_eq_true (rfl : b = b)]))
    obtain ⟨vs, hvs⟩ : ∃ vs : List Value, vs = [.slice (some ⟨g, 0, none⟩) (a.length + 33) (a.length + 33), .slice x0 a.length y0, .slice x1 a.length y1, .slice x2 b.length y2, .slice x3 a.length y3, .slice x4 a.length y4, .slice x5 b.length y5] := ⟨_, rfl⟩
    have HOM : Hid (∀ c, ownM vs c → c = g ∨ w8.heap.size ≤ c ∧ c < w10.heap.size) := Lib.hid (by
      rintro c ⟨j, hj, hc⟩
      have hmem := List.getElem_mem hj
      generalize vs[j] = u at *
      rw [hvs] at hmem
      simp only [List.mem_cons, List.not_mem_nil, or_false] at hmem
      rcases hmem with rfl | rfl | rfl | rfl | rfl | rfl | rfl
      · left; simpa [Value.ownBlock] using hc.symm
      · have := HIN9.out _ (by simp) c hc; right; omega
      · have := HIN9.out _ (by simp) c hc; right; omega
      · have := HIN9.out _ (by simp) c hc; right; omega
      · have := HIN10.out _ (by simp) c hc; right; omega
      · have := HIN10.out _ (by simp) c hc; right; omega
      · have := HIN10.out _ (by simp) c hc; right; omega)
    have HAPT : Hid (Apt vs) := Lib.hid (apt_of (by
      rw [hvs]
      have e : ∀ (l1 l2 : List Value) (x : Value), (x :: (l1 ++ l2)).map Value.ownBlock = x.ownBlock :: (l1.map Value.ownBlock ++ l2.map Value.ownBlock) := fun l1 l2 x => by simp
      rw [show [Value.slice (some ⟨g, 0, none⟩) (a.length + 33) (a.length + 33), .slice x0 a.length y0, .slice x1 a.length y1, .slice x2 b.length y2, .slice x3 a.length y3, .slice x4 a.length y4, .slice x5 b.length y5] = Value.slice (some ⟨g, 0, none⟩) (a.length + 33) (a.length + 33) :: ([.slice x0 a.length y0, .slice x1 a.length y1, .slice x2 b.length y2] ++ [.slice x3 a.length y3, .slice x4 a.length y4, .slice x5 b.length y5]) from rfl, e]
      refine List.pairwise_cons.2 ⟨fun y hy k hk hyk => ?_, List.pairwise_append.2 ⟨HPW9.out, HPW10.out, fun y hy y2 hy2 k hk hyk => ?_⟩⟩
      · obtain rfl : g = k := by simpa [Value.ownBlock] using hk
        rcases List.mem_append.1 hy with h | h
        · obtain ⟨u, hu, rfl⟩ := List.mem_map.1 h
          have := HIN9.out u hu g hyk; omega
        · obtain ⟨u, hu, rfl⟩ := List.mem_map.1 h
          have := HIN10.out u hu g hyk; omega
      · obtain ⟨u, hu, rfl⟩ := List.mem_map.1 hy
        obtain ⟨u2, hu2, rfl⟩ := List.mem_map.1 hy2
        have h1 := HIN9.out u hu k hk
        have h2 := HIN10.out u2 hu2 k hyk
        omega))
    have HROW : Hid (∀ W : World, Step w10 W → ∀ j (hj : j < vs.length), ∃ ys : List UInt8, ys.length = [a.length + 33, a.length, a.length, b.length, a.length, a.length, b.length].getD j 0 ∧ BR 5 W vs[j] ys) := Lib.hid (fun W hW => by
      subst hvs
      intro j hj
      rcases j with _ | _ | _ | _ | _ | _ | _ | j
      · exact ⟨fs8, HL8.out, HF8.out.step ((HS9.out.trans HS10.out).trans hW)⟩
      · exact ⟨a, rfl, HB0.out.step (HS10.out.trans hW)⟩
      · exact ⟨a, rfl, HB1.out.step (HS10.out.trans hW)⟩
      · exact ⟨b, rfl, HB2.out.step (HS10.out.trans hW)⟩
      · exact ⟨a, rfl, HC0.out.step hW⟩
      · exact ⟨a, rfl, HC1.out.step hW⟩
      · exact ⟨b, rfl, HC2.out.step hW⟩
      · simp at hj; omega)
    have hNm : ∀ j, [a.length + 33, a.length, a.length, b.length, a.length, a.length, b.length].getD j 0 ≤ 8589934592 := fun j => by
      rcases j with _ | _ | _ | _ | _ | _ | _ | j <;> simp <;> omega
    have HSZ : Hid (Sess [119, 46] w10 (fun c => (M6 c ∨ c = g) ∨ (c = g ∨ w8.heap.size ≤ c ∧ c < w10.heap.size)) (fun c => c = g ∨ w8.heap.size ≤ c ∧ c < w10.heap.size) w2.heap.size l D6 L6 rss6 2) := Lib.hid (HSE8.out.turnZ (Kept.step (HS9.out.trans HS10.out)) (by omega) (fun c hc => hc))
    subst hvs
    clear HSE8 HRC HB0 HB1 HB2 HC0 HC1 HC2 HPW9 HPW10 HIN9 HIN10 HF8 HL8
    refine wp_region_cut (S := (fun w' => w'.cell? ⟨g9, 0, none⟩ = some (.slice x0 a.length y0) ∧ w'.cell? ⟨g9, 1, none⟩ = some (.slice x1 a.length y1) ∧ w'.cell? ⟨g9, 2, none⟩ = some (.slice x2 b.length y2) ∧ w'.cell? ⟨g10, 0, none⟩ = some (.slice x3 a.length y3) ∧ w'.cell? ⟨g10, 1, none⟩ = some (.slice x4 a.length y4) ∧ w'.cell? ⟨g10, 2, none⟩ = some (.slice x5 b.length y5))) 20 (by kernel_rfl) ?_ (fun hHeld => ?_)
    · (go_keep)
    refine wpAnyC_take (i := 0) (v := ?_) rfl (by kernel_rfl) (by kernel_rfl) (by kernel_rfl) (by decide) [19, 20, 21] (by kernel_rfl) (fun _ _ _ h => h) (Or.inl ⟨by rfl, ?_⟩) (by assumption) ?_
    rotate_left 1
    · (intro w hSw; (try dsimp only at hSw); go_simp; (try with_reducible rfl))
    try simp only [Act.put, List.getElem_toArray, List.getElem_cons_succ, List.getElem_cons_zero, List.setIfInBounds_toArray, List.set_cons_zero, List.set_cons_succ]
    refine wpAnyC_take (i := 1) (v := ?_) rfl (by kernel_rfl) (by kernel_rfl) (by kernel_rfl) (by decide) [2, 3, 19, 20, 21] (by kernel_rfl) (fun _ _ _ h => h) (Or.inl ⟨by rfl, ?_⟩) (by assumption) ?_
    rotate_left 1
    · (intro w hSw; (try dsimp only at hSw); go_simp; (try with_reducible rfl))
    try simp only [Act.put, List.getElem_toArray, List.getElem_cons_succ, List.getElem_cons_zero, List.setIfInBounds_toArray, List.set_cons_zero, List.set_cons_succ]
    refine wpAnyC_take (i := 2) (v := ?_) rfl (by kernel_rfl) (by kernel_rfl) (by kernel_rfl) (by decide) [3, 19, 20, 21] (by kernel_rfl) (fun _ _ _ h => h) (Or.inl ⟨by rfl, ?_⟩) (by assumption) ?_
    rotate_left 1
    · (intro w hSw; (try dsimp only at hSw); go_simp; (try with_reducible rfl))
    try simp only [Act.put, List.getElem_toArray, List.getElem_cons_succ, List.getElem_cons_zero, List.setIfInBounds_toArray, List.set_cons_zero, List.set_cons_succ]
    refine wpAnyC_take (i := 3) (v := ?_) rfl (by kernel_rfl) (by kernel_rfl) (by kernel_rfl) (by decide) [19, 20, 21] (by kernel_rfl) (fun _ _ _ h => h) (Or.inl ⟨by rfl, ?_⟩) (by assumption) ?_
    rotate_left 1
    · (intro w hSw; (try dsimp only at hSw); go_simp; (try with_reducible rfl))
    try simp only [Act.put, List.getElem_toArray, List.getElem_cons_succ, List.getElem_cons_zero, List.setIfInBounds_toArray, List.set_cons_zero, List.set_cons_succ]
    refine wpAnyC_take (i := 4) (v := ?_) rfl (by kernel_rfl) (by kernel_rfl) (by kernel_rfl) (by decide) [5, 6, 19, 20, 21] (by kernel_rfl) (fun _ _ _ h => h) (Or.inl ⟨by rfl, ?_⟩) (by assumption) ?_
    rotate_left 1
    · (intro w hSw; (try dsimp only at hSw); go_simp; (try with_reducible rfl))
    try simp only [Act.put, List.getElem_toArray, List.getElem_cons_succ, List.getElem_cons_zero, List.setIfInBounds_toArray, List.set_cons_zero, List.set_cons_succ]
    refine wpAnyC_take (i := 5) (v := ?_) rfl (by kernel_rfl) (by kernel_rfl) (by kernel_rfl) (by decide) [6, 19, 20, 21] (by kernel_rfl) (fun _ _ _ h => h) (Or.inl ⟨by rfl, ?_⟩) (by assumption) ?_
    rotate_left 1
    · (intro w hSw; (try dsimp only at hSw); go_simp; (try with_reducible rfl))
    try simp only [Act.put, List.getElem_toArray, List.getElem_cons_succ, List.getElem_cons_zero, List.setIfInBounds_toArray, List.set_cons_zero, List.set_cons_succ]
    refine wpAnyC_take (i := 6) (v := ?_) rfl (by kernel_rfl) (by kernel_rfl) (by kernel_rfl) (by decide) [19, 20, 21] (by kernel_rfl) (fun _ _ _ h => h) (Or.inl ⟨by rfl, ?_⟩) (by assumption) ?_
    rotate_left 1
    · (intro w hSw; (try dsimp only at hSw); go_simp; (try with_reducible rfl))
    try simp only [Act.put, List.getElem_toArray, List.getElem_cons_succ, List.getElem_cons_zero, List.setIfInBounds_toArray, List.set_cons_zero, List.set_cons_succ]
    refine wpAnyC_take (i := 7) (v := ?_) rfl (by kernel_rfl) (by kernel_rfl) (by kernel_rfl) (by decide) [8, 9, 19, 20, 21] (by kernel_rfl) (fun _ _ _ h => h) (Or.inl ⟨by rfl, ?_⟩) (by assumption) ?_
    rotate_left 1
    · (intro w hSw; (try dsimp only at hSw); go_simp; (try with_reducible rfl))
    try simp only [Act.put, List.getElem_toArray, List.getElem_cons_succ, List.getElem_cons_zero, List.setIfInBounds_toArray, List.set_cons_zero, List.set_cons_succ]
    refine wpAnyC_take (i := 8) (v := ?_) rfl (by kernel_rfl) (by kernel_rfl) (by kernel_rfl) (by decide) [9, 19, 20, 21] (by kernel_rfl) (fun _ _ _ h => h) (Or.inl ⟨by rfl, ?_⟩) (by assumption) ?_
    rotate_left 1
    · (intro w hSw; (try dsimp only at hSw); go_simp; (try with_reducible rfl))
    try simp only [Act.put, List.getElem_toArray, List.getElem_cons_succ, List.getElem_cons_zero, List.setIfInBounds_toArray, List.set_cons_zero, List.set_cons_succ]
    refine wpAnyC_take (i := 9) (v := ?_) rfl (by kernel_rfl) (by kernel_rfl) (by kernel_rfl) (by decide) [19, 20, 21] (by kernel_rfl) (fun _ _ _ h => h) (Or.inl ⟨by rfl, ?_⟩) (by assumption) ?_
    rotate_left 1
    · (intro w hSw; (try dsimp only at hSw); go_simp; (try with_reducible rfl))
    try simp only [Act.put, List.getElem_toArray, List.getElem_cons_succ, List.getElem_cons_zero, List.setIfInBounds_toArray, List.set_cons_zero, List.set_cons_succ]
    refine wpAnyC_take (i := 10) (v := ?_) rfl (by kernel_rfl) (by kernel_rfl) (by kernel_rfl) (by decide) [11, 12, 19, 20, 21] (by kernel_rfl) (fun _ _ _ h => h) (Or.inl ⟨by rfl, ?_⟩) (by assumption) ?_
    rotate_left 1
    · (intro w hSw; (try dsimp only at hSw); go_simp; (try with_reducible rfl))
    try simp only [Act.put, List.getElem_toArray, List.getElem_cons_succ, List.getElem_cons_zero, List.setIfInBounds_toArray, List.set_cons_zero, List.set_cons_succ]
    refine wpAnyC_take (i := 11) (v := ?_) rfl (by kernel_rfl) (by kernel_rfl) (by kernel_rfl) (by decide) [12, 19, 20, 21] (by kernel_rfl) (fun _ _ _ h => h) (Or.inl ⟨by rfl, ?_⟩) (by assumption) ?_
    rotate_left 1
    · (intro w hSw; (try dsimp only at hSw); go_simp; (try with_reducible rfl))
    try simp only [Act.put, List.getElem_toArray, List.getElem_cons_succ, List.getElem_cons_zero, List.setIfInBounds_toArray, List.set_cons_zero, List.set_cons_succ]
    refine wpAnyC_take (i := 12) (v := ?_) rfl (by kernel_rfl) (by kernel_rfl) (by kernel_rfl) (by decide) [19, 20, 21] (by kernel_rfl) (fun _ _ _ h => h) (Or.inl ⟨by rfl, ?_⟩) (by assumption) ?_
    rotate_left 1
    · (intro w hSw; (try dsimp only at hSw); go_simp; (try with_reducible rfl))
    try simp only [Act.put, List.getElem_toArray, List.getElem_cons_succ, List.getElem_cons_zero, List.setIfInBounds_toArray, List.set_cons_zero, List.set_cons_succ]
    refine wpAnyC_take (i := 13) (v := ?_) rfl (by kernel_rfl) (by kernel_rfl) (by kernel_rfl) (by decide) [14, 15, 19, 20, 21] (by kernel_rfl) (fun _ _ _ h => h) (Or.inl ⟨by rfl, ?_⟩) (by assumption) ?_
    rotate_left 1
    · (intro w hSw; (try dsimp only at hSw); go_simp; (try with_reducible rfl))
    try simp only [Act.put, List.getElem_toArray, List.getElem_cons_succ, List.getElem_cons_zero, List.setIfInBounds_toArray, List.set_cons_zero, List.set_cons_succ]
    refine wpAnyC_take (i := 14) (v := ?_) rfl (by kernel_rfl) (by kernel_rfl) (by kernel_rfl) (by decide) [15, 19, 20, 21] (by kernel_rfl) (fun _ _ _ h => h) (Or.inl ⟨by rfl, ?_⟩) (by assumption) ?_
    rotate_left 1
    · (intro w hSw; (try dsimp only at hSw); go_simp; (try with_reducible rfl))
    try simp only [Act.put, List.getElem_toArray, List.getElem_cons_succ, List.getElem_cons_zero, List.setIfInBounds_toArray, List.set_cons_zero, List.set_cons_succ]
    refine wpAnyC_take (i := 15) (v := ?_) rfl (by kernel_rfl) (by kernel_rfl) (by kernel_rfl) (by decide) [19, 20, 21] (by kernel_rfl) (fun _ _ _ h => h) (Or.inl ⟨by rfl, ?_⟩) (by assumption) ?_
    rotate_left 1
    · (intro w hSw; (try dsimp only at hSw); go_simp; (try with_reducible rfl))
    try simp only [Act.put, List.getElem_toArray, List.getElem_cons_succ, List.getElem_cons_zero, List.setIfInBounds_toArray, List.set_cons_zero, List.set_cons_succ]
    refine wpAnyC_take (i := 16) (v := ?_) rfl (by kernel_rfl) (by kernel_rfl) (by kernel_rfl) (by decide) [17, 18, 19, 20, 21] (by kernel_rfl) (fun _ _ _ h => h) (Or.inl ⟨by rfl, ?_⟩) (by assumption) ?_
    rotate_left 1
    · (intro w hSw; (try dsimp only at hSw); go_simp; (try with_reducible rfl))
    try simp only [Act.put, List.getElem_toArray, List.getElem_cons_succ, List.getElem_cons_zero, List.setIfInBounds_toArray, List.set_cons_zero, List.set_cons_succ]
    refine wpAnyC_take (i := 17) (v := ?_) rfl (by kernel_rfl) (by kernel_rfl) (by kernel_rfl) (by decide) [18, 19, 20, 21] (by kernel_rfl) (fun _ _ _ h => h) (Or.inl ⟨by rfl, ?_⟩) (by assumption) ?_
    rotate_left 1
    · (intro w hSw; (try dsimp only at hSw); go_simp; (try with_reducible rfl))
    try simp only [Act.put, List.getElem_toArray, List.getElem_cons_succ, List.getElem_cons_zero, List.setIfInBounds_toArray, List.set_cons_zero, List.set_cons_succ]
    refine wpAnyC_take (i := 18) (v := ?_) rfl (by kernel_rfl) (by kernel_rfl) (by kernel_rfl) (by decide) [19, 20, 21] (by kernel_rfl) (fun _ _ _ h => h) (Or.inl ⟨by rfl, ?_⟩) (by assumption) ?_
    rotate_left 1
    · (intro w hSw; (try dsimp only at hSw); go_simp; (try with_reducible rfl))
    try simp only [Act.put, List.getElem_toArray, List.getElem_cons_succ, List.getElem_cons_zero, List.setIfInBounds_toArray, List.set_cons_zero, List.set_cons_succ]
    refine wpAnyC_ready (rs := [19]) (by kernel_rfl) (by simp) ?_
    refine AllReadyC.cons rfl (by decide) (fun K hK => ?_) AllReadyC.nil
    try simp only [List.getElem_toArray, List.getElem_cons_succ, List.getElem_cons_zero]
    go_simp
    refine hK.out _ _ ?_ (fun hHeld => ?_)
    · (go_keep)
    clear hK K
    try simp only [Act.put, List.getElem_toArray, List.getElem_cons_succ, List.getElem_cons_zero, List.setIfInBounds_toArray, List.set_cons_zero, List.set_cons_succ]
    refine wpAnyC_ready (rs := [20]) (by kernel_rfl) (by simp) ?_
    refine AllReadyC.cut rfl (fun K hK => ?_)
    try simp only [List.getElem_toArray, List.getElem_cons_succ, List.getElem_cons_zero]
    go_simp
    (go_at_call 23; refine (Apart_lit (vs := [.slice (some ⟨g, 0, none⟩) (a.length + 33) (a.length + 33), .slice x0 a.length y0, .slice x1 a.length y1, .slice x2 b.length y2, .slice x3 a.length y3, .slice x4 a.length y4, .slice x5 b.length y5]) (HROW.out _ (by (repeat (first | exact Step.refl _ | refine Step.alloc ?_ _ | refine Step.drew ?_ | refine Step.drewN ?_ _ | refine Step.setCell ?_ (by first | exact Nat.le_refl _ | assumption | omega | (simp; done) | (simp; omega)) _ | assumption | refine Step.trans ?_ (by assumption : Step _ _))))) HAPT.out hNm (by simp)).mono ?_; rintro e w11 ⟨rfl, hT11⟩; have HT11 := Lib.hid hT11; clear hT11)
    refine hK.out _ _ trivial (fun hHeld => ?_)
    clear hK K
    try simp only [Act.put, List.getElem_toArray, List.getElem_cons_succ, List.getElem_cons_zero, List.setIfInBounds_toArray, List.set_cons_zero, List.set_cons_succ]
    have hTrue : True := trivial
    refine wpAnyH_take (i := 21) (v := ?_) rfl (by kernel_rfl) (by kernel_rfl) (by kernel_rfl) (fun _ _ _ h => h) (Or.inl ⟨by rfl, ?_⟩) (by assumption) ?_
    rotate_left 1
    · (intro w hSw; (try dsimp only at hSw); go_simp; (try with_reducible rfl))
    try simp only [Act.put, List.getElem_toArray, List.getElem_cons_succ, List.getElem_cons_zero, List.setIfInBounds_toArray, List.set_cons_zero, List.set_cons_succ]
    refine wpAnyH_done (by kernel_rfl) ?_ _
    refine wp_at (fun W => Turn (fun c => c = g ∨ w8.heap.size ≤ c ∧ c < w10.heap.size) w10 W) ?_ ?_
    · first
        | exact (Turn.of (by (repeat (first | exact Step.refl _ | refine Step.alloc ?_ _ | refine Step.drew ?_ | refine Step.drewN ?_ _ | refine Step.setCell ?_ (by first | exact Nat.le_refl _ | assumption | omega | (simp; done) | (simp; omega)) _ | assumption | refine Step.trans ?_ (by assumption : Step _ _))))).trans (HT11.out.mono (fun b _ hb => HOM.out b hb))
        | exact ((Turn.of (by (repeat (first | exact Step.refl _ | refine Step.alloc ?_ _ | refine Step.drew ?_ | refine Step.drewN ?_ _ | refine Step.setCell ?_ (by first | exact Nat.le_refl _ | assumption | omega | (simp; done) | (simp; omega)) _ | assumption | refine Step.trans ?_ (by assumption : Step _ _))))).trans (HT11.out.mono (fun b _ hb => HOM.out b hb))).drew
    rintro W hTW
    have HTW := Lib.hid hTW
    have HSW : Hid (Sess [119, 46] W (fun c => ((M6 c ∨ c = g) ∨ (c = g ∨ w8.heap.size ≤ c ∧ c < w10.heap.size)) ∨ (c = g ∨ w8.heap.size ≤ c ∧ c < w10.heap.size)) (fun c => c = g ∨ w8.heap.size ≤ c ∧ c < w10.heap.size) w2.heap.size l D6 L6 rss6 2) := Lib.hid (HSZ.out.turnZ hTW.kept hTW.size (fun c hc => .inl hc))
    have HSB : Hid (Step w W) := Lib.hid (Turn.step HSA.out hTW (fun c hc => by
      have h1 := HW1.out
      have h2 := HS80.out.size
      rcases hc with hc | hc <;> omega))
    have HRC : Hid (∀ W' : World, Step W W' → Calls Tryz.prog 16 #[.pointer (some ⟨l, 0, none⟩), .int .u64 0, .int .u64 3] W' fun e w' => ∃ v ds, e = .returned (.tuple #[v, .int .i64 0]) ∧ Gr.Own (tGB 5) 40 w' (· < W'.heap.size) W'.heap.size v ds ∧ Step W' w' ∧ ds.map Prod.fst = [a, a, b] ∧ ApartD ds) := Lib.hid (fun W' hW => by
      have h := Sess.records (HSW.out.step hW) (by simp) (by omega)
      rw [HR6.out] at h
      refine h.mono ?_
      rintro e w' ⟨v, ds, h1, h2, h3, h4, h5⟩
      exact ⟨v, ds, h1, h2, h3, h4.out, h5⟩)
    clear hTW HTW HT11 HROW HAPT HOM HSZ hHeld hTrue p0 p1 p2 r0 r1 r2
    go_upto_region 22 with (go_at_call 16; refine (HRC.out _ (by (repeat (first | exact Step.refl _ | refine Step.alloc ?_ _ | refine Step.drew ?_ | refine Step.drewN ?_ _ | refine Step.setCell ?_ (by first | exact Nat.le_refl _ | assumption | omega | (simp; done) | (simp; omega)) _ | assumption | refine Step.trans ?_ (by assumption : Step _ _))))).mono ?_; rintro e w12 ⟨v12, ds12, rfl, hO12, hS12, hm12, hap12⟩; obtain ⟨g12, cp12, u0, u1, u2, rfl, hB12, hlt12, q0, q1, q2, b0, b1, b2, _, _⟩ := tri_open hO12 hm12 hap12; have HS12 : Hid (Step w w12) := Lib.hid (HSB.out.trans (Step.trans (by (repeat (first | exact Step.refl _ | refine Step.alloc ?_ _ | refine Step.drew ?_ | refine Step.drewN ?_ _ | refine Step.setCell ?_ (by first | exact Nat.le_refl _ | assumption | omega | (simp; done) | (simp; omega)) _ | assumption | refine Step.trans ?_ (by assumption : Step _ _)))) hS12)); have HB0 := Lib.hid b0; have HB2 := Lib.hid b2; clear hO12 hS12 hm12 hap12 b0 b1 b2)
    obtain ⟨x6, y6, rfl⟩ := HB0.out.val
    obtain ⟨x7, y7, rfl⟩ := HB2.out.val
    go_wp2_with (first
      | (go_at_call 22; refine (Equal_ (xs := a) (ys := a) ((HB0.out.step (by (repeat (first | exact Step.refl _ | refine Step.alloc ?_ _ | refine Step.drew ?_ | refine Step.drewN ?_ _ | refine Step.setCell ?_ (by first | exact Nat.le_refl _ | assumption | omega | (simp; done) | (simp; omega)) _ | assumption | refine Step.trans ?_ (by assumption : Step _ _))))).rep (M := fun _ => False) (fun _ _ h => h)) (Ty.step _ HA.out (HS12.out.trans (by (repeat (first | exact Step.refl _ | refine Step.alloc ?_ _ | refine Step.drew ?_ | refine Step.drewN ?_ _ | refine Step.setCell ?_ (by first | exact Nat.le_refl _ | assumption | omega | (simp; done) | (simp; omega)) _ | assumption | refine Step.trans ?_ (by assumption : Step _ _))))))).mono ?_; rintro e wE ⟨rfl, nE, rfl⟩; rw [decide_eq_true (rfl : a = a)])
      | (go_at_call 22; refine (Equal_ (xs := b) (ys := b) ((HB2.out.step (by (repeat (first | exact Step.refl _ | refine Step.alloc ?_ _ | refine Step.drew ?_ | refine Step.drewN ?_ _ | refine Step.setCell ?_ (by first | exact Nat.le_refl _ | assumption | omega | (simp; done) | (simp; omega)) _ | assumption | refine Step.trans ?_ (by assumption : Step _ _))))).rep (M := fun _ => False) (fun _ _ h => h)) (Ty.step _ HB.out (HS12.out.trans (by (repeat (first | exact Step.refl _ | refine Step.alloc ?_ _ | refine Step.drew ?_ | refine Step.drewN ?_ _ | refine Step.setCell ?_ (by first | exact Nat.le_refl _ | assumption | omega | (simp; done) | (simp; omega)) _ | assumption | refine Step.trans ?_ (by assumption : Step _ _))))))).mono ?_; rintro e wE ⟨rfl, nE, rfl⟩; rw [decide_eq_true (rfl : b = b)]))
    go_ret
    exact ⟨rfl, HS12.out.trans (by (repeat (first | exact Step.refl _ | refine Step.alloc ?_ _ | refine Step.drew ?_ | refine Step.drewN ?_ _ | refine Step.setCell ?_ (by first | exact Nat.le_refl _ | assumption | omega | (simp; done) | (simp; omega)) _ | assumption | refine Step.trans ?_ (by assumption : Step _ _))))⟩
end Go.Proofs.YthebdlkmoailaaaGreatDoor
