/-
  Walk: JournalFull.
-/
import Derived.Test.YthebdlkmoailaaaGreatDoorZP11
set_option linter.unusedVariables false
set_option linter.unusedSimpArgs false
namespace Go.Proofs.YthebdlkmoailaaaGreatDoor
open Go.RowKit Go.Gr Go.Maps
open Go.Proofs (encStr)
set_option linter.unusedSimpArgs false
set_option linter.unusedVariables false
/-- A row of the call's own may be appended to another. -/
theorem own_src {α : Type} {E : Ty α} {e : TypeId} {w : World} {M M' : Nat → Prop} {B : Nat} {v : Value} {xs : List α} (h : Gr.Own E e w M B v xs) (hM : ∀ b, M' b → M b) : Src E w M' v xs := by
  obtain ⟨hl, cells, ho, hr⟩ := h
  rcases ho.2 with ⟨rfl, h0⟩ | ⟨g, cap, cur, rfl, hb, hg, hnc, hcm, hcs, htake⟩
  · exact ⟨none, 0, by rw [h0], fun hn => by omega⟩
  · refine ⟨some ⟨g, 0, none⟩, cap, rfl, fun hn => ⟨g, 0, rfl, fun i hi => ⟨grp cells E.n i, E.less (hr i hi) (fun b _ hb => .inl (hM b hb)), fun j u hu => ?_⟩⟩⟩
    obtain ⟨h1, h2⟩ := grp_getElem hu
    rw [cell_of_row w g _ cur e (0, 0) hg]
    rw [← htake, List.getElem?_take] at h1
    split at h1
    · simpa using h1
    · cases h1
theorem own_slice {α : Type} {E : Ty α} {e : TypeId} {w : World} {M : Nat → Prop} {B : Nat} {v : Value} {xs : List α} (h : Gr.Own E e w M B v xs) : (Ty.slice E).rep w (fun _ => False) [v] xs :=
  (Gr.Own.less h (M' := fun _ => False) (fun _ _ h => h.elim)).rep' (fun _ _ h => h)
/-- What the round knows of 'all' and the journal. -/
structure FullAt (w0 w : World) (b l : Nat) (av : Value) (M : Nat → Prop) (D : DDr) (L : DLog) (rss : List (List (List UInt8))) (q : Nat) : Prop where
  sess : Sess [119, 46] w M (fun c => av.ownBlock = some c) b l D L rss q
  step : Step w0 w
  all : Gr.Own Ty.bytes 40 w (fun c => w0.heap.size ≤ c) w0.heap.size av rss.flatten
  fresh : ∀ c, M c → w0.heap.size ≤ c
theorem FullAt.next {w0 w w' : World} {b l : Nat} {av : Value} {M : Nat → Prop} {D : DDr} {L : DLog} {rss : List (List (List UInt8))} {q : Nat} (h : FullAt w0 w b l av M D L rss q) (hs : Step w w') : FullAt w0 w' b l av M D L rss q :=
  ⟨h.sess.step hs, h.step.trans hs, h.all.step hs, h.fresh⟩
theorem FullAt.appended {w0 w w' : World} {b l : Nat} {av : Value} {M M' : Nat → Prop} {D D' : DDr} {L L' : DLog} {rss rss' : List (List (List UInt8))} {q : Nat} (h : FullAt w0 w b l av M D L rss q) (hs : Sess [119, 46] w' M' (fun c => av.ownBlock = some c) b l D' L' rss' (q + 1)) (ht : Turn (fun c => M c ∧ ¬ av.ownBlock = some c) w w') (hl : ∀ c, c < w.heap.size → M' c → M c) :
    Step w0 w' ∧ Gr.Own Ty.bytes 40 w' (fun c => w0.heap.size ≤ c) w0.heap.size av rss.flatten ∧ ∀ c, M' c → w0.heap.size ≤ c := by
  refine ⟨Turn.step h.step ht (fun c hc => h.fresh c hc.1), h.all.kept (ht.kept.mono fun c hc => h.fresh c hc.1) (fun g hg => ht.block g (h.all.lt hg).2 (fun hx => hx.2 hg)), fun c hc => ?_⟩
  rcases Nat.lt_or_ge c w.heap.size with h1 | h1
  · exact h.fresh c (hl c h1 hc)
  · have := h.step.size; omega
theorem FullAt.stays {w0 w w' : World} {b l : Nat} {av : Value} {M M' : Nat → Prop} {D D' : DDr} {L L' : DLog} {rss rss' : List (List (List UInt8))} {q : Nat} (h : FullAt w0 w b l av M D L rss q) (hs : Sess [119, 46] w' M' (fun c => av.ownBlock = some c) b l D' L' rss' (q + 1)) (ht : Turn (fun c => M c ∧ ¬ av.ownBlock = some c) w w') (hl : ∀ c, c < w.heap.size → M' c → M c) (hr : rss' = rss) :
    FullAt w0 w' b l av M' D' L' rss' (q + 1) := by
  obtain ⟨h1, h2, h3⟩ := h.appended hs ht hl
  exact ⟨hs, h1, by rw [hr]; exact h2, h3⟩
theorem FullAt.grows {w0 w w' w2 : World} {b l : Nat} {av av' : Value} {M M' : Nat → Prop} {D D' : DDr} {L L' : DLog} {rss rss' : List (List (List UInt8))} {q : Nat} {recs : List (List UInt8)} (h : FullAt w0 w b l av M D L rss q) (hs : Sess [119, 46] w' M' (fun c => av.ownBlock = some c) b l D' L' rss' (q + 1)) (ht : Turn (fun c => M c ∧ ¬ av.ownBlock = some c) w w') (hl : ∀ c, c < w.heap.size → M' c → M c) (hr : rss'.flatten = rss.flatten ++ recs)
    (h2 : Gr.Own Ty.bytes 40 w2 (fun c => w0.heap.size ≤ c) w0.heap.size av' (rss.flatten ++ recs)) (h3 : Step w0 w2) (h4 : w'.grownBy w2 av.ownBlock) (h5 : av'.ownBlock = av.ownBlock ∨ av'.ownBlock = some w'.heap.size) :
    ∃ M2, FullAt w0 w2 b l av' M2 D' L' rss' (q + 1) := by
  obtain ⟨k1, k2, k3⟩ := h.appended hs ht hl
  have hz : w'.heap.size ≤ w2.heap.size := h4.size
  refine ⟨_, hs.turnZ (Z' := fun c => av'.ownBlock = some c) (Kept.grown h4 (fun c hc => hc)) hz (fun c hc => ?_), h3, by rw [hr]; exact h2, fun c hc => ?_⟩
  · rcases h5 with h5 | h5
    · exact .inl (h5.symm.trans hc)
    · have := (h2.lt hc).2
      rw [h5] at hc
      obtain rfl : w'.heap.size = c := by injection hc
      exact .inr ⟨Nat.le_refl _, this⟩
  · rcases hc with hc | hc
    · exact k3 c hc
    · exact (h2.lt hc).1
/-- A row that was made behind w stays, too. -/
theorem kept_row {w0 w5 w' : World} {M Z : Nat → Prop} {v : Value} {recs : List (List UInt8)} {B : Nat} (h : Gr.Own Ty.bytes 40 w5 (fun c => w0.heap.size ≤ c) B v recs) (ht : Turn (fun c => M c ∧ ¬ Z c) w5 w') (hf : ∀ c, M c → w0.heap.size ≤ c) (hB : ∀ c, M c → c < B) : Gr.Own Ty.bytes 40 w' (fun c => w0.heap.size ≤ c) B v recs :=
  h.kept (ht.kept.mono fun c hc => hf c hc.1) (fun g hg => ht.block g (h.lt hg).2 (fun hx => by have := hB g hx.1; have := (h.lt hg).1; omega))
/-- Behind an append that was done. -/
structure FullGo (w0 w' : World) (b l : Nat) (av v5 : Value) (B : Nat) (D' : DDr) (L' : DLog) (rss rss' : List (List (List UInt8))) (recs : List (List UInt8)) (q : Nat) : Prop where
  step : Step w0 w'
  all : Gr.Own Ty.bytes 40 w' (fun c => w0.heap.size ≤ c) w0.heap.size av rss.flatten
  row : Gr.Own Ty.bytes 40 w' (fun c => w0.heap.size ≤ c) B v5 recs
  grows : ∀ (v2 : Value) (w2 : World), Gr.Own Ty.bytes 40 w2 (fun c => w0.heap.size ≤ c) w0.heap.size v2 (rss.flatten ++ recs) → Step w0 w2 → w'.grownBy w2 av.ownBlock → (v2.ownBlock = av.ownBlock ∨ v2.ownBlock = some w'.heap.size) → ∃ M2, FullAt w0 w2 b l v2 M2 D' L' rss' (q + 1)
theorem FullAt.after {w0 w w5 w6 w' : World} {b l : Nat} {av v5 : Value} {M M' : Nat → Prop} {D D' : DDr} {L L' : DLog} {rss rss' : List (List (List UInt8))} {q : Nat} {recs : List (List UInt8)} (h : FullAt w0 w b l av M D L rss q) (hs6 : Step w w6) (h5 : Gr.Own Ty.bytes 40 w5 (fun c => w0.heap.size ≤ c) w.heap.size v5 recs) (h56 : Step w5 w6) (hs : Sess [119, 46] w' M' (fun c => av.ownBlock = some c) b l D' L' rss' (q + 1)) (ht : Turn (fun c => M c ∧ ¬ av.ownBlock = some c) w6 w') (hl : ∀ c, c < w6.heap.size → M' c → M c) (hr : rss'.flatten = rss.flatten ++ recs) :
    FullGo w0 w' b l av v5 w.heap.size D' L' rss rss' recs q := by
  obtain ⟨k1, k2, k3⟩ := (h.next hs6).appended hs ht hl
  exact ⟨k1, k2, kept_row (h5.step h56) ht h.fresh (h.sess.old.1), fun v2 w2 j1 j2 j3 j4 => (h.next hs6).grows hs ht hl hr j1 j2 j3 j4⟩
set_option maxRecDepth 100000 in
set_option maxHeartbeats 8000000 in
theorem jFull_ {w : World} {M : Nat → Prop} {r most : Int} {v : Value} {lists : List (List (List UInt8))} (hAW : ∀ W : World, Calls Tryz.prog 10 #[] W fun e w' => e = .returned (.bool true) ∧ Step W w') (h : (Ty.slice (Ty.slice Ty.bytes)).rep w M [v] lists) (hm : I64 most) :
    Calls Tryz.prog 3 #[.int .i64 r, .int .i64 most, v] w fun e w' => e = .returned (.bool true) ∧ Step w w' := by
  obtain ⟨a, c, rfl, _, _, hl⟩ := Ty.slice_val h
  rw [lim_eq] at hl
  have H : Hid ((Ty.slice (Ty.slice Ty.bytes)).rep w (fun c => w.heap.size ≤ c) [.slice a lists.length c] lists) := Lib.hid ((Ty.slice (Ty.slice Ty.bytes)).keep h (fun b hb _ => ⟨rfl, by omega⟩))
  have HAW := Lib.hid hAW
  clear h hAW
  by_cases hr : 1048576 < r
  · have hd : decide ((1048576 : Int) < r) = true := decide_eq_true hr
    go_enter Tryz.func3, Tryz.ntmps3
    go_wp2_with (go_at_call 10; refine (HAW.out _).mono ?_; rintro e w1 ⟨rfl, hS1⟩; have HS1 : Hid (Step w w1) := Lib.hid (Step.trans (by (repeat (first | exact Step.refl _ | refine Step.alloc ?_ _ | refine Step.drew ?_ | refine Step.drewN ?_ _ | refine Step.setCell ?_ (by first | exact Nat.le_refl _ | assumption | omega | (simp; done) | (simp; omega)) _ | assumption | refine Step.trans ?_ (by assumption : Step _ _)))) hS1); clear hS1)
    go_ret
    exact ⟨rfl, HS1.out.trans (by (repeat (first | exact Step.refl _ | refine Step.alloc ?_ _ | refine Step.drew ?_ | refine Step.drewN ?_ _ | refine Step.setCell ?_ (by first | exact Nat.le_refl _ | assumption | omega | (simp; done) | (simp; omega)) _ | assumption | refine Step.trans ?_ (by assumption : Step _ _))))⟩
  · have hd : decide ((1048576 : Int) < r) = false := decide_eq_false hr
    have HOP : Hid (∀ (W : World) (b : Nat), DrAt W b (.map none) (.map none) (.slice none 0 0) (max 0 r) false 0 false → Calls Tryz.prog 12 #[.pointer (some ⟨b, 0, none⟩), encStr [119, 46], .int .i64 most] W fun e w' => ∃ l M', e = .returned (.tuple #[.pointer (some ⟨l, 0, none⟩), .int .i64 0]) ∧ Step W w' ∧ W.heap.size ≤ l ∧ Sess [119, 46] w' M' (fun _ => False) b l (DDr.new r) ⟨max 1 most, [], true⟩ [] 0 ∧ (∀ c, c < W.heap.size → M' c → c = b)) := Lib.hid (fun W b hb => Sess.open0 hb (by omega) hm (by simp))
    go_enter Tryz.func3, Tryz.ntmps3
    go_wp2_with (first
      | (go_at_call 10; refine (HAW.out _).mono ?_; rintro e w1 ⟨rfl, hS1⟩; have HS1 : Hid (Step w w1) := Lib.hid (Step.trans (by (repeat (first | exact Step.refl _ | refine Step.alloc ?_ _ | refine Step.drew ?_ | refine Step.drewN ?_ _ | refine Step.setCell ?_ (by first | exact Nat.le_refl _ | assumption | omega | (simp; done) | (simp; omega)) _ | assumption | refine Step.trans ?_ (by assumption : Step _ _)))) hS1); clear hS1)
      | (go_at_call 11; refine (dNew_ _ r).mono ?_; rintro e w2 ⟨rfl, hb2, hS2⟩; have HB2 := Lib.hid hb2; have HS2 := Lib.hid hS2; clear hb2 hS2)
      | (go_at_call 12; refine (HOP.out _ _ (CellsAt.step HB2.out (by (repeat (first | exact Step.refl _ | refine Step.alloc ?_ _ | refine Step.drew ?_ | refine Step.drewN ?_ _ | refine Step.setCell ?_ (by first | exact Nat.le_refl _ | assumption | omega | (simp; done) | (simp; omega)) _ | assumption | refine Step.trans ?_ (by assumption : Step _ _)))))).mono ?_; rintro e w3 ⟨l, M3, rfl, hS3, hl3, hse, hM3⟩; have HS3 := Lib.hid hS3; have HSE := Lib.hid hse; have HM3 := Lib.hid hM3; clear hS3 hse hM3))
    clear HOP HAW
    have HFA0 : Hid (FullAt w w3 w1.heap.size l (.slice none 0 0) M3 (DDr.new r) ⟨max 1 most, [], true⟩ [] 0) := Lib.hid (by
      refine ⟨?_, (HS1.out.trans HS2.out).trans HS3.out, Gr.Own.nil, fun c hc => ?_⟩
      · have h0 : (fun c => (Value.slice none 0 0).ownBlock = some c) = fun _ => False := funext fun c => eq_false (fun h => by cases h)
        rw [h0]
        exact HSE.out
      · have h2 := HS1.out.size
        have h3 := HS2.out.size
        rcases Nat.lt_or_ge c w2.heap.size with h4 | h4
        · have := HM3.out c h4 hc
          omega
        · omega)
    go_loopw [10, 11] (fun av iv w' => ∃ (k : Nat) (M' : Nat → Prop) (D : DDr) (L : DLog) (rss : List (List (List UInt8))), iv = .int .i64 (k : Int) ∧ k ≤ lists.length ∧ k ≤ 20 ∧ Hid (FullAt w w' w1.heap.size l av M' D L rss k)) (fun _ iv _ => 20 - (Go.RowKit.intOf iv).toNat)
    case atStart => exact ⟨0, M3, _, _, [], rfl, Nat.zero_le _, Nat.zero_le _, HFA0⟩
    case round =>
      obtain ⟨k, M', D, L, rss, rfl, hk, hk20, HFA⟩ := hrel
      obtain ⟨oa, on, oc, rfl, HON⟩ := HFA.out.all.valN
      have hon : on = rss.flatten.length := HON.out
      subst hon
      have hcn := HFA.out.sess.recs
      have hwc : IntKind.u64.wrap (rss.flatten.length : Int) = (rss.flatten.length : Int) := by rw [IntKind.wrap_u64]; omega
      by_cases hlt : k < lists.length
      · have hd1 : decide ((k : Int) < (lists.length : Int)) = true := decide_eq_true (by omega)
        by_cases h20 : k < 20
        · have hd2 : decide ((k : Int) < 20) = true := decide_eq_true (by omega)
          obtain ⟨b1, o1, u1, rfl, hb1, _, hu1, hc1⟩ := Ty.slice_at1 rfl H.out hlt
          obtain ⟨ua, uc, rfl, _⟩ := Ty.slice_val hu1
          have hc2 : wr.cell? ⟨b1, o1 + k, none⟩ = some (.slice ua lists[k].length uc) := (HFA.out.step.cell hb1 _).trans hc1
          have HSH : Hid (∀ W : World, Step wr W → Calls Tryz.prog 13 #[.slice ua lists[k].length uc] W fun e w' => ∃ v', e = .returned v' ∧ Gr.Own Ty.bytes 40 w' (fun c => w.heap.size ≤ c) W.heap.size v' (shortB lists[k]) ∧ Step W w') := Lib.hid (fun W hW => shorts_ (Ty.step _ hu1 (HFA.out.step.trans hW)))
          clear hc1 hu1
          generalize lists[k] = LS at *
          have HRS : Hid ((∀ x ∈ shortB LS, x.length ≤ 600) ∧ (shortB LS).length ≤ 10) := Lib.hid (by
            unfold shortB
            refine ⟨fun x hx => ?_, by rw [List.length_map, List.length_take]; omega⟩
            obtain ⟨y, _, rfl⟩ := List.mem_map.1 hx
            rw [List.length_take]
            omega)
          have HAP : Hid (∀ (W : World) (rv : Value) (M2 : Nat → Prop), Step wr W → (Ty.slice Ty.bytes).rep W M2 [rv] (shortB LS) → Calls Tryz.prog 14 #[.pointer (some ⟨l, 0, none⟩), rv] W fun e w' => ∃ M7 D7 L7 rss7, Sess [119, 46] w' M7 (fun c => (Value.slice oa rss.flatten.length oc).ownBlock = some c) w1.heap.size l D7 L7 rss7 (k + 1) ∧ Turn (fun c => M' c ∧ ¬ (Value.slice oa rss.flatten.length oc).ownBlock = some c) W w' ∧ (∀ c, c < W.heap.size → M7 c → M' c) ∧ ((¬ fullJ [119, 46] D L (shortB LS) ∧ e = .returned (.tuple #[.int .u64 (rss.flatten.length : Int), .int .i64 0]) ∧ rss7.flatten = rss.flatten ++ shortB LS) ∨ (fullJ [119, 46] D L (shortB LS) ∧ e = .returned (.tuple #[.int .u64 0, .int .i64 8]) ∧ rss7 = rss))) := Lib.hid (fun W rv M2 hW hrv => by
            refine (Sess.append (HFA.out.sess.step hW) (by simp) (by omega) hrv HRS.out.1 HRS.out.2).mono ?_
            rintro e w' ⟨M7, D7, L7, rss7, h1, h2, _, h4, _, _, h7⟩
            exact ⟨M7, D7, L7, rss7, h1, h2, h4, h7⟩)
          have HFO := Lib.hid HFA.out.sess.old.1
          have HLT : Hid (k + 1 ≤ lists.length) := Lib.hid hlt
          have h20' : k + 1 ≤ 20 := h20
          generalize LS.length = ln at *
          generalize hon : rss.flatten.length = T at *
          go_upto_region 14 with (go_at_call 13; refine (HSH.out _ (by (repeat (first | exact Step.refl _ | refine Step.alloc ?_ _ | refine Step.drew ?_ | refine Step.drewN ?_ _ | refine Step.setCell ?_ (by first | exact Nat.le_refl _ | assumption | omega | (simp; done) | (simp; omega)) _ | assumption | refine Step.trans ?_ (by assumption : Step _ _))))).mono ?_; rintro e w5 ⟨v5, rfl, hA5, hS5⟩; obtain ⟨a5, n5, c5, rfl, HN5⟩ := hA5.valN; have HA5 := Lib.hid (Gr.Own.base hA5 (show wr.heap.size ≤ _ from Step.size (by (repeat (first | exact Step.refl _ | refine Step.alloc ?_ _ | refine Step.drew ?_ | refine Step.drewN ?_ _ | refine Step.setCell ?_ (by first | exact Nat.le_refl _ | assumption | omega | (simp; done) | (simp; omega)) _ | assumption | refine Step.trans ?_ (by assumption : Step _ _)))))); have HS5 : Hid (Step wr w5) := Lib.hid (Step.trans (by (repeat (first | exact Step.refl _ | refine Step.alloc ?_ _ | refine Step.drew ?_ | refine Step.drewN ?_ _ | refine Step.setCell ?_ (by first | exact Nat.le_refl _ | assumption | omega | (simp; done) | (simp; omega)) _ | assumption | refine Step.trans ?_ (by assumption : Step _ _)))) hS5); clear hA5 hS5)
          by_cases hfj : fullJ [119, 46] D L (shortB LS)
          · go_upto_region 21 with (first
              | (go_at_call 15; refine (Copies_ _ _ _ _ (Ty.step _ (own_slice HA5.out) (by (repeat (first | exact Step.refl _ | refine Step.alloc ?_ _ | refine Step.drew ?_ | refine Step.drewN ?_ _ | refine Step.setCell ?_ (by first | exact Nat.le_refl _ | assumption | omega | (simp; done) | (simp; omega)) _ | assumption | refine Step.trans ?_ (by assumption : Step _ _)))))).mono ?_; rintro e w6 ⟨v6, rfl, hA6, hS6⟩; obtain ⟨a6, n6, c6, rfl, HN6⟩ := hA6.valN; have HA6 := Lib.hid hA6; have HS6 : Hid (Step wr w6) := Lib.hid (HS5.out.trans (Step.trans (by (repeat (first | exact Step.refl _ | refine Step.alloc ?_ _ | refine Step.drew ?_ | refine Step.drewN ?_ _ | refine Step.setCell ?_ (by first | exact Nat.le_refl _ | assumption | omega | (simp; done) | (simp; omega)) _ | assumption | refine Step.trans ?_ (by assumption : Step _ _)))) hS6)); clear hA6 hS6)
              | (go_at_call 14; refine (HAP.out _ _ _ (HS6.out.trans (by (repeat (first | exact Step.refl _ | refine Step.alloc ?_ _ | refine Step.drew ?_ | refine Step.drewN ?_ _ | refine Step.setCell ?_ (by first | exact Nat.le_refl _ | assumption | omega | (simp; done) | (simp; omega)) _ | assumption | refine Step.trans ?_ (by assumption : Step _ _))))) (own_slice (Gr.Own.step HA6.out (by (repeat (first | exact Step.refl _ | refine Step.alloc ?_ _ | refine Step.drew ?_ | refine Step.drewN ?_ _ | refine Step.setCell ?_ (by first | exact Nat.le_refl _ | assumption | omega | (simp; done) | (simp; omega)) _ | assumption | refine Step.trans ?_ (by assumption : Step _ _))))))).mono ?_; rintro e w7 ⟨M7, D7, L7, rss7, hse7, hT7, hle7, hans7⟩; obtain ⟨rfl, hr7⟩ := (hans7.resolve_left (fun h => h.1 hfj)).2; have HFB : Hid (FullAt w w7 w1.heap.size l (.slice oa T oc) M7 D7 L7 rss7 (k + 1)) := Lib.hid ((HFA.out.next (HS6.out.trans (by (repeat (first | exact Step.refl _ | refine Step.alloc ?_ _ | refine Step.drew ?_ | refine Step.drewN ?_ _ | refine Step.setCell ?_ (by first | exact Nat.le_refl _ | assumption | omega | (simp; done) | (simp; omega)) _ | assumption | refine Step.trans ?_ (by assumption : Step _ _)))))).stays hse7 hT7 hle7 hr7); clear hse7 hT7 hle7 hans7 hr7))
            have HNN : Hid (T = rss7.flatten.length) := Lib.hid (by
              obtain ⟨_, _, h⟩ := HFB.out.all.val
              injection h)
            have HRC : Hid (∀ W : World, Step w7 W → Calls Tryz.prog 16 #[.pointer (some ⟨l, 0, none⟩), .int .u64 0, .int .u64 (T : Int)] W fun e w' => ∃ v ds, e = .returned (.tuple #[v, .int .i64 0]) ∧ Gr.Own (tGB 5) 40 w' (· < W.heap.size) W.heap.size v ds ∧ Step W w' ∧ Hid (ds.map Prod.fst = rss7.flatten) ∧ ApartD ds) := Lib.hid (fun W hW => by
              rw [HNN.out]
              exact Sess.records (HFB.out.sess.step hW) (by simp) (by omega))
            have HNX : Hid (∀ W : World, Step w7 W → Calls Tryz.prog 17 #[.pointer (some ⟨l, 0, none⟩)] W fun e w' => e = .returned (.int .u64 (T : Int)) ∧ Step W w') := Lib.hid (fun W hW => by
              rw [HNN.out]
              exact Sess.next (HFB.out.sess.step hW))
            have HEQ : Hid (∀ (W : World) (v : Value) (M3 : Nat → Prop), Step w7 W → (Ty.slice Ty.bytes).rep W M3 [v] rss7.flatten → Calls Tryz.prog 18 #[v, .slice oa T oc] W fun e w' => e = .returned (.bool true) ∧ Step W w') := Lib.hid (fun W v M3 hW hv => Equals_same hv (own_slice (HFB.out.all.step hW)))
            have hnn : T ≤ 1000 := by
              have h1 := HFB.out.sess.recs
              rw [HNN.out]
              omega
            have hwn : IntKind.u64.wrap (T : Int) = (T : Int) := by rw [IntKind.wrap_u64]; omega
            go_wp2_with (first
              | (go_at_call 16; refine (HRC.out _ (by (repeat (first | exact Step.refl _ | refine Step.alloc ?_ _ | refine Step.drew ?_ | refine Step.drewN ?_ _ | refine Step.setCell ?_ (by first | exact Nat.le_refl _ | assumption | omega | (simp; done) | (simp; omega)) _ | assumption | refine Step.trans ?_ (by assumption : Step _ _))))).mono ?_; rintro e w8 ⟨v8, ds8, rfl, hO8, hS8, hm8, _⟩; have HS8 : Hid (Step w7 w8) := Lib.hid (Step.trans (by (repeat (first | exact Step.refl _ | refine Step.alloc ?_ _ | refine Step.drew ?_ | refine Step.drewN ?_ _ | refine Step.setCell ?_ (by first | exact Nat.le_refl _ | assumption | omega | (simp; done) | (simp; omega)) _ | assumption | refine Step.trans ?_ (by assumption : Step _ _)))) hS8); obtain ⟨a8, n8, c8, rfl, HN8⟩ := hO8.valN; have HR8 : Hid ((Ty.slice Ty.bytes).rep w8 (fun _ => False) [.slice a8 n8 c8] rss7.flatten) := Lib.hid (by rw [← hm8.out]; exact slice_mapE Prod.fst rfl tGB_bytes (own_slice hO8)); clear hS8 hO8)
              | (go_at_call 17; refine (HNX.out _ (HS8.out.trans (by (repeat (first | exact Step.refl _ | refine Step.alloc ?_ _ | refine Step.drew ?_ | refine Step.drewN ?_ _ | refine Step.setCell ?_ (by first | exact Nat.le_refl _ | assumption | omega | (simp; done) | (simp; omega)) _ | assumption | refine Step.trans ?_ (by assumption : Step _ _)))))).mono ?_; rintro e w9 ⟨rfl, hS9⟩; have HS9 : Hid (Step w8 w9) := Lib.hid (Step.trans (by (repeat (first | exact Step.refl _ | refine Step.alloc ?_ _ | refine Step.drew ?_ | refine Step.drewN ?_ _ | refine Step.setCell ?_ (by first | exact Nat.le_refl _ | assumption | omega | (simp; done) | (simp; omega)) _ | assumption | refine Step.trans ?_ (by assumption : Step _ _)))) hS9); clear hS9)
              | (go_at_call 18; refine (HEQ.out _ _ _ (HS8.out.trans (HS9.out.trans (by (repeat (first | exact Step.refl _ | refine Step.alloc ?_ _ | refine Step.drew ?_ | refine Step.drewN ?_ _ | refine Step.setCell ?_ (by first | exact Nat.le_refl _ | assumption | omega | (simp; done) | (simp; omega)) _ | assumption | refine Step.trans ?_ (by assumption : Step _ _)))))) (Ty.step _ HR8.out (HS9.out.trans (by (repeat (first | exact Step.refl _ | refine Step.alloc ?_ _ | refine Step.drew ?_ | refine Step.drewN ?_ _ | refine Step.setCell ?_ (by first | exact Nat.le_refl _ | assumption | omega | (simp; done) | (simp; omega)) _ | assumption | refine Step.trans ?_ (by assumption : Step _ _))))))).mono ?_; rintro e w10 ⟨rfl, hS10⟩; have HS10 : Hid (Step w7 w10) := Lib.hid (HS8.out.trans (HS9.out.trans (Step.trans (by (repeat (first | exact Step.refl _ | refine Step.alloc ?_ _ | refine Step.drew ?_ | refine Step.drewN ?_ _ | refine Step.setCell ?_ (by first | exact Nat.le_refl _ | assumption | omega | (simp; done) | (simp; omega)) _ | assumption | refine Step.trans ?_ (by assumption : Step _ _)))) hS10))); clear hS10))
            go_roundw
            case rel => exact ⟨k + 1, _, D7, L7, rss7, by go_num, HLT.out, h20', Lib.hid (HFB.out.next (HS10.out.trans (by (repeat (first | exact Step.refl _ | refine Step.alloc ?_ _ | refine Step.drew ?_ | refine Step.drewN ?_ _ | refine Step.setCell ?_ (by first | exact Nat.le_refl _ | assumption | omega | (simp; done) | (simp; omega)) _ | assumption | refine Step.trans ?_ (by assumption : Step _ _))))))⟩
            case measure => simp [Go.RowKit.intOf]; omega

          · go_upto_region 15 with (first
              | (go_at_call 15; refine (Copies_ _ _ _ _ (Ty.step _ (own_slice HA5.out) (by (repeat (first | exact Step.refl _ | refine Step.alloc ?_ _ | refine Step.drew ?_ | refine Step.drewN ?_ _ | refine Step.setCell ?_ (by first | exact Nat.le_refl _ | assumption | omega | (simp; done) | (simp; omega)) _ | assumption | refine Step.trans ?_ (by assumption : Step _ _)))))).mono ?_; rintro e w6 ⟨v6, rfl, hA6, hS6⟩; obtain ⟨a6, n6, c6, rfl, HN6⟩ := hA6.valN; have HA6 := Lib.hid hA6; have HS56 : Hid (Step w5 w6) := Lib.hid (Step.trans (by (repeat (first | exact Step.refl _ | refine Step.alloc ?_ _ | refine Step.drew ?_ | refine Step.drewN ?_ _ | refine Step.setCell ?_ (by first | exact Nat.le_refl _ | assumption | omega | (simp; done) | (simp; omega)) _ | assumption | refine Step.trans ?_ (by assumption : Step _ _)))) hS6); have HS6 : Hid (Step wr w6) := Lib.hid (HS5.out.trans HS56.out); clear hA6 hS6)
              | (go_at_call 14; refine (HAP.out _ _ _ (HS6.out.trans (by (repeat (first | exact Step.refl _ | refine Step.alloc ?_ _ | refine Step.drew ?_ | refine Step.drewN ?_ _ | refine Step.setCell ?_ (by first | exact Nat.le_refl _ | assumption | omega | (simp; done) | (simp; omega)) _ | assumption | refine Step.trans ?_ (by assumption : Step _ _))))) (own_slice (Gr.Own.step HA6.out (by (repeat (first | exact Step.refl _ | refine Step.alloc ?_ _ | refine Step.drew ?_ | refine Step.drewN ?_ _ | refine Step.setCell ?_ (by first | exact Nat.le_refl _ | assumption | omega | (simp; done) | (simp; omega)) _ | assumption | refine Step.trans ?_ (by assumption : Step _ _))))))).mono ?_; rintro e w7 ⟨M7, D7, L7, rss7, hse7, hT7, hle7, hans7⟩; obtain ⟨rfl, hr7⟩ := (hans7.resolve_right (fun h => hfj h.1)).2; have HK := Lib.hid (HFA.out.after (HS6.out.trans (by (repeat (first | exact Step.refl _ | refine Step.alloc ?_ _ | refine Step.drew ?_ | refine Step.drewN ?_ _ | refine Step.setCell ?_ (by first | exact Nat.le_refl _ | assumption | omega | (simp; done) | (simp; omega)) _ | assumption | refine Step.trans ?_ (by assumption : Step _ _))))) HA5.out (HS56.out.trans (by (repeat (first | exact Step.refl _ | refine Step.alloc ?_ _ | refine Step.drew ?_ | refine Step.drewN ?_ _ | refine Step.setCell ?_ (by first | exact Nat.le_refl _ | assumption | omega | (simp; done) | (simp; omega)) _ | assumption | refine Step.trans ?_ (by assumption : Step _ _))))) hse7 hT7 hle7 hr7); clear hse7 hT7 hle7 hans7 hr7))
            have hlim : Hid (rss.flatten.length + (shortB LS).length ≤ lim) := Lib.hid (by have := HRS.out.2; rw [hon, lim_eq]; omega)
            go_upto_region 21 with (at_builtin; refine wpList_append_acc (w0 := w) (E := Ty.bytes) (ys := shortB LS) rfl (.tmp 64) (.tmp 65) rfl stShort (HK.out.step.trans (by (repeat (first | exact Step.refl _ | refine Step.alloc ?_ _ | refine Step.drew ?_ | refine Step.drewN ?_ _ | refine Step.setCell ?_ (by first | exact Nat.le_refl _ | assumption | omega | (simp; done) | (simp; omega)) _ | assumption | refine Step.trans ?_ (by assumption : Step _ _))))) (Gr.Own.step HK.out.all (by (repeat (first | exact Step.refl _ | refine Step.alloc ?_ _ | refine Step.drew ?_ | refine Step.drewN ?_ _ | refine Step.setCell ?_ (by first | exact Nat.le_refl _ | assumption | omega | (simp; done) | (simp; omega)) _ | assumption | refine Step.trans ?_ (by assumption : Step _ _))))) (own_src (Gr.Own.step HK.out.row (by (repeat (first | exact Step.refl _ | refine Step.alloc ?_ _ | refine Step.drew ?_ | refine Step.drewN ?_ _ | refine Step.setCell ?_ (by first | exact Nat.le_refl _ | assumption | omega | (simp; done) | (simp; omega)) _ | assumption | refine Step.trans ?_ (by assumption : Step _ _))))) (fun c hc => hc.elim id (fun e => (HK.out.all.lt e).1))) hlim.out (by rfl) (by rfl) ?_; intro v9 wa hA9 hB9 hG9 hn9; obtain ⟨M9, hF9⟩ := HK.out.grows v9 wa hA9 hB9 hG9 hn9; have HFB := Lib.hid hF9; obtain ⟨na, nn, nc, rfl, _⟩ := hA9.valN; clear hA9 hB9 hG9 hn9 hF9 HK)
            have HNN : Hid (nn = rss7.flatten.length) := Lib.hid (by
              obtain ⟨_, _, h⟩ := HFB.out.all.val
              injection h)
            have HRC : Hid (∀ W : World, Step wa W → Calls Tryz.prog 16 #[.pointer (some ⟨l, 0, none⟩), .int .u64 0, .int .u64 (nn : Int)] W fun e w' => ∃ v ds, e = .returned (.tuple #[v, .int .i64 0]) ∧ Gr.Own (tGB 5) 40 w' (· < W.heap.size) W.heap.size v ds ∧ Step W w' ∧ Hid (ds.map Prod.fst = rss7.flatten) ∧ ApartD ds) := Lib.hid (fun W hW => by
              rw [HNN.out]
              exact Sess.records (HFB.out.sess.step hW) (by simp) (by omega))
            have HNX : Hid (∀ W : World, Step wa W → Calls Tryz.prog 17 #[.pointer (some ⟨l, 0, none⟩)] W fun e w' => e = .returned (.int .u64 (nn : Int)) ∧ Step W w') := Lib.hid (fun W hW => by
              rw [HNN.out]
              exact Sess.next (HFB.out.sess.step hW))
            have HEQ : Hid (∀ (W : World) (v : Value) (M3 : Nat → Prop), Step wa W → (Ty.slice Ty.bytes).rep W M3 [v] rss7.flatten → Calls Tryz.prog 18 #[v, .slice na nn nc] W fun e w' => e = .returned (.bool true) ∧ Step W w') := Lib.hid (fun W v M3 hW hv => Equals_same hv (own_slice (HFB.out.all.step hW)))
            have hnn : nn ≤ 1000 := by
              have h1 := HFB.out.sess.recs
              rw [HNN.out]
              omega
            have hwn : IntKind.u64.wrap (nn : Int) = (nn : Int) := by rw [IntKind.wrap_u64]; omega
            go_wp2_with (first
              | (go_at_call 16; refine (HRC.out _ (by (repeat (first | exact Step.refl _ | refine Step.alloc ?_ _ | refine Step.drew ?_ | refine Step.drewN ?_ _ | refine Step.setCell ?_ (by first | exact Nat.le_refl _ | assumption | omega | (simp; done) | (simp; omega)) _ | assumption | refine Step.trans ?_ (by assumption : Step _ _))))).mono ?_; rintro e w8 ⟨v8, ds8, rfl, hO8, hS8, hm8, _⟩; have HS8 : Hid (Step wa w8) := Lib.hid (Step.trans (by (repeat (first | exact Step.refl _ | refine Step.alloc ?_ _ | refine Step.drew ?_ | refine Step.drewN ?_ _ | refine Step.setCell ?_ (by first | exact Nat.le_refl _ | assumption | omega | (simp; done) | (simp; omega)) _ | assumption | refine Step.trans ?_ (by assumption : Step _ _)))) hS8); obtain ⟨a8, n8, c8, rfl, HN8⟩ := hO8.valN; have HR8 : Hid ((Ty.slice Ty.bytes).rep w8 (fun _ => False) [.slice a8 n8 c8] rss7.flatten) := Lib.hid (by rw [← hm8.out]; exact slice_mapE Prod.fst rfl tGB_bytes (own_slice hO8)); clear hS8 hO8)
              | (go_at_call 17; refine (HNX.out _ (HS8.out.trans (by (repeat (first | exact Step.refl _ | refine Step.alloc ?_ _ | refine Step.drew ?_ | refine Step.drewN ?_ _ | refine Step.setCell ?_ (by first | exact Nat.le_refl _ | assumption | omega | (simp; done) | (simp; omega)) _ | assumption | refine Step.trans ?_ (by assumption : Step _ _)))))).mono ?_; rintro e w9 ⟨rfl, hS9⟩; have HS9 : Hid (Step w8 w9) := Lib.hid (Step.trans (by (repeat (first | exact Step.refl _ | refine Step.alloc ?_ _ | refine Step.drew ?_ | refine Step.drewN ?_ _ | refine Step.setCell ?_ (by first | exact Nat.le_refl _ | assumption | omega | (simp; done) | (simp; omega)) _ | assumption | refine Step.trans ?_ (by assumption : Step _ _)))) hS9); clear hS9)
              | (go_at_call 18; refine (HEQ.out _ _ _ (HS8.out.trans (HS9.out.trans (by (repeat (first | exact Step.refl _ | refine Step.alloc ?_ _ | refine Step.drew ?_ | refine Step.drewN ?_ _ | refine Step.setCell ?_ (by first | exact Nat.le_refl _ | assumption | omega | (simp; done) | (simp; omega)) _ | assumption | refine Step.trans ?_ (by assumption : Step _ _)))))) (Ty.step _ HR8.out (HS9.out.trans (by (repeat (first | exact Step.refl _ | refine Step.alloc ?_ _ | refine Step.drew ?_ | refine Step.drewN ?_ _ | refine Step.setCell ?_ (by first | exact Nat.le_refl _ | assumption | omega | (simp; done) | (simp; omega)) _ | assumption | refine Step.trans ?_ (by assumption : Step _ _))))))).mono ?_; rintro e w10 ⟨rfl, hS10⟩; have HS10 : Hid (Step wa w10) := Lib.hid (HS8.out.trans (HS9.out.trans (Step.trans (by (repeat (first | exact Step.refl _ | refine Step.alloc ?_ _ | refine Step.drew ?_ | refine Step.drewN ?_ _ | refine Step.setCell ?_ (by first | exact Nat.le_refl _ | assumption | omega | (simp; done) | (simp; omega)) _ | assumption | refine Step.trans ?_ (by assumption : Step _ _)))) hS10))); clear hS10))
            go_roundw
            case rel => exact ⟨k + 1, _, D7, L7, rss7, by go_num, HLT.out, h20', Lib.hid (HFB.out.next (HS10.out.trans (by (repeat (first | exact Step.refl _ | refine Step.alloc ?_ _ | refine Step.drew ?_ | refine Step.drewN ?_ _ | refine Step.setCell ?_ (by first | exact Nat.le_refl _ | assumption | omega | (simp; done) | (simp; omega)) _ | assumption | refine Step.trans ?_ (by assumption : Step _ _))))))⟩
            case measure => simp [Go.RowKit.intOf]; omega

        · have hd2 : decide ((k : Int) < 20) = false := decide_eq_false (by omega)
          have HOP2 : Hid (∀ W : World, Step wr W → Calls Tryz.prog 12 #[.pointer (some ⟨w1.heap.size, 0, none⟩), encStr [119, 46], .int .i64 most] W fun e w' => ∃ l2 M2, e = .returned (.tuple #[.pointer (some ⟨l2, 0, none⟩), .int .i64 0]) ∧ Step W w' ∧ W.heap.size ≤ l2 ∧ Sess [119, 46] w' M2 (fun _ => False) w1.heap.size l2 D ⟨max 1 most, L.files, true⟩ rss k ∧ (∀ c, M' c → M2 c) ∧ (∀ c, c < W.heap.size → M2 c → M' c)) := Lib.hid (fun W hW => by
            obtain ⟨sf, sn, g, hD, hL, _⟩ := HFA.out.sess.mem
            exact Sess.open_ (hD.step hW) HFA.out.sess.inv HFA.out.sess.used HFA.out.sess.room HFA.out.sess.cnt HFA.out.sess.files HFA.out.sess.recs hm (by simp) (by omega))
          have hsum : Hid ((rss.map List.length).sum = rss.flatten.length) := Lib.hid List.length_flatten.symm
          generalize rss.flatten.length = T at *
          clear HON hcn
          go_wp2_with (first
            | (go_at_call 12; refine (HOP2.out _ (by (repeat (first | exact Step.refl _ | refine Step.alloc ?_ _ | refine Step.drew ?_ | refine Step.drewN ?_ _ | refine Step.setCell ?_ (by first | exact Nat.le_refl _ | assumption | omega | (simp; done) | (simp; omega)) _ | assumption | refine Step.trans ?_ (by assumption : Step _ _))))).mono ?_; rintro e w4 ⟨l2, M2, rfl, hS4, hl4, hse4, _, _⟩; have HS4 : Hid (Step wr w4) := Lib.hid (Step.trans (by (repeat (first | exact Step.refl _ | refine Step.alloc ?_ _ | refine Step.drew ?_ | refine Step.drewN ?_ _ | refine Step.setCell ?_ (by first | exact Nat.le_refl _ | assumption | omega | (simp; done) | (simp; omega)) _ | assumption | refine Step.trans ?_ (by assumption : Step _ _)))) hS4); have HNX := Lib.hid hse4; clear hS4 hse4)
            | (go_at_call 17; refine (Sess.next (HNX.out.step (by (repeat (first | exact Step.refl _ | refine Step.alloc ?_ _ | refine Step.drew ?_ | refine Step.drewN ?_ _ | refine Step.setCell ?_ (by first | exact Nat.le_refl _ | assumption | omega | (simp; done) | (simp; omega)) _ | assumption | refine Step.trans ?_ (by assumption : Step _ _)))))).mono ?_; rintro e w5 ⟨rfl, hS5⟩; have HS5 : Hid (Step wr w5) := Lib.hid (HS4.out.trans (Step.trans (by (repeat (first | exact Step.refl _ | refine Step.alloc ?_ _ | refine Step.drew ?_ | refine Step.drewN ?_ _ | refine Step.setCell ?_ (by first | exact Nat.le_refl _ | assumption | omega | (simp; done) | (simp; omega)) _ | assumption | refine Step.trans ?_ (by assumption : Step _ _)))) hS5)); clear hS5))
          go_ret
          refine ⟨?_, HFA.out.step.trans (HS5.out.trans (by (repeat (first | exact Step.refl _ | refine Step.alloc ?_ _ | refine Step.drew ?_ | refine Step.drewN ?_ _ | refine Step.setCell ?_ (by first | exact Nat.le_refl _ | assumption | omega | (simp; done) | (simp; omega)) _ | assumption | refine Step.trans ?_ (by assumption : Step _ _)))))⟩
          show Ending.returned (Value.bool ((((rss.map List.length).sum : Nat) : Int) == (T : Int))) = _
          rw [hsum.out]
          simp

      · have hd1 : decide ((k : Int) < (lists.length : Int)) = false := decide_eq_false (by omega)
        have HOP2 : Hid (∀ W : World, Step wr W → Calls Tryz.prog 12 #[.pointer (some ⟨w1.heap.size, 0, none⟩), encStr [119, 46], .int .i64 most] W fun e w' => ∃ l2 M2, e = .returned (.tuple #[.pointer (some ⟨l2, 0, none⟩), .int .i64 0]) ∧ Step W w' ∧ W.heap.size ≤ l2 ∧ Sess [119, 46] w' M2 (fun _ => False) w1.heap.size l2 D ⟨max 1 most, L.files, true⟩ rss k ∧ (∀ c, M' c → M2 c) ∧ (∀ c, c < W.heap.size → M2 c → M' c)) := Lib.hid (fun W hW => by
          obtain ⟨sf, sn, g, hD, hL, _⟩ := HFA.out.sess.mem
          exact Sess.open_ (hD.step hW) HFA.out.sess.inv HFA.out.sess.used HFA.out.sess.room HFA.out.sess.cnt HFA.out.sess.files HFA.out.sess.recs hm (by simp) (by omega))
        have hsum : Hid ((rss.map List.length).sum = rss.flatten.length) := Lib.hid List.length_flatten.symm
        generalize rss.flatten.length = T at *
        clear HON hcn
        go_wp2_with (first
          | (go_at_call 12; refine (HOP2.out _ (by (repeat (first | exact Step.refl _ | refine Step.alloc ?_ _ | refine Step.drew ?_ | refine Step.drewN ?_ _ | refine Step.setCell ?_ (by first | exact Nat.le_refl _ | assumption | omega | (simp; done) | (simp; omega)) _ | assumption | refine Step.trans ?_ (by assumption : Step _ _))))).mono ?_; rintro e w4 ⟨l2, M2, rfl, hS4, hl4, hse4, _, _⟩; have HS4 : Hid (Step wr w4) := Lib.hid (Step.trans (by (repeat (first | exact Step.refl _ | refine Step.alloc ?_ _ | refine Step.drew ?_ | refine Step.drewN ?_ _ | refine Step.setCell ?_ (by first | exact Nat.le_refl _ | assumption | omega | (simp; done) | (simp; omega)) _ | assumption | refine Step.trans ?_ (by assumption : Step _ _)))) hS4); have HNX := Lib.hid hse4; clear hS4 hse4)
          | (go_at_call 17; refine (Sess.next (HNX.out.step (by (repeat (first | exact Step.refl _ | refine Step.alloc ?_ _ | refine Step.drew ?_ | refine Step.drewN ?_ _ | refine Step.setCell ?_ (by first | exact Nat.le_refl _ | assumption | omega | (simp; done) | (simp; omega)) _ | assumption | refine Step.trans ?_ (by assumption : Step _ _)))))).mono ?_; rintro e w5 ⟨rfl, hS5⟩; have HS5 : Hid (Step wr w5) := Lib.hid (HS4.out.trans (Step.trans (by (repeat (first | exact Step.refl _ | refine Step.alloc ?_ _ | refine Step.drew ?_ | refine Step.drewN ?_ _ | refine Step.setCell ?_ (by first | exact Nat.le_refl _ | assumption | omega | (simp; done) | (simp; omega)) _ | assumption | refine Step.trans ?_ (by assumption : Step _ _)))) hS5)); clear hS5))
        go_ret
        refine ⟨?_, HFA.out.step.trans (HS5.out.trans (by (repeat (first | exact Step.refl _ | refine Step.alloc ?_ _ | refine Step.drew ?_ | refine Step.drewN ?_ _ | refine Step.setCell ?_ (by first | exact Nat.le_refl _ | assumption | omega | (simp; done) | (simp; omega)) _ | assumption | refine Step.trans ?_ (by assumption : Step _ _)))))⟩
        show Ending.returned (Value.bool ((((rss.map List.length).sum : Nat) : Int) == (T : Int))) = _
        rw [hsum.out]
        simp

end Go.Proofs.YthebdlkmoailaaaGreatDoor
