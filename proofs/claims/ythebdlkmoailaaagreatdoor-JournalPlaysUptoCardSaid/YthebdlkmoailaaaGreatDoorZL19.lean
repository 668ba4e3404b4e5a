/-
  Walk: small (acts with short records).
-/
import Derived.Test.YthebdlkmoailaaaGreatDoorZP10
import Derived.Test.YthebdlkmoailaaaGreatDoorZP2
import Derived.Test.YthebdlkmoailaaaGreatDoorZAct
set_option linter.unusedVariables false
set_option linter.unusedSimpArgs false
namespace Go.Proofs.YthebdlkmoailaaaGreatDoor
open Go.RowKit Go.Gr Go.Maps
set_option linter.unusedSimpArgs false
set_option linter.unusedVariables false
def smallA (a : DAct) : DAct := { a with records := shortB a.records }
def smallB (acts : List DAct) (n : Nat) : List DAct := (acts.take n).map smallA
theorem stAct : SliceTy Tryz.prog 52 58 tAct.n := .mk' (z := .agg #[.int .i64 0, .slice none 0 0, .int .u64 0, .int .i64 0, .int .i64 0]) (by_ := 56) Tryz.underlying52 (by kernel_rfl) rfl (by decide) (by omega)
theorem tAct.cells {w : World} {M : Nat → Prop} {a : Option Addr} {n c k : Nat} {xs : List DAct} (h : (Ty.slice tAct).rep w M [.slice a n c] xs) (hk : k < xs.length) :
    ∃ g off v, a = some ⟨g, off, none⟩ ∧ g < w.heap.size ∧ w.cell? ⟨g, off + k * 5, none⟩ = some (.int .i64 xs[k].kind) ∧ w.cell? ⟨g, off + k * 5 + 1, none⟩ = some v ∧ w.cell? ⟨g, off + k * 5 + 2, none⟩ = some (.int .u64 (xs[k].n : Int)) ∧ w.cell? ⟨g, off + k * 5 + 3, none⟩ = some (.int .i64 xs[k].arm) ∧ w.cell? ⟨g, off + k * 5 + 4, none⟩ = some (.int .i64 xs[k].keep) ∧
      tAct.rep w M [.int .i64 xs[k].kind, v, .int .u64 (xs[k].n : Int), .int .i64 xs[k].arm, .int .i64 xs[k].keep] xs[k] := by
  obtain ⟨g, off, es, rfl, hg, _, ⟨v, rfl, hr⟩, hc⟩ := Ty.slice_at h hk
  exact ⟨g, off, v, rfl, hg, hc 0 _ rfl, hc 1 _ rfl, hc 2 _ rfl, hc 3 _ rfl, hc 4 _ rfl, v, rfl, hr⟩
abbrev actV (x : DAct) (v : Value) : Array Value := #[.int .i64 x.kind, v, .int .u64 (x.n : Int), .int .i64 x.arm, .int .i64 x.keep]
set_option maxRecDepth 100000 in
set_option maxHeartbeats 4000000 in
theorem lSmall_ {w : World} {M : Nat → Prop} {v : Value} {acts : List DAct} {n : Nat} (hM : ∀ c, M c → c < w.heap.size) (h : (Ty.slice tAct).rep w M [v] acts) (hn : n < 1000) :
    Calls Tryz.prog 28 #[v, .int .i64 (n : Int)] w fun e w' => ∃ v', e = .returned v' ∧ Gr.Own tAct 58 w' M w.heap.size v' (smallB acts n) ∧ Step w w' := by
  obtain ⟨a, c, rfl, _, _, hl⟩ := Ty.slice_val h
  rw [lim_eq] at hl
  have H := Lib.hid h
  have HM := Lib.hid hM
  clear h hM
  go_enter Tryz.func28, Tryz.ntmps28
  go_wp2
  go_loopw [5, 6] (fun ov iv w' => ∃ k : Nat, iv = .int .i64 (k : Int) ∧ k ≤ acts.length ∧ k ≤ n ∧ Hid (Gr.Own tAct 58 w' M w.heap.size ov (smallB acts k)) ∧ Hid (Step w w')) (fun _ iv _ => n - (Go.RowKit.intOf iv).toNat)
  case atStart => exact ⟨0, rfl, Nat.zero_le _, Nat.zero_le _, Lib.hid Gr.Own.nil, Lib.hid (Step.refl _)⟩
  case round =>
    obtain ⟨k, rfl, hk, hkn, HA, HS⟩ := hrel
    obtain ⟨oa, on, oc, rfl, HON⟩ := HA.out.valN
    by_cases hlt : k < acts.length
    · have hd : decide ((k : Int) < (acts.length : Int)) = true := decide_eq_true (by omega)
      by_cases h10 : k < n
      · have hd2 : decide ((k : Int) < (n : Int)) = true := decide_eq_true (by omega)
        have HR : Hid ((Ty.slice tAct).rep wr (fun b => M b ∨ (Value.slice oa on oc).ownBlock = some b) [.slice a acts.length c] acts) := Lib.hid (Ty.step _ (Ty.keep _ H.out (fun b hb hm => ⟨rfl, fun hx => hx.elim hm (fun hx => by have := (HA.out.lt hx).1; omega)⟩)) HS.out)
        obtain ⟨g9, o9, v9, rfl, hg9, q0, q1, q2, q3, q4, hr9⟩ := tAct.cells HR.out hlt
        have htk : Hid (smallB acts (k + 1) = smallB acts k ++ [smallA acts[k]]) := Lib.hid (by unfold smallB; rw [List.take_succ_eq_append_getElem hlt, List.map_append]; rfl)
        have HLT : Hid (k + 1 ≤ acts.length) := Lib.hid hlt
        generalize acts[k] = X at *
        obtain ⟨v, hv, hx1, hx2, hx3, hx4, hx5⟩ := hr9
        obtain rfl : v9 = v := by simpa using hv
        clear hv
        obtain ⟨ra, rc, rfl, _, _, _⟩ := Ty.slice_val hx2
        have HX2 := Lib.hid hx2
        have HX : Hid (I64 X.kind ∧ X.n < 18446744073709551616 ∧ I64 X.arm ∧ I64 X.keep) := Lib.hid ⟨hx1, hx3, hx4, hx5⟩
        have hlim : Hid ((smallB acts k).length + 1 ≤ lim) := Lib.hid (by unfold smallB; rw [List.length_map, List.length_take, lim_eq]; omega)
        have HON2 : Hid (∀ b, (Value.slice oa on oc).ownBlock = some b → b < wr.heap.size) := Lib.hid (fun b hb => (HA.out.lt hb).2)
        have HMW : Hid (∀ b, M b → b < wr.heap.size) := Lib.hid (fun b hb => Nat.lt_of_lt_of_le (HM.out b hb) HS.out.size)
        generalize X.records.length = rn at *
        clear hx1 hx2 hx3 hx4 hx5 HR
        go_upto_region 6 with fail
        refine wp_code (fun wx => CellsAt wx wr.heap.size (actV X (.slice ra rn rc)) 58 ∧ Step wr wx) ⟨CellsAt.new rfl, by (repeat (first | exact Step.refl _ | refine Step.alloc ?_ _ | refine Step.drew ?_ | refine Step.drewN ?_ _ | refine Step.setCell ?_ (by first | exact Nat.le_refl _ | assumption | omega | (simp; done) | (simp; omega)) _ | assumption | refine Step.trans ?_ (by assumption : Step _ _)))⟩ ?_
        rintro w3 ⟨hb3, hS3⟩
        obtain ⟨fb, hfb⟩ : ∃ fb, fb = wr.heap.size := ⟨_, rfl⟩
        rw [← hfb] at hb3 ⊢
        have hfl := hb3.lt
        have k1 : w3.cell? ⟨fb, 1, none⟩ = some (.slice ra rn rc) := hb3.cell 1
        have HB3 := Lib.hid hb3
        have HS3 := Lib.hid hS3
        have HX3 : Hid ((Ty.slice Ty.bytes).rep w3 (fun b => (M b ∨ (Value.slice oa on oc).ownBlock = some b) ∨ b = fb) [.slice ra rn rc] X.records) := Lib.hid (Ty.keep _ HX2.out (fun b hb hm => ⟨hS3.heap hb, fun hx => hx.elim hm (fun hx => by omega)⟩))
        have hz3 := hS3.size
        have hfw : wr.heap.size ≤ fb := by omega
        clear hS3 hb3 q0 q1 q2 q3 q4 HX2 hfb
        go_upto_region 7 with (go_at_call 13; refine (shorts_ (Ty.step _ HX3.out stp)).mono ?_; rintro e w4 ⟨v4, rfl, hA4, hS4⟩; obtain ⟨a4, n4, c4, rfl, HN4⟩ := hA4.valN; have HA4 := Lib.hid hA4; have HS4 : Hid (Step w3 w4) := Lib.hid (Step.trans stp hS4); have f4 : w4.frozen? ⟨fb, 1, none⟩ = false := CellsAt.frozen (HB3.out.step HS4.out) 1; have g4 : w4.cell? ⟨fb, 1, none⟩ = some (.slice ra rn rc) := CellsAt.cell (HB3.out.step HS4.out) 1; clear hA4 hS4)
        refine wp_code (fun wx => CellsAt wx fb (actV X (.slice a4 n4 c4)) 58 ∧ Step wr wx ∧ (Ty.slice Ty.bytes).rep wx (fun b => M b ∨ (Value.slice oa on oc).ownBlock = some b) [.slice a4 n4 c4] (shortB X.records)) ⟨CellsAt.set (CellsAt.step HB3.out HS4.out) 1 _, (HS3.out.trans HS4.out).setCell (by omega) _, ?_⟩ ?_
        · refine Ty.less _ (Ty.kept _ (Gr.Own.rep' HA4.out (fun b hb hm => ?_)) (Kept.setCell _ _ _ (.inr rfl))) (fun b _ hm => .inl hm)
          have h1 := (HA4.out.lt hb).1
          rcases hm with (hm | hm) | hm
          · have := HMW.out b hm; omega
          · have := HON2.out b hm; omega
          · omega
        rintro w5 ⟨hb5, hS5, hr5⟩
        have p0 : w5.cell? ⟨fb, 0, none⟩ = some (.int .i64 X.kind) := hb5.cell 0
        have p1 : w5.cell? ⟨fb, 1, none⟩ = some (.slice a4 n4 c4) := hb5.cell 1
        have p2 : w5.cell? ⟨fb, 2, none⟩ = some (.int .u64 (X.n : Int)) := hb5.cell 2
        have p3 : w5.cell? ⟨fb, 3, none⟩ = some (.int .i64 X.arm) := hb5.cell 3
        have p4 : w5.cell? ⟨fb, 4, none⟩ = some (.int .i64 X.keep) := hb5.cell 4
        have HS5 := Lib.hid hS5
        have HR5 : Hid (tAct.rep w5 (fun b => M b ∨ (Value.slice oa on oc).ownBlock = some b) [.int .i64 X.kind, .slice a4 n4 c4, .int .u64 (X.n : Int), .int .i64 X.arm, .int .i64 X.keep] (smallA X)) := Lib.hid ⟨_, rfl, HX.out.1, hr5, HX.out.2⟩
        clear hb5 hS5 hr5 k1 hfl hz3 hfw
        go_wp2_with (at_builtin; refine wpList_append_acc (w0 := w) (E := tAct) (ys := [smallA X]) rfl (.tmp 27) (.tmp 29) rfl stAct (HS.out.trans (HS5.out.trans stp)) (Gr.Own.step HA.out (HS5.out.trans stp)) (Src.oneAt (E := tAct) (y := smallA X) (by first | rfl | simp) (Ty.step _ HR5.out stp)) hlim.out (by rfl) (by rfl) ?_; intro v7 w7 hA7 hB7 hG7 hn7; have HA7 := Lib.hid hA7; have HS7 := Lib.hid hB7; clear hA7 hB7 hG7 hn7)
        go_roundw
        case rel => exact ⟨k + 1, by go_num, HLT.out, by omega, by rw [htk.out]; exact HA7, HS7⟩
        case measure => simp [Go.RowKit.intOf]; omega
      · have hd2 : decide ((k : Int) < (n : Int)) = false := decide_eq_false (by omega)
        have hke : Hid (smallB acts n = smallB acts k) := Lib.hid (by rw [show k = n by omega])
        go_wp2
        go_ret
        rw [hke.out]
        exact ⟨_, rfl, HA.out, HS.out⟩
    · have hd : decide ((k : Int) < (acts.length : Int)) = false := decide_eq_false (by omega)
      have hke : Hid (smallB acts n = smallB acts k) := Lib.hid (by unfold smallB; rw [List.take_of_length_le (show acts.length ≤ n by omega), List.take_of_length_le (show acts.length ≤ k by omega)])
      go_wp2
      go_ret
      rw [hke.out]
      exact ⟨_, rfl, HA.out, HS.out⟩
end Go.Proofs.YthebdlkmoailaaaGreatDoor
