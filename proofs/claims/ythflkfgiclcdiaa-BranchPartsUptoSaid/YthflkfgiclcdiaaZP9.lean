/-
  Walks: the reference's pairs (Scan, Get).
  Walks: the reference's pairs (Put), a request's writes (note).
-/
import Derived.Test.YthflkfgiclcdiaaZB3
import Derived.Test.YthflkfgiclcdiaaZMapS
import Derived.Deep.DeepCutAuto
import Derived.Deep.RegionHeld3
set_option linter.unusedVariables false
set_option linter.unusedSimpArgs false
namespace Go.Proofs.Ythflkfgiclcdiaa
open Go.RowKit Go.Gr
set_option linter.unusedSimpArgs false
/-- What is read in the elder world stays readable beside a row of the call's own. -/
theorem open_kk2 {P : Program} {c : Code} {Q : Exit → Act → World → Prop} {K : Act → World → Prop} {a : Act} {w : World} (h : ∀ a w, Code.wp P c Q a w → K a w) (h2 : Code.wp P c Q a w) : K a w := h a w h2
theorem old_src {α β : Type} {E : Ty α} {E' : Ty β} {e : TypeId} {w0 w : World} {M : Nat → Prop} {v : Value} {xs : List α} {cs : List Value} {x : β} (hs : Step w0 w) (hA : Own E e w M w0.heap.size v xs) (hx : E'.rep w0 M cs x) :
    E'.rep w (fun b => M b ∨ v.ownBlock = some b) cs x :=
  E'.keep hx fun b hb hm => ⟨hs.heap hb, fun h => h.elim hm (fun h => by have := (hA.lt h).1; omega)⟩
theorem rngB_no {lo hi k : List UInt8} (h : ¬ cmpB lo k ≤ 0) : rngB lo hi k = false := by simp [rngB, h]
theorem rngB_open {lo hi k : List UInt8} (h : cmpB lo k ≤ 0) (h2 : hi = []) : rngB lo hi k = true := by simp [rngB, h, h2]
theorem rngB_cut {lo hi k : List UInt8} (h : cmpB lo k ≤ 0) (h2 : hi ≠ []) : rngB lo hi k = decide (cmpB k hi < 0) := by simp [rngB, h, h2]
theorem scanB_yes {P : List DPair} {lo hi : List UInt8} {most k : Nat} (hk : k < P.length) (h : rngB lo hi P[k].key = true) (hn : (scanB (P.take k) lo hi most).length < most) : scanB (P.take (k + 1)) lo hi most = scanB (P.take k) lo hi most ++ [P[k]] := by
  unfold scanB at *
  rw [List.take_succ_eq_append_getElem hk, List.filter_append]
  have h1 : ([P[k]].filter fun p => rngB lo hi p.key) = [P[k]] := by simp [h]
  rw [h1]
  generalize ((P.take k).filter fun p => rngB lo hi p.key) = A at *
  rw [List.length_take] at hn
  rw [List.take_of_length_le (l := A ++ [P[k]]) (by rw [List.length_append, List.length_singleton]; omega), List.take_of_length_le (l := A) (by omega)]
theorem scanB_full {P : List DPair} {lo hi : List UInt8} {most k : Nat} (hk : k < P.length) (hn : ¬ (scanB (P.take k) lo hi most).length < most) : scanB (P.take (k + 1)) lo hi most = scanB (P.take k) lo hi most := by
  unfold scanB at *
  rw [List.take_succ_eq_append_getElem hk, List.filter_append]
  rw [List.length_take] at hn
  rw [List.take_append_of_le_length (by omega)]
theorem scanB_out {P : List DPair} {lo hi : List UInt8} {most k : Nat} (hk : k < P.length) (h : rngB lo hi P[k].key = false) : scanB (P.take (k + 1)) lo hi most = scanB (P.take k) lo hi most := by
  unfold scanB
  rw [List.take_succ_eq_append_getElem hk, List.filter_append]
  simp [h]
theorem scanB_len {P : List DPair} {lo hi : List UInt8} {most : Nat} : (scanB P lo hi most).length ≤ most ∧ (scanB P lo hi most).length ≤ P.length := by
  unfold scanB
  have := List.length_filter_le (fun p : DPair => rngB lo hi p.key) P
  rw [List.length_take]
  omega
set_option maxRecDepth 100000 in
set_option maxHeartbeats 4000000 in
theorem refScan_ {w : World} {M : Nat → Prop} {v fv tv : Value} {P : List DPair} {lo hi : List UInt8} {most : Nat} (h : (Ty.slice tPair).rep w M [v] P) (hf : Ty.bytes.rep w M [fv] lo) (ht : Ty.bytes.rep w M [tv] hi) (h1 : 1 ≤ most) (h2 : most ≤ 1000000000) :
    Calls Try.prog 66 #[v, fv, tv, .int .i64 (most : Int)] w fun e w' => ∃ v', e = .returned v' ∧ Own tPair 95 w' M w.heap.size v' (scanB P lo hi most) ∧ Step w w' := by
  obtain ⟨a, c, rfl, _, _, hl⟩ := Ty.slice_val h
  obtain ⟨fa, fc, rfl, _⟩ := Ty.slice_val hf
  obtain ⟨ta, tc, rfl, _⟩ := Ty.slice_val ht
  rw [lim_eq] at hl
  obtain ⟨L, hL⟩ : ∃ L, hi.length = L := ⟨_, rfl⟩
  rw [hL] at ht ⊢
  have H := Lib.hid h
  have HF := Lib.hid hf
  have HT := Lib.hid ht
  have HL := Lib.hid hL
  clear h hf ht hL
  go_enter Try.func66, Try.ntmps66
  go_wp2
  go_loopw [9, 10] (fun o i w' => ∃ k : Nat, i = .int .i64 k ∧ k ≤ P.length ∧ Own tPair 95 w' M w.heap.size o (scanB (P.take k) lo hi most) ∧ Step w w') (fun _ i _ => P.length - (Go.RowKit.intOf i).toNat)
  case atStart => exact ⟨0, rfl, by omega, by rw [show scanB (P.take 0) lo hi most = [] by simp [scanB]]; exact Own.nil, Step.refl _⟩
  case round =>
    obtain ⟨k, rfl, hk, hA, hB⟩ := hrel
    have HA := Lib.hid hA
    obtain ⟨oa, on, oc, rfl, HN⟩ := hA.valN
    clear hA
    by_cases hlt : k < P.length
    · have hsl := (scanB_len (P := P.take k) (lo := lo) (hi := hi) (most := most)).2
      rw [List.length_take] at hsl
      have hon : on ≤ k := by have := HN.out; omega
      have hY := Lib.hid (scanB_yes (lo := lo) (hi := hi) (most := most) hlt)
      have hF := Lib.hid (scanB_full (lo := lo) (hi := hi) (most := most) hlt)
      have hO := Lib.hid (scanB_out (lo := lo) (hi := hi) (most := most) hlt)
      have hNo := Lib.hid (@rngB_no lo hi P[k].key)
      have hOp := Lib.hid (@rngB_open lo hi P[k].key)
      have hCu := Lib.hid (@rngB_cut lo hi P[k].key)
      clear hsl
      obtain ⟨pb, po, pes, rfl, phb, _, pu, pcu⟩ := Ty.slice_at H.out hlt
      obtain ⟨pc0, pc1, rfl, ph0, ph1⟩ := pu
      have pq0 := (Step.cell (w' := wr) (by (repeat (first | exact Step.refl _ | refine Step.alloc ?_ _ | refine Step.drew ?_ | refine Step.drewN ?_ _ | refine Step.setCell ?_ (by first | exact Nat.le_refl _ | assumption | omega | (simp; done) | (simp; omega)) _ | assumption | refine Step.trans ?_ (by assumption : Step _ _)))) phb _).trans (pcu 0 _ rfl)
      have pq1 := (Step.cell (w' := wr) (by (repeat (first | exact Step.refl _ | refine Step.alloc ?_ _ | refine Step.drew ?_ | refine Step.drewN ?_ _ | refine Step.setCell ?_ (by first | exact Nat.le_refl _ | assumption | omega | (simp; done) | (simp; omega)) _ | assumption | refine Step.trans ?_ (by assumption : Step _ _)))) phb _).trans (pcu 1 _ rfl)
      simp only [show tPair.n = 2 from rfl, Nat.add_zero] at pq0 pq1
      obtain ⟨pa0, pn0, rfl, _⟩ := Ty.slice_val ph0
      obtain ⟨pa1, pn1, rfl, _⟩ := Ty.slice_val ph1
      have pH0 := Lib.hid ph0
      have pH1 := Lib.hid ph1
      clear pcu ph0 ph1
      go_upto_region 5 with fail
      go_cut [11] (fun s wx => s = .bool (rngB lo hi P[k].key) ∧ ∃ n, wx = wr.drewN n)
      case first =>
        have hc1 := Lib.hid (fun (W : World) (hW : Step wr W) => Cmp_ (Ty.step _ (Ty.step _ HF.out hB) hW) (Ty.step _ (Ty.step _ pH0.out hB) hW))
        have hc2 := Lib.hid (fun (W : World) (hW : Step wr W) => Cmp_ (Ty.step _ (Ty.step _ pH0.out hB) hW) (Ty.step _ (Ty.step _ HT.out hB) hW))
        by_cases h3 : cmpB lo P[k].key ≤ 0
        · by_cases h4 : L = 0
          · have h5 : ((L : Int) == 0) = true := beq_iff_eq.2 (by omega)
            have hR := Lib.hid (hOp.out h3 (List.length_eq_zero_iff.1 (HL.out.trans h4)))
            clear h4
            go_wp2_with (go_at_call 45; refine (hc1.out _ (by (repeat (first | exact Step.refl _ | refine Step.alloc ?_ _ | refine Step.drew ?_ | refine Step.drewN ?_ _ | refine Step.setCell ?_ (by first | exact Nat.le_refl _ | assumption | omega | (simp; done) | (simp; omega)) _ | assumption | refine Step.trans ?_ (by assumption : Step _ _))))).mono ?_; clear hc1; rintro e w2 ⟨rfl, n2, rfl⟩)
            go_meet
            case rel => exact ⟨by rw [hR.out], (by first | exact ⟨_, rfl⟩ | (simp only [World.drewN_drewN]; exact ⟨_, rfl⟩))⟩
          · have h5 : ((L : Int) == 0) = false := beq_eq_false_iff_ne.2 (by omega)
            have hR := Lib.hid (hCu.out h3 (fun e => h4 (by rw [← HL.out, e]; rfl)))
            clear h4
            go_wp2_with (first
              | (go_at_call 45; refine (hc1.out _ (by (repeat (first | exact Step.refl _ | refine Step.alloc ?_ _ | refine Step.drew ?_ | refine Step.drewN ?_ _ | refine Step.setCell ?_ (by first | exact Nat.le_refl _ | assumption | omega | (simp; done) | (simp; omega)) _ | assumption | refine Step.trans ?_ (by assumption : Step _ _))))).mono ?_; clear hc1; rintro e w2 ⟨rfl, n2, rfl⟩)
              | (go_at_call 45; refine (hc2.out _ (by (repeat (first | exact Step.refl _ | refine Step.alloc ?_ _ | refine Step.drew ?_ | refine Step.drewN ?_ _ | refine Step.setCell ?_ (by first | exact Nat.le_refl _ | assumption | omega | (simp; done) | (simp; omega)) _ | assumption | refine Step.trans ?_ (by assumption : Step _ _))))).mono ?_; clear hc2; rintro e w3 ⟨rfl, n3, rfl⟩))
            go_meet
            case rel => exact ⟨by rw [hR.out], (by first | exact ⟨_, rfl⟩ | (simp only [World.drewN_drewN]; exact ⟨_, rfl⟩))⟩
        · have hR := Lib.hid (hNo.out h3)
          go_wp2_with (go_at_call 45; refine (hc1.out _ (by (repeat (first | exact Step.refl _ | refine Step.alloc ?_ _ | refine Step.drew ?_ | refine Step.drewN ?_ _ | refine Step.setCell ?_ (by first | exact Nat.le_refl _ | assumption | omega | (simp; done) | (simp; omega)) _ | assumption | refine Step.trans ?_ (by assumption : Step _ _))))).mono ?_; clear hc1; rintro e w2 ⟨rfl, n2, rfl⟩)
          go_meet
          case rel => exact ⟨by rw [hR.out], (by first | exact ⟨_, rfl⟩ | (simp only [World.drewN_drewN]; exact ⟨_, rfl⟩))⟩
      case rest =>
        obtain ⟨rfl, n, hwc⟩ := hcut
        have hsc : Step wr wc := hwc ▸ (Step.refl wr).drewN n
        have HW := Lib.hid hwc
        clear hwc
        have HP : Hid (tPair.rep wc (fun b => M b ∨ (Value.slice oa on oc).ownBlock = some b) [.slice pa0 P[k].key.length pn0, .slice pa1 P[k].value.length pn1] P[k]) := Lib.hid (by
          refine Ty.step _ (old_src hB HA.out ?_) hsc
          exact ⟨_, _, rfl, pH0.out, pH1.out⟩)
        have hq0 := (hsc.cell (by have := hB.size; omega : pb < wr.heap.size) _).trans pq0
        have hq1 := (hsc.cell (by have := hB.size; omega : pb < wr.heap.size) _).trans pq1
        have hBc : Step w wc := hB.trans hsc
        have HAc := Lib.hid (HA.out.step hsc)
        clear pq0 pq1
        refine open_kk2 (by assumption) ?_
        by_cases hr : rngB lo hi P[k].key = true
        · rw [hr]
          by_cases hn : on < most
          · have hd : decide ((on : Int) < (most : Int)) = true := decide_eq_true (by omega)
            have hm1 : decide ((most : Int) < 1) = false := decide_eq_false (by omega)
            have hY' := Lib.hid (hY.out hr (by rw [← HN.out]; exact hn))
            go_wp2_with (at_builtin; refine wpList_append_gen (E := tPair) (B := w.heap.size) (M := M) (ys := [P[k]]) rfl (.tmp 52) (.tmp 57) rfl stPairs (HAc.out.alloc _) (Src.oneAt (E := tPair) (by simp) HP.out) (by rw [← HN.out, lim_eq]; simp; omega) (by have := hBc.size; simp; omega) rfl rfl ?_; intro v4 w4 hA4 hG4 _; have hS4 := Own.grown (HAc.out.alloc _) (hBc.alloc _) hG4; have HA4 := Lib.hid hA4; clear hA4)
            go_roundw
            case rel => exact ⟨k + 1, by go_num, by omega, by rw [hY'.out]; exact HA4.out, hS4⟩
            case measure => ((try simp [Go.RowKit.intOf]); omega)
          · have hd : decide ((on : Int) < (most : Int)) = false := decide_eq_false (by omega)
            have hm1 : decide ((most : Int) < 1) = false := decide_eq_false (by omega)
            have hF' := Lib.hid (hF.out (by rw [← HN.out]; exact hn))
            go_wp2
            go_roundw
            case rel => exact ⟨k + 1, by go_num, by omega, by rw [hF'.out]; exact HAc.out, hBc⟩
            case measure => ((try simp [Go.RowKit.intOf]); omega)
        · have hr' : rngB lo hi P[k].key = false := by simpa using hr
          rw [hr']
          have hO' := Lib.hid (hO.out hr')
          go_wp2
          go_roundw
          case rel => exact ⟨k + 1, by go_num, by omega, by rw [hO'.out]; exact HAc.out, hBc⟩
          case measure => ((try simp [Go.RowKit.intOf]); omega)
    · obtain rfl : k = P.length := by omega
      rw [List.take_length] at HA
      go_wp2
      go_ret
      exact ⟨_, rfl, HA.out, hB⟩
/-- A key's value, looked for from the k-th on. -/
theorem getK_at {P : List DPair} {key : List UInt8} {k : Nat} (hk : k < P.length) (hno : ∀ j (hj : j < P.length), j < k → P[j].key ≠ key) (he : P[k].key = key) : getK DPair.key P key = some P[k] := by
  unfold getK
  rw [List.find?_eq_some_iff_getElem]
  exact ⟨by simpa using he, k, hk, rfl, fun j hj => by simpa using hno j (by omega) hj⟩
theorem getK_out {P : List DPair} {key : List UInt8} (hno : ∀ j (hj : j < P.length), P[j].key ≠ key) : getK DPair.key P key = none := by
  rw [getK_none]
  intro x hx
  obtain ⟨j, hj, rfl⟩ := List.getElem_of_mem hx
  exact hno j hj
set_option maxRecDepth 100000 in
set_option maxHeartbeats 2000000 in
theorem refGet_ {w : World} {M : Nat → Prop} {v kv : Value} {P : List DPair} {key : List UInt8} (h : (Ty.slice tPair).rep w M [v] P) (hk : Ty.bytes.rep w M [kv] key) :
    Calls Try.prog 64 #[v, kv] w fun e w' => (∃ n, w' = w.drewN n) ∧ match getK DPair.key P key with
      | none => e = .returned (.tuple #[.slice none 0 0, .bool false])
      | some p => ∃ v', e = .returned (.tuple #[v', .bool true]) ∧ Ty.bytes.rep w M [v'] p.value := by
  obtain ⟨a, c, rfl, _, _, hl⟩ := Ty.slice_val h
  obtain ⟨ka, kc, rfl, _⟩ := Ty.slice_val hk
  rw [lim_eq] at hl
  have H := Lib.hid h
  have HK := Lib.hid hk
  obtain ⟨G, hG⟩ : ∃ G, getK DPair.key P key = G := ⟨_, rfl⟩
  rw [hG]
  have HG := Lib.hid hG
  clear h hk hG
  go_enter Try.func64, Try.ntmps64
  go_wp2
  go_loopw [6] (fun i w' => ∃ k : Nat, i = .int .i64 k ∧ k ≤ P.length ∧ Hid (∀ j (hj : j < P.length), j < k → P[j].key ≠ key) ∧ ∃ n, w' = w.drewN n) (fun i _ => P.length - (Go.RowKit.intOf i).toNat)
  case atStart => exact ⟨0, rfl, by omega, Lib.hid (fun j _ h => absurd h (by omega)), 0, rfl⟩
  case round =>
    obtain ⟨k, rfl, hk, hag, n, hn⟩ := hrel
    have hB : Step w wr := hn ▸ (Step.refl w).drewN n
    have HN := Lib.hid hn
    clear hn
    by_cases hlt : k < P.length
    · obtain ⟨pb, po, pes, rfl, phb, _, pu, pcu⟩ := Ty.slice_at H.out hlt
      obtain ⟨pc0, pc1, rfl, ph0, ph1⟩ := pu
      have pq0 := (Step.cell (w' := wr) (by (repeat (first | exact Step.refl _ | refine Step.alloc ?_ _ | refine Step.drew ?_ | refine Step.drewN ?_ _ | refine Step.setCell ?_ (by first | exact Nat.le_refl _ | assumption | omega | (simp; done) | (simp; omega)) _ | assumption | refine Step.trans ?_ (by assumption : Step _ _)))) phb _).trans (pcu 0 _ rfl)
      have pq1 := (Step.cell (w' := wr) (by (repeat (first | exact Step.refl _ | refine Step.alloc ?_ _ | refine Step.drew ?_ | refine Step.drewN ?_ _ | refine Step.setCell ?_ (by first | exact Nat.le_refl _ | assumption | omega | (simp; done) | (simp; omega)) _ | assumption | refine Step.trans ?_ (by assumption : Step _ _)))) phb _).trans (pcu 1 _ rfl)
      simp only [show tPair.n = 2 from rfl, Nat.add_zero] at pq0 pq1
      obtain ⟨pa0, pn0, rfl, _⟩ := Ty.slice_val ph0
      obtain ⟨pa1, pn1, rfl, _⟩ := Ty.slice_val ph1
      have pH0 := Lib.hid ph0
      have pH1 := Lib.hid ph1
      clear pcu ph0 ph1
      have hc1 := Lib.hid (fun (W : World) (hW : Step wr W) => Equal_ (Ty.step _ (Ty.step _ pH0.out hB) hW) (Ty.step _ (Ty.step _ HK.out hB) hW))
      by_cases he : P[k].key = key
      · have hd : decide (P[k].key = key) = true := decide_eq_true he
        obtain rfl : some P[k] = G := (getK_at hlt hag.out he).symm.trans HG.out
        clear he HG
        go_wp2_with (go_at_call 67; refine (hc1.out _ (by (repeat (first | exact Step.refl _ | refine Step.alloc ?_ _ | refine Step.drew ?_ | refine Step.drewN ?_ _ | refine Step.setCell ?_ (by first | exact Nat.le_refl _ | assumption | omega | (simp; done) | (simp; omega)) _ | assumption | refine Step.trans ?_ (by assumption : Step _ _))))).mono ?_; clear hc1; rintro e w2 ⟨rfl, n2, rfl⟩; rw [hd])
        go_ret2
        exact ⟨by rw [HN.out]; exact (by first | exact ⟨_, rfl⟩ | (simp only [World.drewN_drewN]; exact ⟨_, rfl⟩)), _, rfl, pH1.out⟩
      · have hd : decide (P[k].key = key) = false := decide_eq_false he
        have HE := Lib.hid he
        clear he
        go_wp2_with (go_at_call 67; refine (hc1.out _ (by (repeat (first | exact Step.refl _ | refine Step.alloc ?_ _ | refine Step.drew ?_ | refine Step.drewN ?_ _ | refine Step.setCell ?_ (by first | exact Nat.le_refl _ | assumption | omega | (simp; done) | (simp; omega)) _ | assumption | refine Step.trans ?_ (by assumption : Step _ _))))).mono ?_; clear hc1; rintro e w2 ⟨rfl, n2, rfl⟩; rw [hd])
        go_roundw
        case rel =>
          refine ⟨k + 1, by go_num, by omega, Lib.hid (fun j hj hlt' => ?_), by rw [HN.out]; exact (by first | exact ⟨_, rfl⟩ | (simp only [World.drewN_drewN]; exact ⟨_, rfl⟩))⟩
          rcases Nat.lt_or_ge j k with h' | h'
          · exact hag.out j hj h'
          · obtain rfl : j = k := by omega
            exact HE.out
        case measure => ((try simp [Go.RowKit.intOf]); omega)
    · obtain rfl : k = P.length := by omega
      obtain rfl : none = G := (getK_out (key := key) (fun j hj => hag.out j hj hj)).symm.trans HG.out
      clear hag HG
      go_wp2
      go_ret2
      exact ⟨by rw [HN.out]; exact (by first | exact ⟨_, rfl⟩ | (simp only [World.drewN_drewN]; exact ⟨_, rfl⟩)), rfl⟩
end Go.Proofs.Ythflkfgiclcdiaa

namespace Go.Proofs.Ythflkfgiclcdiaa
open Go.RowKit Go.Gr
set_option linter.unusedSimpArgs false
theorem putL_cons {α : Type} {key : α → List UInt8} {x : α} {d : Bool} {l : List α} {k : Nat} (hk : k < l.length) {c : Int} (hc : cmpB (key l[k]) (key x) = c) :
    putL key x d (l.drop k) = (if 0 ≤ c ∧ d = false then [x] else []) ++ (if c ≠ 0 then [l[k]] else []) ++ putL key x (d || decide (0 ≤ c)) (l.drop (k + 1)) := by
  rw [List.drop_eq_getElem_cons hk]
  conv => lhs; unfold putL
  have h1 : (cmpB (key x) (key l[k]) ≤ 0) ↔ 0 ≤ c := by rw [← hc, cmpB_swap (key l[k]) (key x)]; omega
  have h2 : (key l[k] = key x) ↔ c = 0 := by rw [← hc]; exact cmpB_iff.symm
  simp only [h1, h2]
  congr 2
  by_cases h : c = 0 <;> simp [h]
theorem putL_len {α : Type} {key : α → List UInt8} {x : α} : ∀ (l : List α) (d : Bool), (putL key x d l).length ≤ 2 * l.length + 1
  | [], d => by cases d <;> simp [putL]
  | y :: r, d => by
    unfold putL
    have := putL_len (key := key) (x := x) r (d || decide (cmpB (key x) (key y) ≤ 0))
    rw [List.length_append, List.length_append]
    have h1 : (if cmpB (key x) (key y) ≤ 0 ∧ d = false then [x] else []).length ≤ 1 := by split <;> simp
    have h2 : (if key y = key x then [] else [y]).length ≤ 1 := by split <;> simp
    simp only [List.length_cons]
    omega
theorem putW_eq {P : List DPair} {x : DWrite} (h : RisP P) : putL DPair.key ⟨x.key, x.value⟩ x.gone P = putW P x := by
  unfold putW
  cases hg : x.gone with
  | true => exact putL_done
  | false => exact putL_put h
set_option maxRecDepth 100000 in
set_option maxHeartbeats 4000000 in
theorem refPut_ {w : World} {M : Nat → Prop} {v kv vv : Value} {g : Bool} {P : List DPair} {key value : List UInt8} (h : (Ty.slice tPair).rep w M [v] P) (hk : Ty.bytes.rep w M [kv] key) (hv : Ty.bytes.rep w M [vv] value) (hP : P.length ≤ 1000000) (hM : ∀ b, M b → b < w.heap.size) :
    Calls Try.prog 30 #[v, .agg #[kv, vv, .bool g]] w fun e w' => ∃ v', e = .returned v' ∧ Own tPair 95 w' M w.heap.size v' (putL DPair.key ⟨key, value⟩ g P) ∧ Step w w' := by
  obtain ⟨a, c, rfl, _⟩ := Ty.slice_val h
  obtain ⟨ka, kc, rfl, _⟩ := Ty.slice_val hk
  obtain ⟨va, vc, rfl, _⟩ := Ty.slice_val hv
  have H := Lib.hid h
  have HK := Lib.hid hk
  have HV := Lib.hid hv
  have HM := Lib.hid hM
  clear h hk hv hM
  obtain ⟨FIN, hFIN⟩ : ∃ FIN, putL DPair.key ⟨key, value⟩ g P = FIN := ⟨_, rfl⟩
  rw [hFIN]
  have hL : FIN.length ≤ 2 * P.length + 1 := hFIN ▸ putL_len P g
  have HFIN := Lib.hid hFIN
  clear hFIN
  go_enter Try.func30, Try.ntmps30
  go_wp2
  refine wp_code (fun wx => wx.heap[w.heap.size]? = some (.cells #[.slice ka key.length kc, .slice va value.length vc, .bool g] 74 (0, 0)) ∧ Step w wx ∧ wx.heap.size = w.heap.size + 1) ?_ ?_
  · exact ⟨heap_alloc_at rfl, by (repeat (first | exact Step.refl _ | refine Step.alloc ?_ _ | refine Step.drew ?_ | refine Step.drewN ?_ _ | refine Step.setCell ?_ (by first | exact Nat.le_refl _ | assumption | omega | (simp; done) | (simp; omega)) _ | assumption | refine Step.trans ?_ (by assumption : Step _ _))), by simp⟩
  rintro w0 ⟨hbx, hS0, hz0⟩
  have HBX := Lib.hid hbx
  replace H := Lib.hid (Ty.step _ H.out hS0)
  replace HK := Lib.hid (Ty.step _ HK.out hS0)
  replace HV := Lib.hid (Ty.step _ HV.out hS0)
  replace HM : Hid (∀ b, M b → b < w0.heap.size) := Lib.hid (fun b h => by have := HM.out b h; omega)
  have HS0 := Lib.hid hS0
  have HZ0 := Lib.hid hz0
  clear hbx hS0
  go_loopw [5, 6, 7] (fun o d i w' => ∃ (k : Nat) (done : Bool) (acc : List DPair), i = .int .i64 k ∧ d = .bool done ∧ k ≤ P.length ∧ Hid (FIN = acc ++ putL DPair.key ⟨key, value⟩ done (P.drop k)) ∧ Own tPair 95 w' M w0.heap.size o acc ∧ Step w0 w') (fun _ _ i _ => P.length - (Go.RowKit.intOf i).toNat)
  case atStart => exact ⟨0, g, [], rfl, rfl, by omega, Lib.hid (by rw [List.drop_zero, HFIN.out]; rfl), Own.nil, Step.refl _⟩
  case round =>
    obtain ⟨k, done, acc, rfl, rfl, hk, hF, hA, hB⟩ := hrel
    have HA := Lib.hid hA
    have hzr := hB.size
    have hbr := (hB.heap (by omega : w.heap.size < w0.heap.size)).trans HBX.out
    have x0 : wr.cell? ⟨w.heap.size, 0, none⟩ = some (.slice ka key.length kc) := cell_of_row wr _ 0 _ _ (0, 0) hbr
    have x1 : wr.cell? ⟨w.heap.size, 1, none⟩ = some (.slice va value.length vc) := cell_of_row wr _ 1 _ _ (0, 0) hbr
    have hacc : acc.length ≤ FIN.length := by rw [hF.out]; simp
    have HBR := Lib.hid hbr
    clear hA hbr
    by_cases hlt : k < P.length
    · obtain ⟨pb, po, pes, rfl, phb, _, pu, pcu⟩ := Ty.slice_at H.out hlt
      obtain ⟨pc0, pc1, rfl, ph0, ph1⟩ := pu
      have pq0 := (Step.cell (w' := wr) (by (repeat (first | exact Step.refl _ | refine Step.alloc ?_ _ | refine Step.drew ?_ | refine Step.drewN ?_ _ | refine Step.setCell ?_ (by first | exact Nat.le_refl _ | assumption | omega | (simp; done) | (simp; omega)) _ | assumption | refine Step.trans ?_ (by assumption : Step _ _)))) phb _).trans (pcu 0 _ rfl)
      have pq1 := (Step.cell (w' := wr) (by (repeat (first | exact Step.refl _ | refine Step.alloc ?_ _ | refine Step.drew ?_ | refine Step.drewN ?_ _ | refine Step.setCell ?_ (by first | exact Nat.le_refl _ | assumption | omega | (simp; done) | (simp; omega)) _ | assumption | refine Step.trans ?_ (by assumption : Step _ _)))) phb _).trans (pcu 1 _ rfl)
      simp only [show tPair.n = 2 from rfl, Nat.add_zero] at pq0 pq1
      obtain ⟨pa0, pn0, rfl, _⟩ := Ty.slice_val ph0
      obtain ⟨pa1, pn1, rfl, _⟩ := Ty.slice_val ph1
      have pH0 := Lib.hid ph0
      have pH1 := Lib.hid ph1
      clear pcu ph0 ph1
      obtain ⟨cc, hcc⟩ : ∃ cc, cmpB P[k].key key = cc := ⟨_, rfl⟩
      have HC := Lib.hid (fun (W : World) (hW : Step wr W) => Cmp_ (Ty.step _ (Ty.step _ pH0.out hB) hW) (Ty.step _ (Ty.step _ HK.out hB) hW))
      rw [hcc] at HC
      have hF2 : FIN = acc ++ ((if 0 ≤ cc ∧ done = false then [⟨key, value⟩] else []) ++ (if cc ≠ 0 then [P[k]] else []) ++ putL DPair.key ⟨key, value⟩ (done || decide (0 ≤ cc)) (P.drop (k + 1))) := by rw [hF.out, putL_cons hlt hcc]
      have HF2 := Lib.hid hF2
      have hcr : cc = -1 ∨ cc = 0 ∨ cc = 1 := hcc ▸ cmpB_range _ _
      have HCR := Lib.hid hcr
      clear hF2 hcc hcr hF
      go_upto_region 6 with fail
      go_quiet ((go_at_call 45; refine Calls.quiet_of (HC.out _ (by (repeat (first | exact Step.refl _ | refine Step.alloc ?_ _ | refine Step.drew ?_ | refine Step.drewN ?_ _ | refine Step.setCell ?_ (by first | exact Nat.le_refl _ | assumption | omega | (simp; done) | (simp; omega)) _ | assumption | refine Step.trans ?_ (by assumption : Step _ _)))))))
      refine wp_at (fun wx => Step wr wx) (by (repeat (first | exact Step.refl _ | refine Step.alloc ?_ _ | refine Step.drew ?_ | refine Step.drewN ?_ _ | refine Step.setCell ?_ (by first | exact Nat.le_refl _ | assumption | omega | (simp; done) | (simp; omega)) _ | assumption | refine Step.trans ?_ (by assumption : Step _ _)))) ?_
      rintro wd hSd
      go_upto_region 7 with fail
      go_cut [30] (fun s wx => s = .bool (decide (0 ≤ cc) && !done) ∧ wx = wd)
      case first =>
        by_cases h0 : 0 ≤ cc
        · have hd0 : decide (0 ≤ cc) = true := decide_eq_true h0
          cases done with
          | true => go_wp2; go_meet; case rel => exact ⟨by rw [hd0]; rfl, rfl⟩
          | false => go_wp2; go_meet; case rel => exact ⟨by rw [hd0]; rfl, rfl⟩
        · have hd0 : decide (0 ≤ cc) = false := decide_eq_false h0
          go_wp2
          go_meet
          case rel => exact ⟨by rw [hd0]; rfl, rfl⟩
      case rest =>
        obtain ⟨rfl, rfl⟩ := hcut
        refine open_kk2 (by assumption) ?_
        have hzd := hSd.size
        have hBd : Step w0 wc := hB.trans hSd
        have xd0 := (hSd.cell (by omega : w.heap.size < wr.heap.size) 0).trans x0
        have xd1 := (hSd.cell (by omega : w.heap.size < wr.heap.size) 1).trans x1
        go_cut [5, 6] (fun s5 s6 wx => s6 = .bool (done || decide (0 ≤ cc)) ∧ Own tPair 95 wx M w0.heap.size s5 (acc ++ (if 0 ≤ cc ∧ done = false then [⟨key, value⟩] else [])) ∧ Step w0 wx)
        case first =>
          by_cases hput : 0 ≤ cc ∧ done = false
          · obtain ⟨h0, rfl⟩ := hput
            rw [show (decide (0 ≤ cc) && !false) = true by rw [decide_eq_true h0]; rfl]
            have hrel : (false || decide (0 ≤ cc)) = true ∧ (if 0 ≤ cc ∧ false = false then [(⟨key, value⟩ : DPair)] else []) = [⟨key, value⟩] := ⟨by rw [decide_eq_true h0]; rfl, if_pos ⟨h0, rfl⟩⟩
            have HREL := Lib.hid hrel
            clear hrel
            obtain ⟨oa, on, oc, rfl, HN⟩ := HA.out.valN
            have HAd := Lib.hid (HA.out.step hSd)
            have hFre := Lib.hid (show ∀ b, (M b ∨ (Value.slice oa on oc).ownBlock = some b) → b < wc.heap.size from fun b hb => hb.elim (fun h => by have := HM.out b h; omega) (fun h => (HAd.out.lt h).2))
            go_wp2
            have hlim4 : acc.length + 1 ≤ lim := by rw [lim_eq]; omega
            go_region_held3 (fun w' => w'.cell? ⟨w.heap.size, 0, none⟩ = some (.slice ka key.length kc) ∧ w'.cell? ⟨w.heap.size, 1, none⟩ = some (.slice va value.length vc)) (go_keep)
              (first
                | (go_at_call 44; refine (Copy_ _ M _ _ (Ty.step _ (Ty.step _ HK.out hBd) (by (repeat (first | exact Step.refl _ | refine Step.alloc ?_ _ | refine Step.drew ?_ | refine Step.drewN ?_ _ | refine Step.setCell ?_ (by first | exact Nat.le_refl _ | assumption | omega | (simp; done) | (simp; omega)) _ | assumption | refine Step.trans ?_ (by assumption : Step _ _)))))).mono ?_; rintro e2 w2 ⟨v2, rfl, hA2, hS2⟩; obtain ⟨b2, m2, rfl⟩ := hA2.val; have s2_0 : ∀ j, w2.cell? ⟨w.heap.size, j, none⟩ = _ := fun j => hS2.cell (by first | assumption | omega | (simp; done) | (simp; omega)) j; have z2_0 : w.heap.size < w2.heap.size := Nat.lt_of_lt_of_le (by first | assumption | omega | (simp; done) | (simp; omega)) hS2.size; have HA2 := Lib.hid hA2; clear hA2)
                | (go_at_call 44; refine (Copy_ _ M _ _ (Ty.step _ (Ty.step _ HV.out hBd) (by (repeat (first | exact Step.refl _ | refine Step.alloc ?_ _ | refine Step.drew ?_ | refine Step.drewN ?_ _ | refine Step.setCell ?_ (by first | exact Nat.le_refl _ | assumption | omega | (simp; done) | (simp; omega)) _ | assumption | refine Step.trans ?_ (by assumption : Step _ _)))))).mono ?_; rintro e3 w3 ⟨v3, rfl, hA3, hS3⟩; obtain ⟨b3, m3, rfl⟩ := hA3.val; have s3_0 : ∀ j, w3.cell? ⟨w.heap.size, j, none⟩ = _ := fun j => hS3.cell (by first | assumption | omega | (simp; done) | (simp; omega)) j; have z3_0 : w.heap.size < w3.heap.size := Nat.lt_of_lt_of_le (by first | assumption | omega | (simp; done) | (simp; omega)) hS3.size; have HA3 := Lib.hid hA3; clear hA3)
                | (refine step_append_acc (ys := [⟨key, value⟩]) rfl (.tmp 31) (.tmp 39) rfl stPairs (by (repeat (first | exact Step.refl _ | refine Step.alloc ?_ _ | refine Step.drew ?_ | refine Step.drewN ?_ _ | refine Step.setCell ?_ (by first | exact Nat.le_refl _ | assumption | omega | (simp; done) | (simp; omega)) _ | assumption | refine Step.trans ?_ (by assumption : Step _ _)))) ((Own.step HAd.out (by (repeat (first | exact Step.refl _ | refine Step.alloc ?_ _ | refine Step.drew ?_ | refine Step.drewN ?_ _ | refine Step.setCell ?_ (by first | exact Nat.le_refl _ | assumption | omega | (simp; done) | (simp; omega)) _ | assumption | refine Step.trans ?_ (by assumption : Step _ _))))).alloc _) (Src.one ⟨_, _, rfl, Own.fresh (by refine Own.step (Hid.out (by assumption)) ?_; (repeat (first | exact Step.refl _ | refine Step.alloc ?_ _ | refine Step.drew ?_ | refine Step.drewN ?_ _ | refine Step.setCell ?_ (by first | exact Nat.le_refl _ | assumption | omega | (simp; done) | (simp; omega)) _ | assumption | refine Step.trans ?_ (by assumption : Step _ _)))) (fun b hb => Nat.lt_of_lt_of_le (hFre.out b hb) (Step.size (by (repeat (first | exact Step.refl _ | refine Step.alloc ?_ _ | refine Step.drew ?_ | refine Step.drewN ?_ _ | refine Step.setCell ?_ (by first | exact Nat.le_refl _ | assumption | omega | (simp; done) | (simp; omega)) _ | assumption | refine Step.trans ?_ (by assumption : Step _ _)))))), Own.fresh (by refine Own.step (Hid.out (by assumption)) ?_; (repeat (first | exact Step.refl _ | refine Step.alloc ?_ _ | refine Step.drew ?_ | refine Step.drewN ?_ _ | refine Step.setCell ?_ (by first | exact Nat.le_refl _ | assumption | omega | (simp; done) | (simp; omega)) _ | assumption | refine Step.trans ?_ (by assumption : Step _ _)))) (fun b hb => Nat.lt_of_lt_of_le (hFre.out b hb) (Step.size (by (repeat (first | exact Step.refl _ | refine Step.alloc ?_ _ | refine Step.drew ?_ | refine Step.drewN ?_ _ | refine Step.setCell ?_ (by first | exact Nat.le_refl _ | assumption | omega | (simp; done) | (simp; omega)) _ | assumption | refine Step.trans ?_ (by assumption : Step _ _))))))⟩) (by exact hlim4) rfl rfl ?_; intro v4 w4 hA4 hB4 hG4 _; have s4 : ∀ j, w4.cell? ⟨w.heap.size, j, none⟩ = _ := fun j => World.cell?_of_block (a := ⟨_, j, _⟩) (hG4.block w.heap.size (by have := HZ0.out; first | omega | (simp; omega)) (fun e => by have h1 := (HAd.out.lt e.symm).1; have := HZ0.out; omega)); have HA4 := Lib.hid hA4; clear hA4))
            go_wp2
            go_meet
            case rel => exact ⟨by rw [HREL.out.1], by rw [HREL.out.2]; exact HA4.out, hB4⟩
          · have hrel : (decide (0 ≤ cc) && !done) = false ∧ (done || decide (0 ≤ cc)) = done ∧ (if 0 ≤ cc ∧ done = false then [(⟨key, value⟩ : DPair)] else []) = [] := by
              refine ⟨?_, ?_, if_neg hput⟩
              · cases done <;> simp at hput ⊢; omega
              · cases done <;> simp at hput ⊢; omega
            rw [hrel.1]
            have HREL := Lib.hid hrel
            clear hrel hput
            go_wp2
            go_meet
            case rel => exact ⟨by rw [HREL.out.2.1], by rw [HREL.out.2.2, List.append_nil]; exact HA.out.step hSd, hBd⟩
        case rest =>
          obtain ⟨rfl, hA5, hS5⟩ := hcut
          obtain ⟨oa, on, oc, rfl, HN⟩ := hA5.valN
          have HA5 := Lib.hid hA5
          refine open_kk2 (by assumption) ?_
          have hz5 := hS5.size
          have hlen5 : on ≤ FIN.length := by rw [HN.out, HF2.out]; simp
          by_cases h0 : cc = 0
          · have hrel : FIN = (acc ++ (if 0 ≤ cc ∧ done = false then [⟨key, value⟩] else [])) ++ putL DPair.key ⟨key, value⟩ (done || decide (0 ≤ cc)) (P.drop (k + 1)) := by rw [HF2.out]; simp [h0]
            have HREL := Lib.hid hrel
            have hne : (cc == 0) = true := beq_iff_eq.2 h0
            clear hrel h0
            generalize (done || decide (0 ≤ cc)) = dd at *
            generalize (acc ++ (if 0 ≤ cc ∧ done = false then [(⟨key, value⟩ : DPair)] else [])) = acc2 at *
            go_wp2
            go_roundw
            case rel => exact ⟨k + 1, _, _, by go_num, rfl, by omega, HREL, HA5.out, by (repeat (first | exact Step.refl _ | refine Step.alloc ?_ _ | refine Step.drew ?_ | refine Step.drewN ?_ _ | refine Step.setCell ?_ (by first | exact Nat.le_refl _ | assumption | omega | (simp; done) | (simp; omega)) _ | assumption | refine Step.trans ?_ (by assumption : Step _ _)))⟩
            case measure => ((try simp [Go.RowKit.intOf]); omega)
          · have hrel : FIN = ((acc ++ (if 0 ≤ cc ∧ done = false then [⟨key, value⟩] else [])) ++ [P[k]]) ++ putL DPair.key ⟨key, value⟩ (done || decide (0 ≤ cc)) (P.drop (k + 1)) := by rw [HF2.out]; simp [h0]
            have HREL := Lib.hid hrel
            have hne : (cc == 0) = false := beq_eq_false_iff_ne.2 h0
            have hq0 := (hS5.cell phb _).trans ((hB.cell phb _).symm.trans pq0)
            have hq1 := (hS5.cell phb _).trans ((hB.cell phb _).symm.trans pq1)
            have HP : Hid (tPair.rep wc (fun b => M b ∨ (Value.slice oa on oc).ownBlock = some b) [.slice pa0 P[k].key.length pn0, .slice pa1 P[k].value.length pn1] P[k]) := Lib.hid (old_src hS5 HA5.out ⟨_, _, rfl, pH0.out, pH1.out⟩)
            clear hrel h0
            generalize (done || decide (0 ≤ cc)) = dd at *
            generalize (acc ++ (if 0 ≤ cc ∧ done = false then [(⟨key, value⟩ : DPair)] else [])) = acc2 at *
            go_wp2_with (at_builtin; refine wpList_append_acc (E := tPair) (M := M) (ys := [P[k]]) rfl (.tmp 43) (.tmp 48) rfl stPairs (by (repeat (first | exact Step.refl _ | refine Step.alloc ?_ _ | refine Step.drew ?_ | refine Step.drewN ?_ _ | refine Step.setCell ?_ (by first | exact Nat.le_refl _ | assumption | omega | (simp; done) | (simp; omega)) _ | assumption | refine Step.trans ?_ (by assumption : Step _ _)))) (HA5.out.alloc _) (Src.oneAt (E := tPair) (by simp) HP.out) (by rw [← HN.out, lim_eq]; simp; omega) rfl rfl ?_; intro v6 w6 hA6 hB6 _ _; have HA6 := Lib.hid hA6; clear hA6)
            go_roundw
            case rel => exact ⟨k + 1, _, _, by go_num, rfl, by omega, HREL, HA6.out, hB6⟩
            case measure => ((try simp [Go.RowKit.intOf]); omega)
    · obtain rfl : k = P.length := by omega
      rw [List.drop_length] at hF
      obtain ⟨oa, on, oc, rfl, HN⟩ := HA.out.valN
      cases done with
      | true =>
        have hF' : Hid (FIN = acc) := Lib.hid (by rw [hF.out]; simp [putL])
        go_wp2
        go_ret
        exact ⟨_, rfl, by rw [hF'.out]; exact Own.base HA.out (by have := HZ0.out; omega), HS0.out.trans hB⟩
      | false =>
        have hF' : Hid (FIN = acc ++ [⟨key, value⟩]) := Lib.hid (by rw [hF.out]; simp [putL])
        have hFre := Lib.hid (show ∀ b, (M b ∨ (Value.slice oa on oc).ownBlock = some b) → b < wr.heap.size from fun b hb => hb.elim (fun h => by have := HM.out b h; omega) (fun h => (HA.out.lt h).2))
        have hlim4 : acc.length + 1 ≤ lim := by rw [lim_eq]; omega
        clear hF
        go_wp2
        go_region_held3 (fun w' => w'.cell? ⟨w.heap.size, 0, none⟩ = some (.slice ka key.length kc) ∧ w'.cell? ⟨w.heap.size, 1, none⟩ = some (.slice va value.length vc)) (go_keep)
          (first
            | (go_at_call 44; refine (Copy_ _ M _ _ (Ty.step _ (Ty.step _ HK.out hB) (by (repeat (first | exact Step.refl _ | refine Step.alloc ?_ _ | refine Step.drew ?_ | refine Step.drewN ?_ _ | refine Step.setCell ?_ (by first | exact Nat.le_refl _ | assumption | omega | (simp; done) | (simp; omega)) _ | assumption | refine Step.trans ?_ (by assumption : Step _ _)))))).mono ?_; rintro e2 w2 ⟨v2, rfl, hA2, hS2⟩; obtain ⟨b2, m2, rfl⟩ := hA2.val; have s2_0 : ∀ j, w2.cell? ⟨w.heap.size, j, none⟩ = _ := fun j => hS2.cell (by first | assumption | omega | (simp; done) | (simp; omega)) j; have z2_0 : w.heap.size < w2.heap.size := Nat.lt_of_lt_of_le (by first | assumption | omega | (simp; done) | (simp; omega)) hS2.size; have HA2 := Lib.hid hA2; clear hA2)
            | (go_at_call 44; refine (Copy_ _ M _ _ (Ty.step _ (Ty.step _ HV.out hB) (by (repeat (first | exact Step.refl _ | refine Step.alloc ?_ _ | refine Step.drew ?_ | refine Step.drewN ?_ _ | refine Step.setCell ?_ (by first | exact Nat.le_refl _ | assumption | omega | (simp; done) | (simp; omega)) _ | assumption | refine Step.trans ?_ (by assumption : Step _ _)))))).mono ?_; rintro e3 w3 ⟨v3, rfl, hA3, hS3⟩; obtain ⟨b3, m3, rfl⟩ := hA3.val; have s3_0 : ∀ j, w3.cell? ⟨w.heap.size, j, none⟩ = _ := fun j => hS3.cell (by first | assumption | omega | (simp; done) | (simp; omega)) j; have z3_0 : w.heap.size < w3.heap.size := Nat.lt_of_lt_of_le (by first | assumption | omega | (simp; done) | (simp; omega)) hS3.size; have HA3 := Lib.hid hA3; clear hA3)
            | (refine step_append_acc (ys := [⟨key, value⟩]) rfl (.tmp 52) (.tmp 60) rfl stPairs (by (repeat (first | exact Step.refl _ | refine Step.alloc ?_ _ | refine Step.drew ?_ | refine Step.drewN ?_ _ | refine Step.setCell ?_ (by first | exact Nat.le_refl _ | assumption | omega | (simp; done) | (simp; omega)) _ | assumption | refine Step.trans ?_ (by assumption : Step _ _)))) ((Own.step HA.out (by (repeat (first | exact Step.refl _ | refine Step.alloc ?_ _ | refine Step.drew ?_ | refine Step.drewN ?_ _ | refine Step.setCell ?_ (by first | exact Nat.le_refl _ | assumption | omega | (simp; done) | (simp; omega)) _ | assumption | refine Step.trans ?_ (by assumption : Step _ _))))).alloc _) (Src.one ⟨_, _, rfl, Own.fresh (by refine Own.step (Hid.out (by assumption)) ?_; (repeat (first | exact Step.refl _ | refine Step.alloc ?_ _ | refine Step.drew ?_ | refine Step.drewN ?_ _ | refine Step.setCell ?_ (by first | exact Nat.le_refl _ | assumption | omega | (simp; done) | (simp; omega)) _ | assumption | refine Step.trans ?_ (by assumption : Step _ _)))) (fun b hb => Nat.lt_of_lt_of_le (hFre.out b hb) (Step.size (by (repeat (first | exact Step.refl _ | refine Step.alloc ?_ _ | refine Step.drew ?_ | refine Step.drewN ?_ _ | refine Step.setCell ?_ (by first | exact Nat.le_refl _ | assumption | omega | (simp; done) | (simp; omega)) _ | assumption | refine Step.trans ?_ (by assumption : Step _ _)))))), Own.fresh (by refine Own.step (Hid.out (by assumption)) ?_; (repeat (first | exact Step.refl _ | refine Step.alloc ?_ _ | refine Step.drew ?_ | refine Step.drewN ?_ _ | refine Step.setCell ?_ (by first | exact Nat.le_refl _ | assumption | omega | (simp; done) | (simp; omega)) _ | assumption | refine Step.trans ?_ (by assumption : Step _ _)))) (fun b hb => Nat.lt_of_lt_of_le (hFre.out b hb) (Step.size (by (repeat (first | exact Step.refl _ | refine Step.alloc ?_ _ | refine Step.drew ?_ | refine Step.drewN ?_ _ | refine Step.setCell ?_ (by first | exact Nat.le_refl _ | assumption | omega | (simp; done) | (simp; omega)) _ | assumption | refine Step.trans ?_ (by assumption : Step _ _))))))⟩) (by exact hlim4) rfl rfl ?_; intro v4 w4 hA4 hB4 hG4 _; have s4 : ∀ j, w4.cell? ⟨w.heap.size, j, none⟩ = _ := fun j => World.cell?_of_block (a := ⟨_, j, _⟩) (hG4.block w.heap.size (by have := HZ0.out; first | omega | (simp; omega)) (fun e => by have h1 := (HA.out.lt e.symm).1; have := HZ0.out; omega)); have HA4 := Lib.hid hA4; clear hA4))
        go_wp2
        go_ret
        exact ⟨_, rfl, by rw [hF'.out]; exact Own.base HA4.out (by have := HZ0.out; omega), HS0.out.trans hB4⟩
end Go.Proofs.Ythflkfgiclcdiaa
