/-
  Walk: a request's writes (note).
-/
import Derived.Test.YthflkfgiclcdiaaZP9
set_option linter.unusedVariables false
set_option linter.unusedSimpArgs false
namespace Go.Proofs.Ythflkfgiclcdiaa
open Go.RowKit Go.Gr
set_option linter.unusedSimpArgs false
set_option maxRecDepth 100000 in
set_option maxHeartbeats 4000000 in
theorem refNote_ {w : World} {M : Nat → Prop} {v kv vv : Value} {g : Bool} {P : List DWrite} {key value : List UInt8} (h : (Ty.slice tWrite).rep w M [v] P) (hk : Ty.bytes.rep w M [kv] key) (hv : Ty.bytes.rep w M [vv] value) (hP : P.length ≤ 1000000) :
    Calls Try.prog 65 #[v, .agg #[kv, vv, .bool g]] w fun e w' => ∃ v', e = .returned v' ∧ Own tWrite 74 w' M w.heap.size v' (putL DWrite.key ⟨key, value, g⟩ false P) ∧ Step w w' := by
  obtain ⟨a, c, rfl, _⟩ := Ty.slice_val h
  obtain ⟨ka, kc, rfl, _⟩ := Ty.slice_val hk
  obtain ⟨va, vc, rfl, _⟩ := Ty.slice_val hv
  have H := Lib.hid h
  have HK := Lib.hid hk
  have HV := Lib.hid hv
  clear h hk hv
  obtain ⟨FIN, hFIN⟩ : ∃ FIN, putL DWrite.key ⟨key, value, g⟩ false P = FIN := ⟨_, rfl⟩
  rw [hFIN]
  have hL : FIN.length ≤ 2 * P.length + 1 := hFIN ▸ putL_len P false
  have HFIN := Lib.hid hFIN
  clear hFIN
  go_enter Try.func65, Try.ntmps65
  go_wp2
  refine wp_code (fun wx => wx.heap[w.heap.size]? = some (.cells #[.slice ka key.length kc, .slice va value.length vc, .bool g] 74 (0, 0)) ∧ Step w wx ∧ wx.heap.size = w.heap.size + 1) ?_ ?_
  · exact ⟨heap_alloc_at rfl, by (repeat (first | exact Step.refl _ | refine Step.alloc ?_ _ | refine Step.drew ?_ | refine Step.drewN ?_ _ | refine Step.setCell ?_ (by first | exact Nat.le_refl _ | assumption | omega | (simp; done) | (simp; omega)) _ | assumption | refine Step.trans ?_ (by assumption : Step _ _))), by simp⟩
  rintro w0 ⟨hbx, hS0, hz0⟩
  have HBX := Lib.hid hbx
  have HW0 : Hid (tWrite.rep w0 M [.slice ka key.length kc, .slice va value.length vc, .bool g] ⟨key, value, g⟩) := Lib.hid (Ty.step _ (show tWrite.rep w M _ _ from ⟨_, _, rfl, HK.out, HV.out⟩) hS0)
  replace H := Lib.hid (Ty.step _ H.out hS0)
  replace HK := Lib.hid (Ty.step _ HK.out hS0)
  have HS0 := Lib.hid hS0
  have HZ0 := Lib.hid hz0
  clear hbx hS0 HV
  go_loopw [5, 6, 7] (fun o d i w' => ∃ (k : Nat) (done : Bool) (acc : List DWrite), i = .int .i64 k ∧ d = .bool done ∧ k ≤ P.length ∧ Hid (FIN = acc ++ putL DWrite.key ⟨key, value, g⟩ done (P.drop k)) ∧ Own tWrite 74 w' M w0.heap.size o acc ∧ Step w0 w') (fun _ _ i _ => P.length - (Go.RowKit.intOf i).toNat)
  case atStart => exact ⟨0, false, [], rfl, rfl, by omega, Lib.hid (by rw [List.drop_zero, HFIN.out]; rfl), Own.nil, Step.refl _⟩
  case round =>
    obtain ⟨k, done, acc, rfl, rfl, hk, hF, hA, hB⟩ := hrel
    have HA := Lib.hid hA
    have hzr := hB.size
    have hbr := (hB.heap (by omega : w.heap.size < w0.heap.size)).trans HBX.out
    have x0 : wr.cell? ⟨w.heap.size, 0, none⟩ = some (.slice ka key.length kc) := cell_of_row wr _ 0 _ _ (0, 0) hbr
    have x1 : wr.cell? ⟨w.heap.size, 1, none⟩ = some (.slice va value.length vc) := cell_of_row wr _ 1 _ _ (0, 0) hbr
    have x2 : wr.cell? ⟨w.heap.size, 2, none⟩ = some (.bool g) := cell_of_row wr _ 2 _ _ (0, 0) hbr
    have hacc : acc.length ≤ FIN.length := by rw [hF.out]; simp
    have hlim4 : acc.length + 1 ≤ lim := by rw [lim_eq]; omega
    clear hA hbr
    by_cases hlt : k < P.length
    · obtain ⟨pb, po, pes, rfl, phb, _, pu, pcu⟩ := Ty.slice_at H.out hlt
      obtain ⟨pc0, pc1, rfl, ph0, ph1⟩ := pu
      have pq0 := (Step.cell (w' := wr) (by (repeat (first | exact Step.refl _ | refine Step.alloc ?_ _ | refine Step.drew ?_ | refine Step.drewN ?_ _ | refine Step.setCell ?_ (by first | exact Nat.le_refl _ | assumption | omega | (simp; done) | (simp; omega)) _ | assumption | refine Step.trans ?_ (by assumption : Step _ _)))) phb _).trans (pcu 0 _ rfl)
      have pq1 := (Step.cell (w' := wr) (by (repeat (first | exact Step.refl _ | refine Step.alloc ?_ _ | refine Step.drew ?_ | refine Step.drewN ?_ _ | refine Step.setCell ?_ (by first | exact Nat.le_refl _ | assumption | omega | (simp; done) | (simp; omega)) _ | assumption | refine Step.trans ?_ (by assumption : Step _ _)))) phb _).trans (pcu 1 _ rfl)
      have pq2 := (Step.cell (w' := wr) (by (repeat (first | exact Step.refl _ | refine Step.alloc ?_ _ | refine Step.drew ?_ | refine Step.drewN ?_ _ | refine Step.setCell ?_ (by first | exact Nat.le_refl _ | assumption | omega | (simp; done) | (simp; omega)) _ | assumption | refine Step.trans ?_ (by assumption : Step _ _)))) phb _).trans (pcu 2 _ rfl)
      simp only [show tWrite.n = 3 from rfl, Nat.add_zero] at pq0 pq1 pq2
      obtain ⟨pa0, pn0, rfl, _⟩ := Ty.slice_val ph0
      obtain ⟨pa1, pn1, rfl, _⟩ := Ty.slice_val ph1
      have pH0 := Lib.hid ph0
      have pH1 := Lib.hid ph1
      clear pcu ph0 ph1
      obtain ⟨cc, hcc⟩ : ∃ cc, cmpB P[k].key key = cc := ⟨_, rfl⟩
      have HC := Lib.hid (fun (W : World) (hW : Step wr W) => Cmp_ (Ty.step _ (Ty.step _ pH0.out hB) hW) (Ty.step _ (Ty.step _ HK.out hB) hW))
      rw [hcc] at HC
      have hF2 : FIN = acc ++ ((if 0 ≤ cc ∧ done = false then [⟨key, value, g⟩] else []) ++ (if cc ≠ 0 then [P[k]] else []) ++ putL DWrite.key ⟨key, value, g⟩ (done || decide (0 ≤ cc)) (P.drop (k + 1))) := by rw [hF.out, putL_cons hlt hcc]
      have HF2 := Lib.hid hF2
      clear hF2 hcc hF
      go_upto_region 6 with fail
      go_quiet ((go_at_call 45; refine Calls.quiet_of (HC.out _ (by (repeat (first | exact Step.refl _ | refine Step.alloc ?_ _ | refine Step.drew ?_ | refine Step.drewN ?_ _ | refine Step.setCell ?_ (by first | exact Nat.le_refl _ | assumption | omega | (simp; done) | (simp; omega)) _ | assumption | refine Step.trans ?_ (by assumption : Step _ _)))))))
      refine wp_at (fun wx => Step wr wx) (by (repeat (first | exact Step.refl _ | refine Step.alloc ?_ _ | refine Step.drew ?_ | refine Step.drewN ?_ _ | refine Step.setCell ?_ (by first | exact Nat.le_refl _ | assumption | omega | (simp; done) | (simp; omega)) _ | assumption | refine Step.trans ?_ (by assumption : Step _ _)))) ?_
      rintro wd hSd
      go_upto_region 7 with fail
      go_cut [28] (fun s wx => s = .bool (decide (0 ≤ cc) && !done) ∧ wx = wd)
      case first =>
        by_cases h0 : 0 ≤ cc
        · have hd0 : decide (0 ≤ cc) = true := decide_eq_true h0
          cases done with
          | true => go_wp2; go_meet; case rel => exact ⟨by rw [hd0]; rfl, rfl⟩
          | false => go_wp2; go_meet; case rel => exact ⟨by rw [hd0]; rfl, rfl⟩
        · have hd0 : decide (0 ≤ cc) = false := decide_eq_false h0
          go_wp2
          go_meet
          case rel => exact ⟨by rw [hd0]; rfl, rfl⟩
      case rest =>
        obtain ⟨rfl, rfl⟩ := hcut
        refine open_kk2 (by assumption) ?_
        have hzd := hSd.size
        have hBd : Step w0 wc := hB.trans hSd
        have xd0 := (hSd.cell (by omega : w.heap.size < wr.heap.size) 0).trans x0
        have xd1 := (hSd.cell (by omega : w.heap.size < wr.heap.size) 1).trans x1
        have xd2 := (hSd.cell (by omega : w.heap.size < wr.heap.size) 2).trans x2
        go_cut [5, 6] (fun s5 s6 wx => s6 = .bool (done || decide (0 ≤ cc)) ∧ Own tWrite 74 wx M w0.heap.size s5 (acc ++ (if 0 ≤ cc ∧ done = false then [⟨key, value, g⟩] else [])) ∧ Step w0 wx)
        case first =>
          by_cases hput : 0 ≤ cc ∧ done = false
          · obtain ⟨h0, rfl⟩ := hput
            rw [show (decide (0 ≤ cc) && !false) = true by rw [decide_eq_true h0]; rfl]
            have hrel : (false || decide (0 ≤ cc)) = true ∧ (if 0 ≤ cc ∧ false = false then [(⟨key, value, g⟩ : DWrite)] else []) = [⟨key, value, g⟩] := ⟨by rw [decide_eq_true h0]; rfl, if_pos ⟨h0, rfl⟩⟩
            have HREL := Lib.hid hrel
            clear hrel
            obtain ⟨oa, on, oc, rfl, HN⟩ := HA.out.valN
            have HAd := Lib.hid (HA.out.step hSd)
            have HX := Lib.hid (old_src hBd HAd.out HW0.out)
            go_wp2_with (at_builtin; refine wpList_append_acc (E := tWrite) (M := M) (ys := [⟨key, value, g⟩]) rfl (.tmp 29) (.tmp 31) rfl stWrites (by (repeat (first | exact Step.refl _ | refine Step.alloc ?_ _ | refine Step.drew ?_ | refine Step.drewN ?_ _ | refine Step.setCell ?_ (by first | exact Nat.le_refl _ | assumption | omega | (simp; done) | (simp; omega)) _ | assumption | refine Step.trans ?_ (by assumption : Step _ _)))) (HAd.out.alloc _) (Src.oneAt (E := tWrite) (by simp) HX.out) (by exact hlim4) rfl rfl ?_; intro v4 w4 hA4 hB4 _ _; have HA4 := Lib.hid hA4; clear hA4)
            go_meet
            case rel => exact ⟨by rw [HREL.out.1], by rw [HREL.out.2]; exact HA4.out, hB4⟩
          · have hrel : (decide (0 ≤ cc) && !done) = false ∧ (done || decide (0 ≤ cc)) = done ∧ (if 0 ≤ cc ∧ done = false then [(⟨key, value, g⟩ : DWrite)] else []) = [] := by
              refine ⟨?_, ?_, if_neg hput⟩
              · cases done <;> simp at hput ⊢; omega
              · cases done <;> simp at hput ⊢; omega
            rw [hrel.1]
            have HREL := Lib.hid hrel
            clear hrel hput
            go_wp2
            go_meet
            case rel => exact ⟨by rw [HREL.out.2.1], by rw [HREL.out.2.2, List.append_nil]; exact HA.out.step hSd, hBd⟩
        case rest =>
          obtain ⟨rfl, hA5, hS5⟩ := hcut
          obtain ⟨oa, on, oc, rfl, HN⟩ := hA5.valN
          have HA5 := Lib.hid hA5
          refine open_kk2 (by assumption) ?_
          have hz5 := hS5.size
          have hlen5 : on ≤ FIN.length := by rw [HN.out, HF2.out]; simp
          clear hA5
          by_cases h0 : cc = 0
          · have hrel : FIN = (acc ++ (if 0 ≤ cc ∧ done = false then [⟨key, value, g⟩] else [])) ++ putL DWrite.key ⟨key, value, g⟩ (done || decide (0 ≤ cc)) (P.drop (k + 1)) := by rw [HF2.out]; simp [h0]
            have HREL := Lib.hid hrel
            have hne : (cc == 0) = true := beq_iff_eq.2 h0
            clear hrel h0
            generalize (done || decide (0 ≤ cc)) = dd at *
            generalize (acc ++ (if 0 ≤ cc ∧ done = false then [(⟨key, value, g⟩ : DWrite)] else [])) = acc2 at *
            go_wp2
            go_roundw
            case rel => exact ⟨k + 1, _, _, by go_num, rfl, by omega, HREL, HA5.out, by (repeat (first | exact Step.refl _ | refine Step.alloc ?_ _ | refine Step.drew ?_ | refine Step.drewN ?_ _ | refine Step.setCell ?_ (by first | exact Nat.le_refl _ | assumption | omega | (simp; done) | (simp; omega)) _ | assumption | refine Step.trans ?_ (by assumption : Step _ _)))⟩
            case measure => ((try simp [Go.RowKit.intOf]); omega)
          · have hrel : FIN = ((acc ++ (if 0 ≤ cc ∧ done = false then [⟨key, value, g⟩] else [])) ++ [P[k]]) ++ putL DWrite.key ⟨key, value, g⟩ (done || decide (0 ≤ cc)) (P.drop (k + 1)) := by rw [HF2.out]; simp [h0]
            have HREL := Lib.hid hrel
            have hne : (cc == 0) = false := beq_eq_false_iff_ne.2 h0
            have hq0 := (hS5.cell phb _).trans ((hB.cell phb _).symm.trans pq0)
            have hq1 := (hS5.cell phb _).trans ((hB.cell phb _).symm.trans pq1)
            have hq2 := (hS5.cell phb _).trans ((hB.cell phb _).symm.trans pq2)
            have HP : Hid (tWrite.rep wc (fun b => M b ∨ (Value.slice oa on oc).ownBlock = some b) [.slice pa0 P[k].key.length pn0, .slice pa1 P[k].value.length pn1, .bool P[k].gone] P[k]) := Lib.hid (old_src hS5 HA5.out ⟨_, _, rfl, pH0.out, pH1.out⟩)
            clear hrel h0
            generalize (done || decide (0 ≤ cc)) = dd at *
            generalize (acc ++ (if 0 ≤ cc ∧ done = false then [(⟨key, value, g⟩ : DWrite)] else [])) = acc2 at *
            go_wp2_with (at_builtin; refine wpList_append_acc (E := tWrite) (M := M) (ys := [P[k]]) rfl (.tmp 35) (.tmp 40) rfl stWrites (by (repeat (first | exact Step.refl _ | refine Step.alloc ?_ _ | refine Step.drew ?_ | refine Step.drewN ?_ _ | refine Step.setCell ?_ (by first | exact Nat.le_refl _ | assumption | omega | (simp; done) | (simp; omega)) _ | assumption | refine Step.trans ?_ (by assumption : Step _ _)))) (HA5.out.alloc _) (Src.oneAt (E := tWrite) (by simp) HP.out) (by rw [← HN.out, lim_eq]; simp; omega) rfl rfl ?_; intro v6 w6 hA6 hB6 _ _; have HA6 := Lib.hid hA6; clear hA6)
            go_roundw
            case rel => exact ⟨k + 1, _, _, by go_num, rfl, by omega, HREL, HA6.out, hB6⟩
            case measure => ((try simp [Go.RowKit.intOf]); omega)
    · obtain rfl : k = P.length := by omega
      rw [List.drop_length] at hF
      obtain ⟨oa, on, oc, rfl, HN⟩ := HA.out.valN
      cases done with
      | true =>
        have hF' : Hid (FIN = acc) := Lib.hid (by rw [hF.out]; simp [putL])
        go_wp2
        go_ret
        exact ⟨_, rfl, by rw [hF'.out]; exact Own.base HA.out (by have := HZ0.out; omega), HS0.out.trans hB⟩
      | false =>
        have hF' : Hid (FIN = acc ++ [⟨key, value, g⟩]) := Lib.hid (by rw [hF.out]; simp [putL])
        have HX := Lib.hid (old_src hB HA.out HW0.out)
        clear hF
        go_wp2_with (at_builtin; refine wpList_append_acc (E := tWrite) (M := M) (ys := [⟨key, value, g⟩]) rfl (.tmp 44) (.tmp 46) rfl stWrites (by (repeat (first | exact Step.refl _ | refine Step.alloc ?_ _ | refine Step.drew ?_ | refine Step.drewN ?_ _ | refine Step.setCell ?_ (by first | exact Nat.le_refl _ | assumption | omega | (simp; done) | (simp; omega)) _ | assumption | refine Step.trans ?_ (by assumption : Step _ _)))) (HA.out.alloc _) (Src.oneAt (E := tWrite) (by simp) HX.out) (by exact hlim4) rfl rfl ?_; intro v4 w4 hA4 hB4 _ _; have HA4 := Lib.hid hA4; clear hA4)
        go_ret
        exact ⟨_, rfl, by rw [hF'.out]; exact Own.base HA4.out (by have := HZ0.out; omega), HS0.out.trans hB4⟩
end Go.Proofs.Ythflkfgiclcdiaa
