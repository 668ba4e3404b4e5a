/-
  Walk: a shard's pairs (Shard).
-/
import Derived.Test.YthflkfgiclcdiaaZB21
import Derived.Test.YthflkfgiclcdiaaZP9
set_option linter.unusedVariables false
set_option linter.unusedSimpArgs false
namespace Go.Proofs.Ythflkfgiclcdiaa
open Go.RowKit Go.Gr
set_option linter.unusedSimpArgs false
/-- The pairs of a shard. -/
def shardB (P : List DPair) (sp : List (List UInt8)) (s : Nat) : List DPair := P.filter fun p => decide (routeB sp p.key = s)
theorem shardB_step {P : List DPair} {sp : List (List UInt8)} {s k : Nat} (hk : k < P.length) : shardB (P.take (k + 1)) sp s = shardB (P.take k) sp s ++ if routeB sp P[k].key = s then [P[k]] else [] := by
  unfold shardB
  rw [List.take_succ_eq_append_getElem hk, List.filter_append]
  by_cases h : routeB sp P[k].key = s <;> simp [h]
theorem shardB_len (P : List DPair) (sp : List (List UInt8)) (s : Nat) : (shardB P sp s).length ≤ P.length := List.length_filter_le _ _
theorem shardB_rising {P : List DPair} (h : RisP P) (sp : List (List UInt8)) (s : Nat) : RisP (shardB P sp s) := Rising.filter h
set_option maxRecDepth 100000 in
set_option maxHeartbeats 4000000 in
theorem refShard_ {w : World} {M : Nat → Prop} {v sv : Value} {P : List DPair} {sp : List (List UInt8)} {s : Nat} (h : (Ty.slice tPair).rep w M [v] P) (hs : (Ty.slice Ty.bytes).rep w M [sv] sp) :
    Calls Try.prog 34 #[v, sv, .int .i64 (s : Int)] w fun e w' => ∃ v', e = .returned v' ∧ Own tPair 95 w' M w.heap.size v' (shardB P sp s) ∧ Step w w' := by
  obtain ⟨a, c, rfl, _, _, hl⟩ := Ty.slice_val h
  obtain ⟨sa, sc, rfl, _⟩ := Ty.slice_val hs
  rw [lim_eq] at hl
  have H := Lib.hid h
  have HS := Lib.hid hs
  clear h hs
  go_enter Try.func34, Try.ntmps34
  go_wp2
  go_loopw [7, 8] (fun o i w' => ∃ k : Nat, i = .int .i64 k ∧ k ≤ P.length ∧ Own tPair 95 w' M w.heap.size o (shardB (P.take k) sp s) ∧ Step w w') (fun _ i _ => P.length - (Go.RowKit.intOf i).toNat)
  case atStart => exact ⟨0, rfl, by omega, Own.nil, Step.refl _⟩
  case round =>
    obtain ⟨k, rfl, hk, hA, hB⟩ := hrel
    have HA := Lib.hid hA
    obtain ⟨oa, on, oc, rfl, HN⟩ := hA.valN
    clear hA
    by_cases hlt : k < P.length
    · have hst := shardB_step (sp := sp) (s := s) hlt
      have hsl := shardB_len (P.take k) sp s
      rw [List.length_take] at hsl
      obtain ⟨pb, po, pes, rfl, phb, _, pu, pcu⟩ := Ty.slice_at H.out hlt
      obtain ⟨pc0, pc1, rfl, ph0, ph1⟩ := pu
      have pq0 := (Step.cell (w' := wr) (by (repeat (first | exact Step.refl _ | refine Step.alloc ?_ _ | refine Step.drew ?_ | refine Step.drewN ?_ _ | refine Step.setCell ?_ (by first | exact Nat.le_refl _ | assumption | omega | (simp; done) | (simp; omega)) _ | assumption | refine Step.trans ?_ (by assumption : Step _ _)))) phb _).trans (pcu 0 _ rfl)
      have pq1 := (Step.cell (w' := wr) (by (repeat (first | exact Step.refl _ | refine Step.alloc ?_ _ | refine Step.drew ?_ | refine Step.drewN ?_ _ | refine Step.setCell ?_ (by first | exact Nat.le_refl _ | assumption | omega | (simp; done) | (simp; omega)) _ | assumption | refine Step.trans ?_ (by assumption : Step _ _)))) phb _).trans (pcu 1 _ rfl)
      simp only [show tPair.n = 2 from rfl, Nat.add_zero] at pq0 pq1
      obtain ⟨pa0, pn0, rfl, _⟩ := Ty.slice_val ph0
      obtain ⟨pa1, pn1, rfl, _⟩ := Ty.slice_val ph1
      have pH0 := Lib.hid ph0
      have pH1 := Lib.hid ph1
      clear pcu ph0 ph1
      have HRT := Lib.hid (fun (X : World) (hX : Step wr X) => refRoute_ (Ty.step _ (Ty.step _ HS.out hB) hX) (Ty.step _ (Ty.step _ pH0.out hB) hX))
      have HP : Hid (tPair.rep wr (fun b => M b ∨ (Value.slice oa on oc).ownBlock = some b) [.slice pa0 P[k].key.length pn0, .slice pa1 P[k].value.length pn1] P[k]) := Lib.hid (old_src hB HA.out ⟨_, _, rfl, pH0.out, pH1.out⟩)
      have hlim4 : (shardB (P.take k) sp s).length + 1 ≤ lim := by rw [lim_eq]; omega
      obtain ⟨R, hR⟩ : ∃ R, routeB sp P[k].key = R := ⟨_, rfl⟩
      rw [hR] at hst HRT
      by_cases he : R = s
      · rw [if_pos he] at hst
        have HST := Lib.hid hst
        have hd : ((R : Int) == (s : Int)) = true := beq_iff_eq.2 (by omega)
        clear hst hsl hR he
        go_wp2_with (first
          | (go_at_call 37; refine (HRT.out _ (by (repeat (first | exact Step.refl _ | refine Step.alloc ?_ _ | refine Step.drew ?_ | refine Step.drewN ?_ _ | refine Step.setCell ?_ (by first | exact Nat.le_refl _ | assumption | omega | (simp; done) | (simp; omega)) _ | assumption | refine Step.trans ?_ (by assumption : Step _ _))))).mono ?_; rintro e w2 ⟨rfl, n2, rfl⟩)
          | (at_builtin; refine wpList_append_acc (ys := [P[k]]) rfl (.tmp 24) (.tmp 29) rfl stPairs (by (repeat (first | exact Step.refl _ | refine Step.alloc ?_ _ | refine Step.drew ?_ | refine Step.drewN ?_ _ | refine Step.setCell ?_ (by first | exact Nat.le_refl _ | assumption | omega | (simp; done) | (simp; omega)) _ | assumption | refine Step.trans ?_ (by assumption : Step _ _)))) ((Own.step HA.out (by (repeat (first | exact Step.refl _ | refine Step.alloc ?_ _ | refine Step.drew ?_ | refine Step.drewN ?_ _ | refine Step.setCell ?_ (by first | exact Nat.le_refl _ | assumption | omega | (simp; done) | (simp; omega)) _ | assumption | refine Step.trans ?_ (by assumption : Step _ _))))).alloc _) (Src.oneAt (E := tPair) (by simp) (Ty.step _ HP.out (by (repeat (first | exact Step.refl _ | refine Step.alloc ?_ _ | refine Step.drew ?_ | refine Step.drewN ?_ _ | refine Step.setCell ?_ (by first | exact Nat.le_refl _ | assumption | omega | (simp; done) | (simp; omega)) _ | assumption | refine Step.trans ?_ (by assumption : Step _ _)))))) (by simpa using hlim4) rfl rfl ?_; intro v4 w4 hA4 hB4 hG4 _; have HA4 := Lib.hid hA4; have HB4 := Lib.hid hB4; clear hA4 hB4))
        go_roundw
        case rel => exact ⟨k + 1, by go_num, by omega, by rw [HST.out]; exact HA4.out, HB4.out⟩
        case measure => ((try simp [Go.RowKit.intOf]); omega)
      · rw [if_neg he, List.append_nil] at hst
        have HST := Lib.hid hst
        have hd : ((R : Int) == (s : Int)) = false := beq_eq_false_iff_ne.2 (by omega)
        clear hst hsl hR he
        go_wp2_with (go_at_call 37; refine (HRT.out _ (by (repeat (first | exact Step.refl _ | refine Step.alloc ?_ _ | refine Step.drew ?_ | refine Step.drewN ?_ _ | refine Step.setCell ?_ (by first | exact Nat.le_refl _ | assumption | omega | (simp; done) | (simp; omega)) _ | assumption | refine Step.trans ?_ (by assumption : Step _ _))))).mono ?_; rintro e w2 ⟨rfl, n2, rfl⟩)
        go_roundw
        case rel => exact ⟨k + 1, by go_num, by omega, by rw [HST.out]; exact Own.step HA.out (by (repeat (first | exact Step.refl _ | refine Step.alloc ?_ _ | refine Step.drew ?_ | refine Step.drewN ?_ _ | refine Step.setCell ?_ (by first | exact Nat.le_refl _ | assumption | omega | (simp; done) | (simp; omega)) _ | assumption | refine Step.trans ?_ (by assumption : Step _ _)))), by (repeat (first | exact Step.refl _ | refine Step.alloc ?_ _ | refine Step.drew ?_ | refine Step.drewN ?_ _ | refine Step.setCell ?_ (by first | exact Nat.le_refl _ | assumption | omega | (simp; done) | (simp; omega)) _ | assumption | refine Step.trans ?_ (by assumption : Step _ _)))⟩
        case measure => ((try simp [Go.RowKit.intOf]); omega)
    · obtain rfl : k = P.length := by omega
      rw [List.take_length] at HA
      go_wp2
      go_ret
      exact ⟨_, rfl, HA.out, hB⟩
end Go.Proofs.Ythflkfgiclcdiaa
