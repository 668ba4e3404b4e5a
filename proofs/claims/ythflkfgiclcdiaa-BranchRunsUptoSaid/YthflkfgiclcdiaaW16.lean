/-
  Walks: rec.truth, rec.numbers, a record's parts.
-/
import Derived.Test.YthflkfgiclcdiaaW15
namespace Go.Proofs.Ythflkfgiclcdiaa
open Go.RowKit Go.Gr
set_option linter.unusedSimpArgs false
def truthB (b : Bool) : List UInt8 := [if b then 1 else 0]
theorem recTruth_ (w : World) (b : Bool) :
    Calls Try.prog 130 #[.bool b] w fun e w' => ∃ v', e = .returned v' ∧ Own Ty.byte 5 w' (· < w.heap.size) w.heap.size v' (truthB b) ∧ Step w w' := by
  rcases b with _ | _
  · go_enter Try.func130, Try.ntmps130
    go_wp2
    go_ret
    exact ⟨_, rfl, Own.lit (E := Ty.byte) (e := 5) (xs := [0]) rfl (by simp [lim]) (Nat.le_refl _) rfl (fun i hi => by obtain rfl : i = 0 := (by simpa using hi); rfl), by (repeat (first | exact Step.refl _ | refine Step.alloc ?_ _ | refine Step.drew ?_ | refine Step.drewN ?_ _ | refine Step.setCell ?_ (by first | exact Nat.le_refl _ | assumption | omega | (simp; done) | (simp; omega)) _ | assumption | refine Step.trans ?_ (by assumption : Step _ _)))⟩
  · go_enter Try.func130, Try.ntmps130
    go_wp2
    go_ret
    exact ⟨_, rfl, Own.lit (E := Ty.byte) (e := 5) (xs := [1]) rfl (by simp [lim]) (Nat.le_refl _) rfl (fun i hi => by obtain rfl : i = 0 := (by simpa using hi); rfl), by (repeat (first | exact Step.refl _ | refine Step.alloc ?_ _ | refine Step.drew ?_ | refine Step.drewN ?_ _ | refine Step.setCell ?_ (by first | exact Nat.le_refl _ | assumption | omega | (simp; done) | (simp; omega)) _ | assumption | refine Step.trans ?_ (by assumption : Step _ _)))⟩
theorem numsB_snoc (xs : List Nat) (n : Nat) : numsB (xs ++ [n]) = numsB xs ++ numB n := by simp [numsB]
set_option maxRecDepth 100000 in
set_option maxHeartbeats 1000000 in
theorem recNumbers_ {w : World} {M : Nat → Prop} {v : Value} {xs : List Nat} (h : (Ty.slice Ty.u64).rep w M [v] xs) (hxs : xs.length < 16777216) :
    Calls Try.prog 129 #[v] w fun e w' => ∃ v', e = .returned v' ∧ Own Ty.byte 5 w' (· < w.heap.size) w.heap.size v' (numsB xs) ∧ Step w w' := by
  obtain ⟨a, c, rfl, hc, hm, hl⟩ := Ty.slice_val h
  have H := Lib.hid h
  clear h hc hm hl
  go_enter Try.func129, Try.ntmps129
  go_wp2
  go_loopw [3, 8] (fun o i w' => ∃ k : Nat, i = .int .i64 k ∧ k ≤ xs.length ∧ Hid ((numsB (xs.take k)).length ≤ k * 9) ∧ Own Ty.byte 5 w' (· < w.heap.size) w.heap.size o (numsB (xs.take k)) ∧ Step w w') (fun _ i _ => xs.length - (intOf i).toNat)
  case atStart => exact ⟨0, rfl, by omega, Lib.hid (by simp [numsB]), Own.nil, Step.refl _⟩
  case round =>
    obtain ⟨k, rfl, hk, hln, hA, hB⟩ := hrel
    have HA := Lib.hid hA
    clear hA
    have hsz := hB.size
    by_cases hlt : k < xs.length
    · obtain ⟨b1, o1, u1, rfl, hb1, _, hu1, hc0⟩ := Ty.slice_at1 rfl H.out hlt
      obtain ⟨hu, hbd⟩ := hu1
      obtain rfl : u1 = .int .u64 (xs[k] : Int) := by simpa using hu
      clear hu
      have q := (Step.cell (w' := wr) hB hb1 _).trans hc0
      clear hc0
      have htk : Hid (numsB (xs.take (k + 1)) = numsB (xs.take k) ++ numB xs[k]) := Lib.hid (by rw [List.take_succ_eq_append_getElem hlt, numsB_snoc])
      have hnl : Hid ((numB xs[k]).length ≤ 9) := Lib.hid (numB_len hbd)
      have hln1 : Hid ((numsB (xs.take (k + 1))).length ≤ (k + 1) * 9) := Lib.hid (by rw [htk.out, List.length_append]; have := hln.out; have := hnl.out; omega)
      generalize hn : xs[k] = n at *
      clear hn
      go_wp2_with (first
        | (go_at_call 83; refine (Number_ _ (fun _ => False) _ [n] (nums_lit (by first | rfl | simp) hbd) (by simp)).mono ?_; rintro e w2 ⟨v2, rfl, hA2, hS2⟩; rw [numsB_one] at hA2; obtain ⟨b2, m2, rfl⟩ := hA2.val; have HA2 := Lib.hid hA2; clear hA2)
        | (at_builtin; refine wpList_append_acc (ys := numB n) rfl (.tmp 12) (.tmp 15) rfl stBytes (by (repeat (first | exact Step.refl _ | refine Step.alloc ?_ _ | refine Step.drew ?_ | refine Step.drewN ?_ _ | refine Step.setCell ?_ (by first | exact Nat.le_refl _ | assumption | omega | (simp; done) | (simp; omega)) _ | assumption | refine Step.trans ?_ (by assumption : Step _ _)))) (Own.step HA.out (by (repeat (first | exact Step.refl _ | refine Step.alloc ?_ _ | refine Step.drew ?_ | refine Step.drewN ?_ _ | refine Step.setCell ?_ (by first | exact Nat.le_refl _ | assumption | omega | (simp; done) | (simp; omega)) _ | assumption | refine Step.trans ?_ (by assumption : Step _ _))))) (Src.flat Ty.flat_byte (Own.rep HA2.out (fun b hb => hb))) (by rw [lim_eq]; have := hln.out; have := hnl.out; omega) rfl rfl ?_; intro v3 w3 hA3 hB3 _ _; have HA3 := Lib.hid hA3; clear hA3))
      go_roundw
      case rel => exact ⟨k + 1, by go_num, by omega, hln1, by rw [htk.out]; exact HA3.out, hB3⟩
      case measure => simp [intOf]; omega
    · obtain rfl : k = xs.length := by omega
      go_wp2
      go_ret
      exact ⟨_, rfl, by simpa using HA.out, hB⟩
end Go.Proofs.Ythflkfgiclcdiaa
