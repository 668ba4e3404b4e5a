/-
  Walks: numbers as bytes (Number).
-/
import Derived.Test.YthflkfgiclcdiaaW12
namespace Go.Proofs.Ythflkfgiclcdiaa
open Go.RowKit Go.Gr
set_option linter.unusedSimpArgs false
/-- A number's bytes, the greatest first. -/
def beB (n : Nat) : List UInt8 := if h : n = 0 then [] else beB (n / 256) ++ [UInt8.ofNat n]
termination_by n
decreasing_by omega
theorem beB_zero : beB 0 = [] := by unfold beB; simp
theorem beB_pos {n : Nat} (h : 0 < n) : beB n = beB (n / 256) ++ [UInt8.ofNat n] := by
  rw [beB, dif_neg (by omega)]
def numB (n : Nat) : List UInt8 := if n ≤ 247 then [UInt8.ofNat n] else UInt8.ofNat (247 + (beB n).length) :: beB n
def numsB (xs : List Nat) : List UInt8 := xs.flatMap numB
theorem beB_len : ∀ (k n : Nat), n < 256 ^ k → (beB n).length ≤ k := by
  intro k
  induction k with
  | zero => intro n h; obtain rfl : n = 0 := (by simpa using h); simp [beB_zero]
  | succ k ih =>
    intro n h
    rcases Nat.eq_zero_or_pos n with rfl | hp
    · rw [beB_zero]; simp
    · rw [beB_pos hp, List.length_append]
      have := ih (n / 256) (by rw [Nat.pow_succ] at h; omega)
      simp
      omega
theorem numB_len {n : Nat} (h : n < 18446744073709551616) : (numB n).length ≤ 9 := by
  unfold numB
  split
  · simp
  · have := beB_len 8 n (by omega)
    simp
    omega
theorem numsB_len {xs : List Nat} (h : ∀ x ∈ xs, x < 18446744073709551616) : (numsB xs).length ≤ xs.length * 9 := by
  induction xs with
  | nil => simp [numsB]
  | cons x xs ih =>
    have h1 := numB_len (h x (by simp))
    have h2 := ih (fun y hy => h y (by simp [hy]))
    simp only [numsB, List.flatMap_cons, List.length_append, List.length_cons] at *
    omega

theorem byte_of {w : World} {M : Nat → Prop} (n : Nat) : Ty.byte.rep w M [.int .u8 ((n : Int) % 256)] (UInt8.ofNat n) := by
  show [Value.int .u8 ((n : Int) % 256)] = [Value.int .u8 ((UInt8.ofNat n).toNat : Int)]
  have : ((UInt8.ofNat n).toNat : Int) = (n : Int) % 256 := by rw [UInt8.toNat_ofNat']; omega
  rw [this]
theorem byte_small {w : World} {M : Nat → Prop} {n : Nat} (h : n < 256) : Ty.byte.rep w M [.int .u8 (n : Int)] (UInt8.ofNat n) := by
  have := @byte_of w M n
  rwa [Int.emod_eq_of_lt (by omega) (by omega)] at this

set_option maxRecDepth 100000 in
set_option maxHeartbeats 4000000 in
theorem Number_ (w : World) (M : Nat → Prop) (v : Value) (xs : List Nat) (h : (Ty.slice Ty.u64).rep w M [v] xs) (hxs : xs.length < 16777216) :
    Calls Try.prog 83 #[v] w fun e w' => ∃ v', e = .returned v' ∧ Own Ty.byte 5 w' (· < w.heap.size) w.heap.size v' (numsB xs) ∧ Step w w' := by
  obtain ⟨a, c, rfl, hc, hm, hl⟩ := Ty.slice_val h
  have H := Lib.hid h
  clear h hc hm hl
  go_enter Try.func83, Try.ntmps83
  go_wp2
  go_loopw [3, 11] (fun o i w' => ∃ k : Nat, i = .int .i64 k ∧ k ≤ xs.length ∧ Hid ((numsB (xs.take k)).length ≤ k * 9) ∧ Own Ty.byte 5 w' (· < w.heap.size) w.heap.size o (numsB (xs.take k)) ∧ Step w w') (fun _ i _ => xs.length - (intOf i).toNat)
  case atStart => exact ⟨0, rfl, by omega, Lib.hid (by simp [numsB]), Own.nil, Step.refl _⟩
  case round =>
    obtain ⟨k, rfl, hk, hln, hA, hB⟩ := hrel
    have HA := Lib.hid hA
    clear hA
    have hsz := hB.size
    by_cases hlt : k < xs.length
    · obtain ⟨b1, o1, u1, rfl, hb1, _, hu1, hc0⟩ := Ty.slice_at1 rfl H.out hlt
      obtain ⟨hu, hbd⟩ := hu1
      obtain rfl : u1 = .int .u64 (xs[k] : Int) := by simpa using hu
      clear hu
      have q := (Step.cell (w' := wr) hB hb1 _).trans hc0
      clear hc0
      have htk : Hid (numsB (xs.take (k + 1)) = numsB (xs.take k) ++ numB xs[k]) := Lib.hid (by unfold numsB; rw [List.take_succ_eq_append_getElem hlt, List.flatMap_append]; simp)
      have hln1 : Hid ((numsB (xs.take (k + 1))).length ≤ (k + 1) * 9) := Lib.hid (by have := numB_len hbd; rw [htk.out, List.length_append]; have := hln.out; omega)
      generalize hn : xs[k] = n at *
      clear hn
      by_cases hs : n ≤ 247
      · have hs1 : decide ((n : Int) ≤ 247) = true := decide_eq_true (by omega)
        have hnb : Hid (numB n = [UInt8.ofNat n]) := Lib.hid (if_pos hs)
        go_wp2_with (at_builtin; refine wpList_append_acc (ys := [UInt8.ofNat n]) rfl (.tmp 17) (.tmp 20) rfl stBytes (by (repeat (first | exact Step.refl _ | refine Step.alloc ?_ _ | refine Step.drew ?_ | refine Step.drewN ?_ _ | refine Step.setCell ?_ (by first | exact Nat.le_refl _ | assumption | omega | (simp; done) | (simp; omega)) _ | assumption | refine Step.trans ?_ (by assumption : Step _ _)))) (Own.step HA.out (by (repeat (first | exact Step.refl _ | refine Step.alloc ?_ _ | refine Step.drew ?_ | refine Step.drewN ?_ _ | refine Step.setCell ?_ (by first | exact Nat.le_refl _ | assumption | omega | (simp; done) | (simp; omega)) _ | assumption | refine Step.trans ?_ (by assumption : Step _ _))))) (Src.oneAt (E := Ty.byte) (y := UInt8.ofNat n) (by simp) (by first | exact byte_of n | exact byte_small (by omega))) (by rw [lim_eq]; exact Nat.le_trans (Nat.succ_le_succ hln.out) (by omega)) rfl rfl ?_; intro v3 w3 hA3 hB3 _ _; have HA3 := Lib.hid hA3; clear hA3)
        go_roundw
        case rel => exact ⟨k + 1, by go_num, by omega, hln1, by rw [htk.out, hnb.out]; exact HA3.out, hB3⟩
        case measure => simp [intOf]; omega
      · have hs1 : decide ((n : Int) ≤ 247) = false := decide_eq_false (by omega)
        obtain ⟨wo, hwo⟩ : ∃ x, x = wr := ⟨_, rfl⟩
        subst hwo
        go_wp2
        go_loopw [5, 7] (fun n' i w' => ∃ (m e : Nat) (ds : List UInt8), n' = .int .u64 m ∧ i = .int .i64 e ∧ e ≤ 8 ∧ e + ds.length = 8 ∧ Hid (m < 256 ^ e) ∧ Hid (beB n = beB m ++ ds) ∧ Hid (∀ i (hi : i < ds.length), w'.cell? ⟨wo.heap.size, e + i, none⟩ = some (.int .u8 (ds[i].toNat : Int))) ∧
          Hid (∀ i, i < 8 → (w'.cell? ⟨wo.heap.size, i, none⟩).isSome = true ∧ w'.frozen? ⟨wo.heap.size, i, none⟩ = false) ∧ Step wo w' ∧ wo.heap.size < w'.heap.size) (fun n' _ _ => (intOf n').toNat)
        case atStart =>
          refine ⟨n, 8, [], rfl, rfl, by omega, rfl, Lib.hid (by omega), Lib.hid (by simp), Lib.hid (fun i hi => absurd hi (by simp)), Lib.hid (fun i hi => ?_), by (repeat (first | exact Step.refl _ | refine Step.alloc ?_ _ | refine Step.drew ?_ | refine Step.drewN ?_ _ | refine Step.setCell ?_ (by first | exact Nat.le_refl _ | assumption | omega | (simp; done) | (simp; omega)) _ | assumption | refine Step.trans ?_ (by assumption : Step _ _))), by simp⟩
          refine ⟨?_, by simp⟩
          rw [World.cell?_alloc_new]
          simp [hi]
        case round =>
          obtain ⟨m, e, ds, rfl, rfl, he, hds, hm, hbe, hcs, hfz, hS, hz⟩ := hrel
          by_cases h0 : m = 0
          · subst h0
            have hds1 : Hid (beB n = ds) := Lib.hid (by rw [hbe.out, beB_zero]; rfl)
            have hlt8 : e < 8 := by
              have h5 := congrArg List.length hds1.out
              rw [beB_pos (by omega), List.length_append] at h5
              simp at h5
              omega
            have hsl : (Instr.sliceAt 185 (.pointer (some ⟨wo.heap.size, 0, none⟩)) (some (.int .i64 (e : Int))) none none).run Try.prog wr = .ok (.slice (some ⟨wo.heap.size, e, none⟩) ds.length ds.length) wr := by
              rw [run_sliceAt_array_l wr 185 _ Try.underlying185 .i64 e (by omega) (by show (e : Int) ≤ 8; omega)]
              obtain ⟨_, i, z, hi, _, hsize, _⟩ := stBytes
              have h1 : Try.prog.elem 185 = 5 := by kernel_rfl
              have h2 : Try.prog.arrayLen 185 = 8 := by kernel_rfl
              have h3 : (sizeOf 5).run Try.prog wr = .ok 1 wr := by simp [sizeOf, typeInfo, hi, hsize]; rfl
              rw [h1, h2, h3]
              have h4 : 8 - e = ds.length := by omega
              have h5 : ¬ 8 = e := by omega
              simp [Result.andThen, slicedAt, h4, h5, Addr.add]
              exact fun h => h.symm
            have hnb : Hid (numB n = UInt8.ofNat (247 + ds.length) :: ds) := Lib.hid (by unfold numB; rw [if_neg hs, hds1.out])
            have nT : Hid (∀ r, u3.ownBlock = some r → r ≠ wo.heap.size) := Lib.hid (fun r hr => by have := (HA.out.lt hr).2; omega)
            go_wp2_with (first
              | (at_builtin; refine wpList_append_acc (ys := [UInt8.ofNat (247 + ds.length)]) rfl (.tmp 34) (.tmp 39) rfl stBytes (by (repeat (first | exact Step.refl _ | refine Step.alloc ?_ _ | refine Step.drew ?_ | refine Step.drewN ?_ _ | refine Step.setCell ?_ (by first | exact Nat.le_refl _ | assumption | omega | (simp; done) | (simp; omega)) _ | assumption | refine Step.trans ?_ (by assumption : Step _ _)))) (Own.step HA.out (by (repeat (first | exact Step.refl _ | refine Step.alloc ?_ _ | refine Step.drew ?_ | refine Step.drewN ?_ _ | refine Step.setCell ?_ (by first | exact Nat.le_refl _ | assumption | omega | (simp; done) | (simp; omega)) _ | assumption | refine Step.trans ?_ (by assumption : Step _ _))))) (Src.oneAt (E := Ty.byte) (y := UInt8.ofNat (247 + ds.length)) (by simp) (by rw [show (247 + (ds.length : Int)) = ((247 + ds.length : Nat) : Int) by simp]; exact byte_small (by omega))) (by rw [lim_eq]; exact Nat.le_trans (Nat.succ_le_succ hln.out) (by omega)) rfl rfl ?_; intro v3 w3 hA3 hB3 hG3 _; have HA3 := Lib.hid hA3; have HG3 := Lib.hid hG3; clear hA3 hG3)
              | (at_builtin; refine wpList_append_acc (ys := ds) rfl (.tmp 40) (.tmp 41) rfl stBytes hB3 HA3.out ?_ (by rw [lim_eq]; have := hln.out; simp at this ⊢; omega) rfl rfl ?_; exact ⟨_, _, rfl, fun _ => ⟨_, _, rfl, fun i hi => ⟨[.int .u8 (ds[i].toNat : Int)], rfl, fun j u hu => by (rcases j with _ | j; ((obtain rfl : _ = u := by simpa using hu); (rw [show e + i * Ty.byte.n + 0 = e + i by simp [Ty.byte]]); exact (grown_cell HG3.out (by first | assumption | omega | (simp; done) | (simp; omega)) (fun er => nT.out _ er rfl) _).trans ((Step.cell (by (repeat (first | exact Step.refl _ | refine Step.alloc ?_ _ | refine Step.drew ?_ | refine Step.drewN ?_ _ | refine Step.setCell ?_ (by first | exact Nat.le_refl _ | assumption | omega | (simp; done) | (simp; omega)) _ | assumption | refine Step.trans ?_ (by assumption : Step _ _))) : Step wr _) hz _).trans (hcs.out i hi))); (simp at hu))⟩⟩⟩; intro v5 w5 hA5 hB5 _ _; have HA5 := Lib.hid hA5; clear hA5))
            go_roundw
            case rel => exact ⟨k + 1, by go_num, by omega, hln1, by rw [htk.out, hnb.out]; simpa using HA5.out, hB5⟩
            case measure => simp [intOf]; omega
          · have h0' : decide ((0 : Int) < (m : Int)) = true := decide_eq_true (by omega)
            obtain ⟨e, rfl⟩ : ∃ k, e = k + 1 := by
              rcases e with _ | e
              · exact absurd hm.out (by simp; omega)
              · exact ⟨e, rfl⟩
            have hp : 0 < m := by omega
            obtain ⟨zv, z1⟩ := Option.isSome_iff_exists.1 (hfz.out e (by omega)).1
            have z2 := (hfz.out e (by omega)).2
            have hm1 : Hid (m / 256 < 256 ^ e) := Lib.hid (by have := hm.out; rw [Nat.pow_succ] at this; omega)
            have hbe1 : Hid (beB n = beB (m / 256) ++ (UInt8.ofNat m :: ds)) := Lib.hid (by rw [hbe.out, beB_pos hp, List.append_assoc]; rfl)
            go_wp2
            refine ⟨⟨m / 256, e, UInt8.ofNat m :: ds, by simp, rfl, by omega, by simp; omega, hm1, hbe1, Lib.hid (fun i hi => ?_), Lib.hid (fun i hi => ?_), by (repeat (first | exact Step.refl _ | refine Step.alloc ?_ _ | refine Step.drew ?_ | refine Step.drewN ?_ _ | refine Step.setCell ?_ (by first | exact Nat.le_refl _ | assumption | omega | (simp; done) | (simp; omega)) _ | assumption | refine Step.trans ?_ (by assumption : Step _ _))), by simpa using hz⟩, ?_⟩
            · rcases i with _ | i
              · rw [Nat.add_zero, World.cell?_setCell_same (h := z1)]
                have := @byte_of w M m
                exact congrArg some (List.cons.inj this).1
              · rw [World.cell?_setCell_other (h := fun hh => by injection hh; omega), show e + (i + 1) = e + 1 + i by omega, hcs.out i (by simpa using hi)]
                rfl
            · have h3 := hfz.out i hi
              refine ⟨?_, by simpa using h3.2⟩
              by_cases hie : i = e
              · subst hie
                rw [World.cell?_setCell_same (h := z1)]
                rfl
              · rw [World.cell?_setCell_other (h := fun hh => by injection hh; omega)]
                exact h3.1
            · simp [intOf]
              omega
    · obtain rfl : k = xs.length := by omega
      go_wp2
      go_ret
      exact ⟨_, rfl, by simpa using HA.out, hB⟩
end Go.Proofs.Ythflkfgiclcdiaa
