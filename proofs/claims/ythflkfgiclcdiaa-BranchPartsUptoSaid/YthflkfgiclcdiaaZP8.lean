/-
  Walks: numbers as bytes (Number).
  Walks: a writer of bytes (Writer.Num, Writer.Text, Join).
  Walks: Writer.Text, Join of bytes.
  Walks: rec.truth, rec.numbers, a record's parts.
  Walks: a record's parts (T, W, A).
-/
import Derived.Test.YthflkfgiclcdiaaZP7
set_option linter.unusedVariables false
set_option linter.unusedSimpArgs false
namespace Go.Proofs.Ythflkfgiclcdiaa
open Go.RowKit Go.Gr
set_option linter.unusedSimpArgs false
/-- A number's bytes, the greatest first. -/
def beB (n : Nat) : List UInt8 := if h : n = 0 then [] else beB (n / 256) ++ [UInt8.ofNat n]
termination_by n
decreasing_by omega
theorem beB_zero : beB 0 = [] := by unfold beB; simp
theorem beB_pos {n : Nat} (h : 0 < n) : beB n = beB (n / 256) ++ [UInt8.ofNat n] := by
  rw [beB, dif_neg (by omega)]
def numB (n : Nat) : List UInt8 := if n ≤ 247 then [UInt8.ofNat n] else UInt8.ofNat (247 + (beB n).length) :: beB n
def numsB (xs : List Nat) : List UInt8 := xs.flatMap numB
theorem beB_len : ∀ (k n : Nat), n < 256 ^ k → (beB n).length ≤ k := by
  intro k
  induction k with
  | zero => intro n h; obtain rfl : n = 0 := (by simpa using h); simp [beB_zero]
  | succ k ih =>
    intro n h
    rcases Nat.eq_zero_or_pos n with rfl | hp
    · rw [beB_zero]; simp
    · rw [beB_pos hp, List.length_append]
      have := ih (n / 256) (by rw [Nat.pow_succ] at h; omega)
      simp
      omega
theorem numB_len {n : Nat} (h : n < 18446744073709551616) : (numB n).length ≤ 9 := by
  unfold numB
  split
  · simp
  · have := beB_len 8 n (by omega)
    simp
    omega
theorem numsB_len {xs : List Nat} (h : ∀ x ∈ xs, x < 18446744073709551616) : (numsB xs).length ≤ xs.length * 9 := by
  induction xs with
  | nil => simp [numsB]
  | cons x xs ih =>
    have h1 := numB_len (h x (by simp))
    have h2 := ih (fun y hy => h y (by simp [hy]))
    simp only [numsB, List.flatMap_cons, List.length_append, List.length_cons] at *
    omega

theorem byte_of {w : World} {M : Nat → Prop} (n : Nat) : Ty.byte.rep w M [.int .u8 ((n : Int) % 256)] (UInt8.ofNat n) := by
  show [Value.int .u8 ((n : Int) % 256)] = [Value.int .u8 ((UInt8.ofNat n).toNat : Int)]
  have : ((UInt8.ofNat n).toNat : Int) = (n : Int) % 256 := by rw [UInt8.toNat_ofNat']; omega
  rw [this]
theorem byte_small {w : World} {M : Nat → Prop} {n : Nat} (h : n < 256) : Ty.byte.rep w M [.int .u8 (n : Int)] (UInt8.ofNat n) := by
  have := @byte_of w M n
  rwa [Int.emod_eq_of_lt (by omega) (by omega)] at this

set_option maxRecDepth 100000 in
set_option maxHeartbeats 4000000 in
theorem Number_ (w : World) (M : Nat → Prop) (v : Value) (xs : List Nat) (h : (Ty.slice Ty.u64).rep w M [v] xs) (hxs : xs.length < 16777216) :
    Calls Try.prog 83 #[v] w fun e w' => ∃ v', e = .returned v' ∧ Own Ty.byte 5 w' (· < w.heap.size) w.heap.size v' (numsB xs) ∧ Step w w' := by
  obtain ⟨a, c, rfl, hc, hm, hl⟩ := Ty.slice_val h
  have H := Lib.hid h
  clear h hc hm hl
  go_enter Try.func83, Try.ntmps83
  go_wp2
  go_loopw [3, 11] (fun o i w' => ∃ k : Nat, i = .int .i64 k ∧ k ≤ xs.length ∧ Hid ((numsB (xs.take k)).length ≤ k * 9) ∧ Own Ty.byte 5 w' (· < w.heap.size) w.heap.size o (numsB (xs.take k)) ∧ Step w w') (fun _ i _ => xs.length - (intOf i).toNat)
  case atStart => exact ⟨0, rfl, by omega, Lib.hid (by simp [numsB]), Own.nil, Step.refl _⟩
  case round =>
    obtain ⟨k, rfl, hk, hln, hA, hB⟩ := hrel
    have HA := Lib.hid hA
    clear hA
    have hsz := hB.size
    by_cases hlt : k < xs.length
    · obtain ⟨b1, o1, u1, rfl, hb1, _, hu1, hc0⟩ := Ty.slice_at1 rfl H.out hlt
      obtain ⟨hu, hbd⟩ := hu1
      obtain rfl : u1 = .int .u64 (xs[k] : Int) := by simpa using hu
      clear hu
      have q := (Step.cell (w' := wr) hB hb1 _).trans hc0
      clear hc0
      have htk : Hid (numsB (xs.take (k + 1)) = numsB (xs.take k) ++ numB xs[k]) := Lib.hid (by unfold numsB; rw [List.take_succ_eq_append_getElem hlt, List.flatMap_append]; simp)
      have hln1 : Hid ((numsB (xs.take (k + 1))).length ≤ (k + 1) * 9) := Lib.hid (by have := numB_len hbd; rw [htk.out, List.length_append]; have := hln.out; omega)
      generalize hn : xs[k] = n at *
      clear hn
      by_cases hs : n ≤ 247
      · have hs1 : decide ((n : Int) ≤ 247) = true := decide_eq_true (by omega)
        have hnb : Hid (numB n = [UInt8.ofNat n]) := Lib.hid (if_pos hs)
        go_wp2_with (at_builtin; refine wpList_append_acc (ys := [UInt8.ofNat n]) rfl (.tmp 17) (.tmp 20) rfl stBytes (by (repeat (first | exact Step.refl _ | refine Step.alloc ?_ _ | refine Step.drew ?_ | refine Step.drewN ?_ _ | refine Step.setCell ?_ (by first | exact Nat.le_refl _ | assumption | omega | (simp; done) | (simp; omega)) _ | assumption | refine Step.trans ?_ (by assumption : Step _ _)))) (Own.step HA.out (by (repeat (first | exact Step.refl _ | refine Step.alloc ?_ _ | refine Step.drew ?_ | refine Step.drewN ?_ _ | refine Step.setCell ?_ (by first | exact Nat.le_refl _ | assumption | omega | (simp; done) | (simp; omega)) _ | assumption | refine Step.trans ?_ (by assumption : Step _ _))))) (Src.oneAt (E := Ty.byte) (y := UInt8.ofNat n) (by simp) (by first | exact byte_of n | exact byte_small (by omega))) (by rw [lim_eq]; exact Nat.le_trans (Nat.succ_le_succ hln.out) (by omega)) rfl rfl ?_; intro v3 w3 hA3 hB3 _ _; have HA3 := Lib.hid hA3; clear hA3)
        go_roundw
        case rel => exact ⟨k + 1, by go_num, by omega, hln1, by rw [htk.out, hnb.out]; exact HA3.out, hB3⟩
        case measure => simp [intOf]; omega
      · have hs1 : decide ((n : Int) ≤ 247) = false := decide_eq_false (by omega)
        obtain ⟨wo, hwo⟩ : ∃ x, x = wr := ⟨_, rfl⟩
        subst hwo
        go_wp2
        go_loopw [5, 7] (fun n' i w' => ∃ (m e : Nat) (ds : List UInt8), n' = .int .u64 m ∧ i = .int .i64 e ∧ e ≤ 8 ∧ e + ds.length = 8 ∧ Hid (m < 256 ^ e) ∧ Hid (beB n = beB m ++ ds) ∧ Hid (∀ i (hi : i < ds.length), w'.cell? ⟨wo.heap.size, e + i, none⟩ = some (.int .u8 (ds[i].toNat : Int))) ∧
          Hid (∀ i, i < 8 → (w'.cell? ⟨wo.heap.size, i, none⟩).isSome = true ∧ w'.frozen? ⟨wo.heap.size, i, none⟩ = false) ∧ Step wo w' ∧ wo.heap.size < w'.heap.size) (fun n' _ _ => (intOf n').toNat)
        case atStart =>
          refine ⟨n, 8, [], rfl, rfl, by omega, rfl, Lib.hid (by omega), Lib.hid (by simp), Lib.hid (fun i hi => absurd hi (by simp)), Lib.hid (fun i hi => ?_), by (repeat (first | exact Step.refl _ | refine Step.alloc ?_ _ | refine Step.drew ?_ | refine Step.drewN ?_ _ | refine Step.setCell ?_ (by first | exact Nat.le_refl _ | assumption | omega | (simp; done) | (simp; omega)) _ | assumption | refine Step.trans ?_ (by assumption : Step _ _))), by simp⟩
          refine ⟨?_, by simp⟩
          rw [World.cell?_alloc_new]
          simp [hi]
        case round =>
          obtain ⟨m, e, ds, rfl, rfl, he, hds, hm, hbe, hcs, hfz, hS, hz⟩ := hrel
          by_cases h0 : m = 0
          · subst h0
            have hds1 : Hid (beB n = ds) := Lib.hid (by rw [hbe.out, beB_zero]; rfl)
            have hlt8 : e < 8 := by
              have h5 := congrArg List.length hds1.out
              rw [beB_pos (by omega), List.length_append] at h5
              simp at h5
              omega
            have hsl : (Instr.sliceAt 185 (.pointer (some ⟨wo.heap.size, 0, none⟩)) (some (.int .i64 (e : Int))) none none).run Try.prog wr = .ok (.slice (some ⟨wo.heap.size, e, none⟩) ds.length ds.length) wr := by
              rw [run_sliceAt_array_l wr 185 _ Try.underlying185 .i64 e (by omega) (by show (e : Int) ≤ 8; omega)]
              obtain ⟨_, i, z, hi, _, hsize, _⟩ := stBytes
              have h1 : Try.prog.elem 185 = 5 := by kernel_rfl
              have h2 : Try.prog.arrayLen 185 = 8 := by kernel_rfl
              have h3 : (sizeOf 5).run Try.prog wr = .ok 1 wr := by simp [sizeOf, typeInfo, hi, hsize]; rfl
              rw [h1, h2, h3]
              have h4 : 8 - e = ds.length := by omega
              have h5 : ¬ 8 = e := by omega
              simp [Result.andThen, slicedAt, h4, h5, Addr.add]
              exact fun h => h.symm
            have hnb : Hid (numB n = UInt8.ofNat (247 + ds.length) :: ds) := Lib.hid (by unfold numB; rw [if_neg hs, hds1.out])
            have nT : Hid (∀ r, u3.ownBlock = some r → r ≠ wo.heap.size) := Lib.hid (fun r hr => by have := (HA.out.lt hr).2; omega)
            go_wp2_with (first
              | (at_builtin; refine wpList_append_acc (ys := [UInt8.ofNat (247 + ds.length)]) rfl (.tmp 34) (.tmp 39) rfl stBytes (by (repeat (first | exact Step.refl _ | refine Step.alloc ?_ _ | refine Step.drew ?_ | refine Step.drewN ?_ _ | refine Step.setCell ?_ (by first | exact Nat.le_refl _ | assumption | omega | (simp; done) | (simp; omega)) _ | assumption | refine Step.trans ?_ (by assumption : Step _ _)))) (Own.step HA.out (by (repeat (first | exact Step.refl _ | refine Step.alloc ?_ _ | refine Step.drew ?_ | refine Step.drewN ?_ _ | refine Step.setCell ?_ (by first | exact Nat.le_refl _ | assumption | omega | (simp; done) | (simp; omega)) _ | assumption | refine Step.trans ?_ (by assumption : Step _ _))))) (Src.oneAt (E := Ty.byte) (y := UInt8.ofNat (247 + ds.length)) (by simp) (by rw [show (247 + (ds.length : Int)) = ((247 + ds.length : Nat) : Int) by simp]; exact byte_small (by omega))) (by rw [lim_eq]; exact Nat.le_trans (Nat.succ_le_succ hln.out) (by omega)) rfl rfl ?_; intro v3 w3 hA3 hB3 hG3 _; have HA3 := Lib.hid hA3; have HG3 := Lib.hid hG3; clear hA3 hG3)
              | (at_builtin; refine wpList_append_acc (ys := ds) rfl (.tmp 40) (.tmp 41) rfl stBytes hB3 HA3.out ?_ (by rw [lim_eq]; have := hln.out; simp at this ⊢; omega) rfl rfl ?_; exact ⟨_, _, rfl, fun _ => ⟨_, _, rfl, fun i hi => ⟨[.int .u8 (ds[i].toNat : Int)], rfl, fun j u hu => by (rcases j with _ | j; ((obtain rfl : _ = u := by simpa using hu); (rw [show e + i * Ty.byte.n + 0 = e + i by simp [Ty.byte]]); exact (grown_cell HG3.out (by first | assumption | omega | (simp; done) | (simp; omega)) (fun er => nT.out _ er rfl) _).trans ((Step.cell (by (repeat (first | exact Step.refl _ | refine Step.alloc ?_ _ | refine Step.drew ?_ | refine Step.drewN ?_ _ | refine Step.setCell ?_ (by first | exact Nat.le_refl _ | assumption | omega | (simp; done) | (simp; omega)) _ | assumption | refine Step.trans ?_ (by assumption : Step _ _))) : Step wr _) hz _).trans (hcs.out i hi))); (simp at hu))⟩⟩⟩; intro v5 w5 hA5 hB5 _ _; have HA5 := Lib.hid hA5; clear hA5))
            go_roundw
            case rel => exact ⟨k + 1, by go_num, by omega, hln1, by rw [htk.out, hnb.out]; simpa using HA5.out, hB5⟩
            case measure => simp [intOf]; omega
          · have h0' : decide ((0 : Int) < (m : Int)) = true := decide_eq_true (by omega)
            obtain ⟨e, rfl⟩ : ∃ k, e = k + 1 := by
              rcases e with _ | e
              · exact absurd hm.out (by simp; omega)
              · exact ⟨e, rfl⟩
            have hp : 0 < m := by omega
            obtain ⟨zv, z1⟩ := Option.isSome_iff_exists.1 (hfz.out e (by omega)).1
            have z2 := (hfz.out e (by omega)).2
            have hm1 : Hid (m / 256 < 256 ^ e) := Lib.hid (by have := hm.out; rw [Nat.pow_succ] at this; omega)
            have hbe1 : Hid (beB n = beB (m / 256) ++ (UInt8.ofNat m :: ds)) := Lib.hid (by rw [hbe.out, beB_pos hp, List.append_assoc]; rfl)
            go_wp2
            refine ⟨⟨m / 256, e, UInt8.ofNat m :: ds, by simp, rfl, by omega, by simp; omega, hm1, hbe1, Lib.hid (fun i hi => ?_), Lib.hid (fun i hi => ?_), by (repeat (first | exact Step.refl _ | refine Step.alloc ?_ _ | refine Step.drew ?_ | refine Step.drewN ?_ _ | refine Step.setCell ?_ (by first | exact Nat.le_refl _ | assumption | omega | (simp; done) | (simp; omega)) _ | assumption | refine Step.trans ?_ (by assumption : Step _ _))), by simpa using hz⟩, ?_⟩
            · rcases i with _ | i
              · rw [Nat.add_zero, World.cell?_setCell_same (h := z1)]
                have := @byte_of w M m
                exact congrArg some (List.cons.inj this).1
              · rw [World.cell?_setCell_other (h := fun hh => by injection hh; omega), show e + (i + 1) = e + 1 + i by omega, hcs.out i (by simpa using hi)]
                rfl
            · have h3 := hfz.out i hi
              refine ⟨?_, by simpa using h3.2⟩
              by_cases hie : i = e
              · subst hie
                rw [World.cell?_setCell_same (h := z1)]
                rfl
              · rw [World.cell?_setCell_other (h := fun hh => by injection hh; omega)]
                exact h3.1
            · simp [intOf]
              omega
    · obtain rfl : k = xs.length := by omega
      go_wp2
      go_ret
      exact ⟨_, rfl, by simpa using HA.out, hB⟩
end Go.Proofs.Ythflkfgiclcdiaa

namespace Go.Proofs.Ythflkfgiclcdiaa
open Go.RowKit Go.Gr
set_option linter.unusedSimpArgs false
/-- Block pb, made since w0, is a writer that has put 'out'; what w0 had is as it was. -/
def WriterAt (w0 w : World) (pb : Nat) (out : List UInt8) : Prop :=
  ∃ v, w.cell? ⟨pb, 0, none⟩ = some v ∧ w.frozen? ⟨pb, 0, none⟩ = false ∧ Own Ty.byte 5 w (· < pb + 1) (pb + 1) v out ∧ Step w0 w ∧ w0.heap.size ≤ pb ∧ pb < w.heap.size
set_option maxRecDepth 100000 in
set_option maxHeartbeats 1000000 in
theorem wNum_ {w0 w : World} {M : Nat → Prop} {pb : Nat} {out : List UInt8} {nv : Value} {xs : List Nat} (hW : WriterAt w0 w pb out) (h : (Ty.slice Ty.u64).rep w M [nv] xs) (hxs : xs.length < 16777216) (hl : out.length + (numsB xs).length ≤ lim) :
    Calls Try.prog 113 #[.pointer (some ⟨pb, 0, none⟩), nv] w fun e w' => e = .returned (.tuple #[]) ∧ WriterAt w0 w' pb (out ++ numsB xs) := by
  obtain ⟨v, p0, f0, hO, hS, hp, hz⟩ := hW
  obtain ⟨va, vc, rfl⟩ := hO.val
  obtain ⟨a, c, rfl, hc, hm, _⟩ := Ty.slice_val h
  have H := Lib.hid h
  have HO := Lib.hid hO
  clear h hO hc hm
  have nP : Hid ((Value.slice va out.length vc).ownBlock ≠ some pb) := Lib.hid (fun e => absurd (HO.out.lt e).1 (by omega))
  go_enter Try.func113, Try.ntmps113
  go_wp2
  refine wp_region_cut (S := (fun w' => w'.cell? ⟨pb, 0, none⟩ = some (.slice va out.length vc))) 10 (by kernel_rfl) ?_ (fun hHeld => ?_)
  · (go_keep)
  refine wpAnyC_take (i := 0) (v := ?_) rfl (by kernel_rfl) (by kernel_rfl) (by kernel_rfl) (by decide) [8, 9, 10] (by kernel_rfl) (fun _ _ _ h => h) (Or.inl ⟨by rfl, ?_⟩) (by assumption) ?_
  rotate_left 1
  · (intro w hSw; (try dsimp only at hSw); go_simp; (try with_reducible rfl))
  try simp only [Act.put, List.getElem_toArray, List.getElem_cons_succ, List.getElem_cons_zero, List.setIfInBounds_toArray, List.set_cons_zero, List.set_cons_succ]
  refine wpAnyC_take (i := 1) (v := ?_) rfl (by kernel_rfl) (by kernel_rfl) (by kernel_rfl) (by decide) [2, 3, 4, 7, 8, 9, 10] (by kernel_rfl) (fun _ _ _ h => h) (Or.inl ⟨by rfl, ?_⟩) (by assumption) ?_
  rotate_left 1
  · (intro w hSw; (try dsimp only at hSw); go_simp; (try with_reducible rfl))
  try simp only [Act.put, List.getElem_toArray, List.getElem_cons_succ, List.getElem_cons_zero, List.setIfInBounds_toArray, List.set_cons_zero, List.set_cons_succ]
  refine wpAnyC_take (i := 2) (v := ?_) rfl (by kernel_rfl) (by kernel_rfl) (by kernel_rfl) (by decide) [3, 4, 7, 8, 9, 10] (by kernel_rfl) (fun _ _ _ h => h) (Or.inl ⟨by rfl, ?_⟩) (by assumption) ?_
  rotate_left 1
  · (intro w hSw; (try dsimp only at hSw); go_simp; (try with_reducible rfl))
  try simp only [Act.put, List.getElem_toArray, List.getElem_cons_succ, List.getElem_cons_zero, List.setIfInBounds_toArray, List.set_cons_zero, List.set_cons_succ]
  refine wpAnyC_take (i := 3) (v := ?_) rfl (by kernel_rfl) (by kernel_rfl) (by kernel_rfl) (by decide) [4, 7, 8, 9, 10] (by kernel_rfl) (fun _ _ _ h => h) (Or.inl ⟨by rfl, ?_⟩) (by assumption) ?_
  rotate_left 1
  · (intro w hSw; (try dsimp only at hSw); go_simp; (try with_reducible rfl))
  try simp only [Act.put, List.getElem_toArray, List.getElem_cons_succ, List.getElem_cons_zero, List.setIfInBounds_toArray, List.set_cons_zero, List.set_cons_succ]
  refine wpAnyC_take (i := 4) (v := ?_) rfl (by kernel_rfl) (by kernel_rfl) (by kernel_rfl) (by decide) [7, 8, 9, 10] (by kernel_rfl) (fun _ _ _ h => h) (Or.inl ⟨by rfl, ?_⟩) (by assumption) ?_
  rotate_left 1
  · (intro w hSw; (try dsimp only at hSw); go_simp; (try with_reducible rfl))
  try simp only [Act.put, List.getElem_toArray, List.getElem_cons_succ, List.getElem_cons_zero, List.setIfInBounds_toArray, List.set_cons_zero, List.set_cons_succ]
  refine wpAnyC_take (i := 5) (v := ?_) rfl (by kernel_rfl) (by kernel_rfl) (by kernel_rfl) (by decide) [6, 7, 8, 9, 10] (by kernel_rfl) (fun _ _ _ h => h) (Or.inl ⟨by rfl, ?_⟩) (by assumption) ?_
  rotate_left 1
  · (intro w hSw; (try dsimp only at hSw); go_simp; (try with_reducible rfl))
  try simp only [Act.put, List.getElem_toArray, List.getElem_cons_succ, List.getElem_cons_zero, List.setIfInBounds_toArray, List.set_cons_zero, List.set_cons_succ]
  refine wpAnyC_ready (rs := [6]) (by kernel_rfl) (by simp) ?_
  refine AllReadyC.cons rfl (by decide) (fun K hK => ?_) AllReadyC.nil
  try simp only [List.getElem_toArray, List.getElem_cons_succ, List.getElem_cons_zero]
  go_simp
  (go_at_call 83; refine (Number_ _ _ _ _ (by refine Ty.step _ (Hid.out (by assumption)) ?_; (repeat (first | exact Step.refl _ | refine Step.alloc ?_ _ | refine Step.drew ?_ | refine Step.drewN ?_ _ | refine Step.setCell ?_ (by first | exact Nat.le_refl _ | assumption | omega | (simp; done) | (simp; omega)) _ | assumption | refine Step.trans ?_ (by assumption : Step _ _)))) hxs).mono ?_; rintro e2 w2 ⟨v2, rfl, hA2, hS2⟩; obtain ⟨b2, m2, rfl⟩ := hA2.val; have f2_0 : ∀ j, w2.frozen? ⟨pb, j, none⟩ = _ := fun j => hS2.frozen (by first | assumption | omega | (simp; done) | (simp; omega)) j; have s2_0 : ∀ j, w2.cell? ⟨pb, j, none⟩ = _ := fun j => hS2.cell (by first | assumption | omega | (simp; done) | (simp; omega)) j; have z2_0 : pb < w2.heap.size := Nat.lt_of_lt_of_le (by first | assumption | omega | (simp; done) | (simp; omega)) hS2.size; have HA2 := Lib.hid hA2; clear hA2)
  refine hK.out _ _ ?_ (fun hHeld => ?_)
  · (go_keep)
  clear hK K
  try simp only [Act.put, List.getElem_toArray, List.getElem_cons_succ, List.getElem_cons_zero, List.setIfInBounds_toArray, List.set_cons_zero, List.set_cons_succ]
  refine wpAnyC_ready (rs := [7]) (by kernel_rfl) (by simp) ?_
  refine AllReadyC.cons rfl (by decide) (fun K hK => ?_) AllReadyC.nil
  try simp only [List.getElem_toArray, List.getElem_cons_succ, List.getElem_cons_zero]
  refine ite_then rfl ?_; refine wp_append_gen (E := Ty.byte) (B := pb + 1) (M := (· < pb + 1)) (ys := numsB xs) (.tmp 8) (.tmp 10) rfl stBytes (Own.step HO.out (by (repeat (first | exact Step.refl _ | refine Step.alloc ?_ _ | refine Step.drew ?_ | refine Step.drewN ?_ _ | refine Step.setCell ?_ (by first | exact Nat.le_refl _ | assumption | omega | (simp; done) | (simp; omega)) _ | assumption | refine Step.trans ?_ (by assumption : Step _ _))))) (Src.flat Ty.flat_byte (Own.rep HA2.out (fun b hb => hb))) hl (by first | assumption | omega | (simp; done) | (simp; omega)) rfl rfl ?_; intro v4 w4 hA4 hG4 _; obtain ⟨b4, m4, rfl⟩ := hA4.val; have c4 := (grown_cell hG4 (by first | assumption | omega | (simp; done) | (simp; omega)) nP.out 0).trans ((Step.cell (by (repeat (first | exact Step.refl _ | refine Step.alloc ?_ _ | refine Step.drew ?_ | refine Step.drewN ?_ _ | refine Step.setCell ?_ (by first | exact Nat.le_refl _ | assumption | omega | (simp; done) | (simp; omega)) _ | assumption | refine Step.trans ?_ (by assumption : Step _ _))) : Step w _) hz 0).trans p0); have t4 := (grown_frozen hG4 (by first | assumption | omega | (simp; done) | (simp; omega)) nP.out 0).trans ((Step.frozen (by (repeat (first | exact Step.refl _ | refine Step.alloc ?_ _ | refine Step.drew ?_ | refine Step.drewN ?_ _ | refine Step.setCell ?_ (by first | exact Nat.le_refl _ | assumption | omega | (simp; done) | (simp; omega)) _ | assumption | refine Step.trans ?_ (by assumption : Step _ _))) : Step w _) hz 0).trans f0); have z4 := hG4.size; have HA4 := Lib.hid hA4; have hS4 := Own.grown (w0 := w0) (Own.base (Own.step HO.out (by (repeat (first | exact Step.refl _ | refine Step.alloc ?_ _ | refine Step.drew ?_ | refine Step.drewN ?_ _ | refine Step.setCell ?_ (by first | exact Nat.le_refl _ | assumption | omega | (simp; done) | (simp; omega)) _ | assumption | refine Step.trans ?_ (by assumption : Step _ _))))) (by first | assumption | omega | (simp; done) | (simp; omega))) (by (repeat (first | exact Step.refl _ | refine Step.alloc ?_ _ | refine Step.drew ?_ | refine Step.drewN ?_ _ | refine Step.setCell ?_ (by first | exact Nat.le_refl _ | assumption | omega | (simp; done) | (simp; omega)) _ | assumption | refine Step.trans ?_ (by assumption : Step _ _)))) hG4; clear hA4
  refine hK.out _ _ ?_ (fun hHeld => ?_)
  · (go_keep)
  clear hK K
  try simp only [Act.put, List.getElem_toArray, List.getElem_cons_succ, List.getElem_cons_zero, List.setIfInBounds_toArray, List.set_cons_zero, List.set_cons_succ]
  refine wpAnyC_take (i := 8) (v := ?_) rfl (by kernel_rfl) (by kernel_rfl) (by kernel_rfl) (by decide) [9, 10] (by kernel_rfl) (fun _ _ _ h => h) (Or.inl ⟨by rfl, ?_⟩) (by assumption) ?_
  rotate_left 1
  · (intro w hSw; (try dsimp only at hSw); go_simp; (try with_reducible rfl))
  try simp only [Act.put, List.getElem_toArray, List.getElem_cons_succ, List.getElem_cons_zero, List.setIfInBounds_toArray, List.set_cons_zero, List.set_cons_succ]
  refine wpAnyC_take (i := 9) (v := ?_) rfl (by kernel_rfl) (by kernel_rfl) (by kernel_rfl) (by decide) [10] (by kernel_rfl) (fun _ _ _ h => h) (Or.inl ⟨by rfl, ?_⟩) (by assumption) ?_
  rotate_left 1
  · (intro w hSw; (try dsimp only at hSw); go_simp; (try with_reducible rfl))
  try simp only [Act.put, List.getElem_toArray, List.getElem_cons_succ, List.getElem_cons_zero, List.setIfInBounds_toArray, List.set_cons_zero, List.set_cons_succ]
  refine wpAnyC_ready (rs := [10]) (by kernel_rfl) (by simp) ?_
  refine AllReadyC.cut rfl (fun K hK => ?_)
  try simp only [List.getElem_toArray, List.getElem_cons_succ, List.getElem_cons_zero]
  go_simp
  refine hK.out _ _ trivial (fun hHeld => ?_)
  clear hK K
  try simp only [Act.put, List.getElem_toArray, List.getElem_cons_succ, List.getElem_cons_zero, List.setIfInBounds_toArray, List.set_cons_zero, List.set_cons_succ]
  have hTrue : True := trivial
  refine wpAnyH_done (by kernel_rfl) ?_ _
  go_wp2
  refine bodyPost_end (results_none rfl _ _ _) rfl ?_
  exact ⟨rfl, _, World.cell?_setCell_same _ _ _ c4, by simpa using t4, by have hq := Own.set HA4.out (p := ⟨pb, 0, none⟩) (Nat.lt_succ_self _) (Nat.lt_succ_self _) (.slice b4 (out ++ numsB xs).length m4); simpa only [List.length_append] using hq, by (repeat (first | exact Step.refl _ | refine Step.alloc ?_ _ | refine Step.drew ?_ | refine Step.drewN ?_ _ | refine Step.setCell ?_ (by first | exact Nat.le_refl _ | assumption | omega | (simp; done) | (simp; omega)) _ | assumption | refine Step.trans ?_ (by assumption : Step _ _))), hp, by have := lt_of_cell c4; simpa using this⟩
end Go.Proofs.Ythflkfgiclcdiaa

namespace Go.Proofs.Ythflkfgiclcdiaa
open Go.RowKit Go.Gr
set_option linter.unusedSimpArgs false
/-- Texts as bytes: each its length and itself. -/
def textB (xs : List (List UInt8)) : List UInt8 := xs.flatMap fun b => numB b.length ++ b
theorem textB_snoc (xs : List (List UInt8)) (b : List UInt8) : textB (xs ++ [b]) = textB xs ++ (numB b.length ++ b) := by simp [textB]
theorem textB_append (xs ys : List (List UInt8)) : textB (xs ++ ys) = textB xs ++ textB ys := by simp [textB]
theorem numsB_one (n : Nat) : numsB [n] = numB n := by simp [numsB]
theorem WriterAt.step {w0 w w' : World} {pb : Nat} {out : List UInt8} (h : WriterAt w0 w pb out) (hS : Step w w') : WriterAt w0 w' pb out := by
  obtain ⟨v, p0, f0, hO, h1, hp, hz⟩ := h
  exact ⟨v, (hS.cell hz _).trans p0, (hS.frozen hz _).trans f0, hO.step hS, h1.trans hS, hp, Nat.lt_of_lt_of_le hz hS.size⟩
theorem nums_lit {w : World} {e : TypeId} {n k : Nat} (hk : k = w.heap.size) (hn : n < 18446744073709551616) : (Ty.slice Ty.u64).rep (w.alloc (.cells #[.int .u64 (n : Int)] e)) (fun _ => False) [.slice (some ⟨k, 0, none⟩) 1 1] [n] := by
  subst hk
  refine Own.rep' (Own.lit (E := Ty.u64) (e := e) (M := fun _ => False) (B := 0) (xs := [n]) rfl (by simp [lim]) (Nat.zero_le _) rfl (fun i hi => ?_)) (fun _ _ h => h)
  obtain rfl : i = 0 := by simpa using hi
  exact ⟨rfl, hn⟩
set_option maxRecDepth 100000 in
set_option maxHeartbeats 4000000 in
theorem wText_ {w0 w : World} {M : Nat → Prop} {pb : Nat} {out : List UInt8} {nv : Value} {xs : List (List UInt8)} (hW : WriterAt w0 w pb out) (h : (Ty.slice Ty.bytes).rep w0 M [nv] xs) (hl : out.length + (textB xs).length ≤ lim) :
    Calls Try.prog 114 #[.pointer (some ⟨pb, 0, none⟩), nv] w fun e w' => e = .returned (.tuple #[]) ∧ WriterAt w0 w' pb (out ++ textB xs) := by
  obtain ⟨a, c, rfl, hc, hm, hxl⟩ := Ty.slice_val h
  rw [lim_eq] at hxl
  have H := Lib.hid h
  have HW := Lib.hid hW
  have HL := Lib.hid hl
  clear h hc hm hW hl
  go_enter Try.func114, Try.ntmps114
  go_wp2
  go_loopw [8] (fun i w' => ∃ k : Nat, i = .int .i64 k ∧ k ≤ xs.length ∧ WriterAt w0 w' pb (out ++ textB (xs.take k))) (fun i _ => xs.length - (intOf i).toNat)
  case atStart => exact ⟨0, rfl, by omega, by simpa [textB] using HW.out⟩
  case round =>
    obtain ⟨k, rfl, hk, hWr⟩ := hrel
    have HWr := Lib.hid hWr
    have hS := hWr.choose_spec.2.2.2.1
    clear hWr
    by_cases hlt : k < xs.length
    · obtain ⟨b, off, u, rfl, hbb, _, hu, hcu⟩ := Ty.slice_at1 rfl H.out hlt
      obtain ⟨ua, uc, rfl, _, _, hul⟩ := Ty.slice_val hu
      rw [lim_eq] at hul
      have HU := Lib.hid hu
      have q := (hS.cell hbb _).trans hcu
      clear hu hcu
      have htk : Hid (textB (xs.take (k + 1)) = textB (xs.take k) ++ (numB xs[k].length ++ xs[k])) := Lib.hid (by rw [List.take_succ_eq_append_getElem hlt, textB_snoc])
      have hle : Hid (out.length + (textB (xs.take k)).length + (numB xs[k].length).length + xs[k].length ≤ lim) := Lib.hid (by
        have h1 : textB xs = textB (xs.take (k + 1)) ++ textB (xs.drop (k + 1)) := by rw [← textB_append, List.take_append_drop]
        have := HL.out
        rw [h1, htk.out] at this
        simp only [List.length_append] at this
        omega)
      go_wp2_with (first
        | (go_at_call 113; refine (wNum_ (xs := [xs[k].length]) (HWr.out.step (by (repeat (first | exact Step.refl _ | refine Step.alloc ?_ _ | refine Step.drew ?_ | refine Step.drewN ?_ _ | refine Step.setCell ?_ (by first | exact Nat.le_refl _ | assumption | omega | (simp; done) | (simp; omega)) _ | assumption | refine Step.trans ?_ (by assumption : Step _ _))))) (nums_lit (by first | rfl | simp) (by omega)) (by simp) (by rw [numsB_one, List.length_append]; have := hle.out; omega)).mono ?_; rintro e w1 ⟨rfl, v1, p1, f1, hO1, hS1, hp1, hz1⟩; obtain ⟨a1, n1, c1, rfl, HN1⟩ := hO1.valN; have HO1 := Lib.hid hO1; have nP : Hid (∀ g, (Value.slice a1 n1 c1).ownBlock = some g → g ≠ pb) := Lib.hid (fun g hg e => absurd (HO1.out.lt hg).1 (by omega)); clear hO1)
        | (at_builtin; refine wpList_append_gen (E := Ty.byte) (B := pb + 1) (M := (· < pb + 1)) (ys := xs[k]) rfl (.tmp 22) (.tmp 23) rfl stBytes HO1.out (Src.flat Ty.flat_byte (Ty.step _ HU.out hS1)) (by rw [numsB_one, List.length_append, List.length_append]; have := hle.out; omega) hz1 rfl rfl ?_; intro v2 w2 hA2 hG2 _; obtain ⟨b2, n2, m2, rfl, HN2⟩ := hA2.valN; have c2 := (grown_cell hG2 hz1 (fun e => nP.out _ e rfl) 0).trans p1; have t2 := (grown_frozen hG2 hz1 (fun e => nP.out _ e rfl) 0).trans f1; have HA2 := Lib.hid hA2; have HS2 := Lib.hid (Own.grown (w0 := w0) (Own.base HO1.out (by omega)) hS1 hG2); have hz2 := hG2.size; clear hA2 hG2))
      go_roundw
      case rel =>
        refine ⟨k + 1, by go_num, by omega, _, World.cell?_setCell_same _ _ _ c2, by simpa using t2, ?_, HS2.out.setCell hp1 _, hp1, by simp; omega⟩
        have hq := Own.set HA2.out (p := ⟨pb, 0, none⟩) (Nat.lt_succ_self _) (Nat.lt_succ_self _) (.slice b2 n2 m2)
        rw [htk.out]
        rw [numsB_one] at hq
        simpa only [List.append_assoc] using hq
      case measure => simp [intOf]; omega
    · obtain rfl : k = xs.length := by omega
      go_wp2
      refine bodyPost_end (results_none rfl _ _ _) rfl ⟨rfl, ?_⟩
      simpa using HWr.out
/-- Parts as one list. -/
def joinB (ps : List (List UInt8)) : List UInt8 := numB ps.length ++ textB ps
set_option maxRecDepth 100000 in
set_option maxHeartbeats 4000000 in
theorem pJoin_ {w : World} {M : Nat → Prop} {v : Value} {ps : List (List UInt8)} (h : (Ty.slice Ty.bytes).rep w M [v] ps) (hl : (joinB ps).length ≤ lim) :
    Calls Try.prog 85 #[v] w fun e w' => ∃ v', e = .returned v' ∧ Own Ty.byte 5 w' (· < w.heap.size) w.heap.size v' (joinB ps) ∧ Step w w' := by
  obtain ⟨a, c, rfl, hc, hm, hxl⟩ := Ty.slice_val h
  rw [lim_eq] at hxl
  have H := Lib.hid h
  have hl' : (numB ps.length).length + (textB ps).length ≤ lim := by rw [← List.length_append]; exact hl
  have HL := Lib.hid hl'
  clear h hc hm hl hl'
  have hW0 : WriterAt w (w.alloc (.cells #[.slice none 0 0] 189)) w.heap.size [] := ⟨.slice none 0 0, by simp, by simp, Own.nil, by (repeat (first | exact Step.refl _ | refine Step.alloc ?_ _ | refine Step.drew ?_ | refine Step.drewN ?_ _ | refine Step.setCell ?_ (by first | exact Nat.le_refl _ | assumption | omega | (simp; done) | (simp; omega)) _ | assumption | refine Step.trans ?_ (by assumption : Step _ _))), Nat.le_refl _, by simp⟩
  have HW0 := Lib.hid hW0
  clear hW0
  go_enter Try.func85, Try.ntmps85
  go_wp2_with (first
    | (go_at_call 113; refine (wNum_ (xs := [ps.length]) (HW0.out.step (by (repeat (first | exact Step.refl _ | refine Step.alloc ?_ _ | refine Step.drew ?_ | refine Step.drewN ?_ _ | refine Step.setCell ?_ (by first | exact Nat.le_refl _ | assumption | omega | (simp; done) | (simp; omega)) _ | assumption | refine Step.trans ?_ (by assumption : Step _ _))))) (nums_lit (by first | rfl | simp) (by omega)) (by simp) (by rw [numsB_one]; have := HL.out; simp; omega)).mono ?_; rintro e w1 ⟨rfl, hW1⟩; have HW1 := Lib.hid hW1; clear hW1)
    | (go_at_call 114; refine (wText_ HW1.out H.out (by rw [numsB_one]; have := HL.out; simp; omega)).mono ?_; rintro e w2 ⟨rfl, v2, p2, f2, hO2, hS2, hp2, hz2⟩; obtain ⟨a2, n2, c2, rfl, HN2⟩ := hO2.valN; have HO2 := Lib.hid hO2; clear hO2))
  go_ret
  refine ⟨_, rfl, ?_, hS2⟩
  have h9 := (Own.base HO2.out (Nat.le_succ _)).less (M' := (· < w.heap.size)) (fun b _ hb => Nat.lt_succ_of_lt hb)
  rw [List.nil_append, numsB_one] at h9
  exact h9
end Go.Proofs.Ythflkfgiclcdiaa

namespace Go.Proofs.Ythflkfgiclcdiaa
open Go.RowKit Go.Gr
set_option linter.unusedSimpArgs false
def truthB (b : Bool) : List UInt8 := [if b then 1 else 0]
theorem recTruth_ (w : World) (b : Bool) :
    Calls Try.prog 130 #[.bool b] w fun e w' => ∃ v', e = .returned v' ∧ Own Ty.byte 5 w' (· < w.heap.size) w.heap.size v' (truthB b) ∧ Step w w' := by
  rcases b with _ | _
  · go_enter Try.func130, Try.ntmps130
    go_wp2
    go_ret
    exact ⟨_, rfl, Own.lit (E := Ty.byte) (e := 5) (xs := [0]) rfl (by simp [lim]) (Nat.le_refl _) rfl (fun i hi => by obtain rfl : i = 0 := (by simpa using hi); rfl), by (repeat (first | exact Step.refl _ | refine Step.alloc ?_ _ | refine Step.drew ?_ | refine Step.drewN ?_ _ | refine Step.setCell ?_ (by first | exact Nat.le_refl _ | assumption | omega | (simp; done) | (simp; omega)) _ | assumption | refine Step.trans ?_ (by assumption : Step _ _)))⟩
  · go_enter Try.func130, Try.ntmps130
    go_wp2
    go_ret
    exact ⟨_, rfl, Own.lit (E := Ty.byte) (e := 5) (xs := [1]) rfl (by simp [lim]) (Nat.le_refl _) rfl (fun i hi => by obtain rfl : i = 0 := (by simpa using hi); rfl), by (repeat (first | exact Step.refl _ | refine Step.alloc ?_ _ | refine Step.drew ?_ | refine Step.drewN ?_ _ | refine Step.setCell ?_ (by first | exact Nat.le_refl _ | assumption | omega | (simp; done) | (simp; omega)) _ | assumption | refine Step.trans ?_ (by assumption : Step _ _)))⟩
theorem numsB_snoc (xs : List Nat) (n : Nat) : numsB (xs ++ [n]) = numsB xs ++ numB n := by simp [numsB]
set_option maxRecDepth 100000 in
set_option maxHeartbeats 1000000 in
theorem recNumbers_ {w : World} {M : Nat → Prop} {v : Value} {xs : List Nat} (h : (Ty.slice Ty.u64).rep w M [v] xs) (hxs : xs.length < 16777216) :
    Calls Try.prog 129 #[v] w fun e w' => ∃ v', e = .returned v' ∧ Own Ty.byte 5 w' (· < w.heap.size) w.heap.size v' (numsB xs) ∧ Step w w' := by
  obtain ⟨a, c, rfl, hc, hm, hl⟩ := Ty.slice_val h
  have H := Lib.hid h
  clear h hc hm hl
  go_enter Try.func129, Try.ntmps129
  go_wp2
  go_loopw [3, 8] (fun o i w' => ∃ k : Nat, i = .int .i64 k ∧ k ≤ xs.length ∧ Hid ((numsB (xs.take k)).length ≤ k * 9) ∧ Own Ty.byte 5 w' (· < w.heap.size) w.heap.size o (numsB (xs.take k)) ∧ Step w w') (fun _ i _ => xs.length - (intOf i).toNat)
  case atStart => exact ⟨0, rfl, by omega, Lib.hid (by simp [numsB]), Own.nil, Step.refl _⟩
  case round =>
    obtain ⟨k, rfl, hk, hln, hA, hB⟩ := hrel
    have HA := Lib.hid hA
    clear hA
    have hsz := hB.size
    by_cases hlt : k < xs.length
    · obtain ⟨b1, o1, u1, rfl, hb1, _, hu1, hc0⟩ := Ty.slice_at1 rfl H.out hlt
      obtain ⟨hu, hbd⟩ := hu1
      obtain rfl : u1 = .int .u64 (xs[k] : Int) := by simpa using hu
      clear hu
      have q := (Step.cell (w' := wr) hB hb1 _).trans hc0
      clear hc0
      have htk : Hid (numsB (xs.take (k + 1)) = numsB (xs.take k) ++ numB xs[k]) := Lib.hid (by rw [List.take_succ_eq_append_getElem hlt, numsB_snoc])
      have hnl : Hid ((numB xs[k]).length ≤ 9) := Lib.hid (numB_len hbd)
      have hln1 : Hid ((numsB (xs.take (k + 1))).length ≤ (k + 1) * 9) := Lib.hid (by rw [htk.out, List.length_append]; have := hln.out; have := hnl.out; omega)
      generalize hn : xs[k] = n at *
      clear hn
      go_wp2_with (first
        | (go_at_call 83; refine (Number_ _ (fun _ => False) _ [n] (nums_lit (by first | rfl | simp) hbd) (by simp)).mono ?_; rintro e w2 ⟨v2, rfl, hA2, hS2⟩; rw [numsB_one] at hA2; obtain ⟨b2, m2, rfl⟩ := hA2.val; have HA2 := Lib.hid hA2; clear hA2)
        | (at_builtin; refine wpList_append_acc (ys := numB n) rfl (.tmp 12) (.tmp 15) rfl stBytes (by (repeat (first | exact Step.refl _ | refine Step.alloc ?_ _ | refine Step.drew ?_ | refine Step.drewN ?_ _ | refine Step.setCell ?_ (by first | exact Nat.le_refl _ | assumption | omega | (simp; done) | (simp; omega)) _ | assumption | refine Step.trans ?_ (by assumption : Step _ _)))) (Own.step HA.out (by (repeat (first | exact Step.refl _ | refine Step.alloc ?_ _ | refine Step.drew ?_ | refine Step.drewN ?_ _ | refine Step.setCell ?_ (by first | exact Nat.le_refl _ | assumption | omega | (simp; done) | (simp; omega)) _ | assumption | refine Step.trans ?_ (by assumption : Step _ _))))) (Src.flat Ty.flat_byte (Own.rep HA2.out (fun b hb => hb))) (by rw [lim_eq]; have := hln.out; have := hnl.out; omega) rfl rfl ?_; intro v3 w3 hA3 hB3 _ _; have HA3 := Lib.hid hA3; clear hA3))
      go_roundw
      case rel => exact ⟨k + 1, by go_num, by omega, hln1, by rw [htk.out]; exact HA3.out, hB3⟩
      case measure => simp [intOf]; omega
    · obtain rfl : k = xs.length := by omega
      go_wp2
      go_ret
      exact ⟨_, rfl, by simpa using HA.out, hB⟩
end Go.Proofs.Ythflkfgiclcdiaa

namespace Go.Proofs.Ythflkfgiclcdiaa
open Go.RowKit Go.Gr
set_option linter.unusedSimpArgs false
theorem numB_pos (n : Nat) : 0 < (numB n).length := by unfold numB; split <;> simp
theorem textB_len : ∀ xs : List (List UInt8), xs.length ≤ (textB xs).length
  | [] => by simp [textB]
  | x :: xs => by
    have h1 := textB_len xs
    have h2 := numB_pos x.length
    simp only [textB, List.flatMap_cons, List.length_append, List.length_cons] at *
    omega
theorem joinB_len (xs : List (List UInt8)) : xs.length ≤ (joinB xs).length := by
  have := textB_len xs
  unfold joinB
  rw [List.length_append]
  omega
def triB (ws : List DWrite) : List (List UInt8) := ws.flatMap fun x => [truthB x.gone, x.key, x.value]
theorem triB_snoc (ws : List DWrite) (x : DWrite) : triB (ws ++ [x]) = triB ws ++ [truthB x.gone, x.key, x.value] := by simp [triB]
theorem triB_len : ∀ ws : List DWrite, (triB ws).length = 3 * ws.length
  | [] => by simp [triB]
  | x :: xs => by
    have h1 := triB_len xs
    simp only [triB, List.flatMap_cons, List.length_append, List.length_cons] at *
    simp at *
    omega
theorem grp_three {u1 u2 u3 : Value} : grp [u1, u2, u3] 1 0 = [u1] ∧ grp [u1, u2, u3] 1 1 = [u2] ∧ grp [u1, u2, u3] 1 2 = [u3] := ⟨rfl, rfl, rfl⟩
theorem Src.three {α : Type} {E : Ty α} {w : World} {M : Nat → Prop} {e : TypeId} {k : Nat} {u1 u2 u3 : Value} {y1 y2 y3 : α} (hn : E.n = 1) (hk : k = w.heap.size) (h1 : E.rep w M [u1] y1) (h2 : E.rep w M [u2] y2) (h3 : E.rep w M [u3] y3) :
    Src E (w.alloc (.cells #[u1, u2, u3] e)) M (.slice (some ⟨k, 0, none⟩) 3 3) [y1, y2, y3] := by
  subst hk
  refine Src.lit rfl (by simp [hn]) fun i hi => ?_
  rw [hn]
  have : i = 0 ∨ i = 1 ∨ i = 2 := by simp at hi; omega
  rcases this with rfl | rfl | rfl
  · exact h1
  · exact h2
  · exact h3
theorem Own.rows2 {w : World} {e : TypeId} {k : Nat} {u1 u2 : Value} {y1 y2 : List UInt8} {M : Nat → Prop} {B : Nat} (hk : k = w.heap.size) (hB : B ≤ w.heap.size) (h1 : Ty.bytes.rep w M [u1] y1) (h2 : Ty.bytes.rep w M [u2] y2) :
    Own Ty.bytes e (w.alloc (.cells #[u1, u2] e)) M B (.slice (some ⟨k, 0, none⟩) 2 2) [y1, y2] := by
  subst hk
  refine Own.lit (E := Ty.bytes) (xs := [y1, y2]) rfl (by simp [lim]) hB rfl (fun i hi => ?_)
  have : i = 0 ∨ i = 1 := by simp at hi; omega
  rcases this with rfl | rfl
  · exact h1
  · exact h2
theorem nums3_lit {w : World} {e : TypeId} {k a b c : Nat} (hk : k = w.heap.size) (ha : a < 18446744073709551616) (hb : b < 18446744073709551616) (hc : c < 18446744073709551616) :
    (Ty.slice Ty.u64).rep (w.alloc (.cells #[.int .u64 (a : Int), .int .u64 (b : Int), .int .u64 (c : Int)] e)) (fun _ => False) [.slice (some ⟨k, 0, none⟩) 3 3] [a, b, c] := by
  subst hk
  refine Own.rep' (Own.lit (E := Ty.u64) (e := e) (M := fun _ => False) (B := 0) (xs := [a, b, c]) rfl (by simp [lim]) (Nat.zero_le _) rfl (fun i hi => ?_)) (fun _ _ h => h)
  have : i = 0 ∨ i = 1 ∨ i = 2 := by simp at hi; omega
  rcases this with rfl | rfl | rfl
  · exact ⟨rfl, ha⟩
  · exact ⟨rfl, hb⟩
  · exact ⟨rfl, hc⟩
set_option maxRecDepth 100000 in
theorem recPart_T {w : World} {k : Int} {x : DTxn} {a4 a5 a7 a8 : Option Addr} {n4 n5 n7 n8 c4 c5 c7 c8 : Nat} {cm : Bool} {id : Int} {nm : ByteArray} (hx : x.boot < 18446744073709551616 ∧ x.session < 18446744073709551616 ∧ x.seq < 18446744073709551616) :
    Calls Try.prog 112 #[.agg #[.int .i64 k, .int .u64 (x.boot : Int), .int .u64 (x.session : Int), .int .u64 (x.seq : Int), .slice a4 n4 c4, .slice a5 n5 c5, .bool cm, .slice a7 n7 c7, .slice a8 n8 c8, .int .u64 id, .string nm], .int .i32 84] w fun e w' =>
      ∃ v', e = .returned v' ∧ Own Ty.byte 5 w' (· < w.heap.size) w.heap.size v' (numsB [x.boot, x.session, x.seq]) ∧ Step w w' := by
  have HX := Lib.hid hx
  clear hx
  go_enter Try.func112, Try.ntmps112
  go_wp2_with (go_at_call 129; refine (recNumbers_ (nums3_lit (by first | rfl | simp) HX.out.1 HX.out.2.1 HX.out.2.2) (by simp)).mono ?_; rintro e w2 ⟨v2, rfl, hA2, hS2⟩; have hz := hS2.size; simp only [World.size_alloc] at hz; have HA2 := Lib.hid hA2; clear hA2)
  go_ret
  exact ⟨_, rfl, (Own.base HA2.out (by simp; omega)).less (fun b _ hb => by simp; omega), by (repeat (first | exact Step.refl _ | refine Step.alloc ?_ _ | refine Step.drew ?_ | refine Step.drewN ?_ _ | refine Step.setCell ?_ (by first | exact Nat.le_refl _ | assumption | omega | (simp; done) | (simp; omega)) _ | assumption | refine Step.trans ?_ (by assumption : Step _ _)))⟩
set_option maxRecDepth 100000 in
theorem recPart_A {w : World} {k b s q : Int} {a4 a5 a7 a8 : Option Addr} {n4 n5 n7 n8 c4 c5 c7 c8 : Nat} {cm : Bool} {id : Int} {nm : ByteArray} :
    Calls Try.prog 112 #[.agg #[.int .i64 k, .int .u64 b, .int .u64 s, .int .u64 q, .slice a4 n4 c4, .slice a5 n5 c5, .bool cm, .slice a7 n7 c7, .slice a8 n8 c8, .int .u64 id, .string nm], .int .i32 65] w fun e w' =>
      e = .returned (.slice a8 n8 c8) ∧ Step w w' := by
  go_enter Try.func112, Try.ntmps112
  go_wp2
  go_ret
  exact ⟨rfl, by (repeat (first | exact Step.refl _ | refine Step.alloc ?_ _ | refine Step.drew ?_ | refine Step.drewN ?_ _ | refine Step.setCell ?_ (by first | exact Nat.le_refl _ | assumption | omega | (simp; done) | (simp; omega)) _ | assumption | refine Step.trans ?_ (by assumption : Step _ _)))⟩
set_option maxRecDepth 100000 in
set_option maxHeartbeats 2000000 in
theorem recPart_W {w : World} {M : Nat → Prop} {ws : List DWrite} {k b s q : Int} {a4 a5 a7 a8 : Option Addr} {n4 n5 n7 n8 c4 c5 c7 c8 : Nat} {cm : Bool} {id : Int} {nm : ByteArray} (h : (Ty.slice tWrite).rep w M [.slice a4 n4 c4] ws) (hl : (joinB (triB ws)).length ≤ lim) :
    Calls Try.prog 112 #[.agg #[.int .i64 k, .int .u64 b, .int .u64 s, .int .u64 q, .slice a4 n4 c4, .slice a5 n5 c5, .bool cm, .slice a7 n7 c7, .slice a8 n8 c8, .int .u64 id, .string nm], .int .i32 87] w fun e w' =>
      ∃ v', e = .returned v' ∧ Own Ty.byte 5 w' (· < w.heap.size) w.heap.size v' (joinB (triB ws)) ∧ Step w w' := by
  obtain rfl : n4 = ws.length := by obtain ⟨_, _, hv, _⟩ := Ty.slice_val h; injection hv
  have hws : ws.length * 3 ≤ lim := by
    have h1 := joinB_len (triB ws)
    rw [triB_len] at h1
    omega
  rw [lim_eq] at hws
  have H := Lib.hid h
  have HL := Lib.hid hl
  clear h hl
  go_enter Try.func112, Try.ntmps112
  go_wp2
  go_loopw [5, 35] (fun o i w' => ∃ k : Nat, i = .int .i64 k ∧ k ≤ ws.length ∧ Own Ty.bytes 42 w' (fun _ => False) w.heap.size o (triB (ws.take k)) ∧ Step w w') (fun _ i _ => ws.length - (intOf i).toNat)
  case atStart => exact ⟨0, rfl, by omega, by simpa [triB] using Own.nil, by (repeat (first | exact Step.refl _ | refine Step.alloc ?_ _ | refine Step.drew ?_ | refine Step.drewN ?_ _ | refine Step.setCell ?_ (by first | exact Nat.le_refl _ | assumption | omega | (simp; done) | (simp; omega)) _ | assumption | refine Step.trans ?_ (by assumption : Step _ _)))⟩
  case round =>
    obtain ⟨k, rfl, hk, hA, hB⟩ := hrel
    have HA := Lib.hid hA
    have hsz := hB.size
    clear hA
    by_cases hlt : k < ws.length
    · have htk : Hid (triB (ws.take (k + 1)) = triB (ws.take k) ++ [truthB ws[k].gone, ws[k].key, ws[k].value]) := Lib.hid (by rw [List.take_succ_eq_append_getElem hlt, triB_snoc])
      have hln : Hid ((triB (ws.take k)).length = 3 * k) := Lib.hid (by rw [triB_len, List.length_take]; omega)
      obtain ⟨ob, oo, oes, rfl, ohb, _, ou, ocu⟩ := Ty.slice_at H.out hlt
      obtain ⟨oc0, oc1, rfl, oh0, oh1⟩ := ou
      have oq0 := (Step.cell (w' := wr) (by (repeat (first | exact Step.refl _ | refine Step.alloc ?_ _ | refine Step.drew ?_ | refine Step.drewN ?_ _ | refine Step.setCell ?_ (by first | exact Nat.le_refl _ | assumption | omega | (simp; done) | (simp; omega)) _ | assumption | refine Step.trans ?_ (by assumption : Step _ _)))) ohb _).trans (ocu 0 _ rfl)
      have oq1 := (Step.cell (w' := wr) (by (repeat (first | exact Step.refl _ | refine Step.alloc ?_ _ | refine Step.drew ?_ | refine Step.drewN ?_ _ | refine Step.setCell ?_ (by first | exact Nat.le_refl _ | assumption | omega | (simp; done) | (simp; omega)) _ | assumption | refine Step.trans ?_ (by assumption : Step _ _)))) ohb _).trans (ocu 1 _ rfl)
      have oq2 := (Step.cell (w' := wr) (by (repeat (first | exact Step.refl _ | refine Step.alloc ?_ _ | refine Step.drew ?_ | refine Step.drewN ?_ _ | refine Step.setCell ?_ (by first | exact Nat.le_refl _ | assumption | omega | (simp; done) | (simp; omega)) _ | assumption | refine Step.trans ?_ (by assumption : Step _ _)))) ohb _).trans (ocu 2 _ rfl)
      simp only [show tWrite.n = 3 from rfl, Nat.add_zero] at oq0 oq1 oq2
      obtain ⟨oa0, on0, rfl, _⟩ := Ty.slice_val oh0
      obtain ⟨oa1, on1, rfl, _⟩ := Ty.slice_val oh1
      have oH0 := Lib.hid oh0
      have oH1 := Lib.hid oh1
      clear ocu oh0 oh1
      have nE : Hid (∀ b, False ∨ u5.ownBlock = some b → w.heap.size ≤ b ∧ b < wr.heap.size) := Lib.hid (fun b h => h.elim False.elim (fun h => HA.out.lt h))
      go_wp2
      refine wp_region_held_drew (S := (fun w' => w'.cell? ⟨wr.heap.size, 0, none⟩ = some (.slice oa0 ws[k].key.length on0) ∧ w'.cell? ⟨wr.heap.size, 1, none⟩ = some (.slice oa1 ws[k].value.length on1) ∧ w'.cell? ⟨wr.heap.size, 2, none⟩ = some (.bool ws[k].gone))) (by kernel_rfl) ?_ (fun hHeld => ?_)
      · (go_keep)
      refine wpAnyH_take (i := 0) (v := ?_) rfl (by kernel_rfl) (by kernel_rfl) (by kernel_rfl) (fun _ _ _ h => h) (Or.inl ⟨by rfl, ?_⟩) (by assumption) ?_
      rotate_left 1
      · (intro w hSw; (try dsimp only at hSw); go_simp; (try with_reducible rfl))
      try simp only [Act.put, List.getElem_toArray, List.getElem_cons_succ, List.getElem_cons_zero, List.setIfInBounds_toArray, List.set_cons_zero, List.set_cons_succ]
      refine wpAnyH_take (i := 1) (v := ?_) rfl (by kernel_rfl) (by kernel_rfl) (by kernel_rfl) (fun _ _ _ h => h) (Or.inl ⟨by rfl, ?_⟩) (by assumption) ?_
      rotate_left 1
      · (intro w hSw; (try dsimp only at hSw); go_simp; (try with_reducible rfl))
      try simp only [Act.put, List.getElem_toArray, List.getElem_cons_succ, List.getElem_cons_zero, List.setIfInBounds_toArray, List.set_cons_zero, List.set_cons_succ]
      refine wpAnyH_take (i := 2) (v := ?_) rfl (by kernel_rfl) (by kernel_rfl) (by kernel_rfl) (fun _ _ _ h => h) (Or.inl ⟨by rfl, ?_⟩) (by assumption) ?_
      rotate_left 1
      · (intro w hSw; (try dsimp only at hSw); go_simp; (try with_reducible rfl))
      try simp only [Act.put, List.getElem_toArray, List.getElem_cons_succ, List.getElem_cons_zero, List.setIfInBounds_toArray, List.set_cons_zero, List.set_cons_succ]
      refine wpAnyH_take (i := 4) (v := ?_) rfl (by kernel_rfl) (by kernel_rfl) (by kernel_rfl) (fun _ _ _ h => h) (Or.inl ⟨by rfl, ?_⟩) (by assumption) ?_
      rotate_left 1
      · (intro w hSw; (try dsimp only at hSw); go_simp; (try with_reducible rfl))
      try simp only [Act.put, List.getElem_toArray, List.getElem_cons_succ, List.getElem_cons_zero, List.setIfInBounds_toArray, List.set_cons_zero, List.set_cons_succ]
      refine wpAnyH_take (i := 5) (v := ?_) rfl (by kernel_rfl) (by kernel_rfl) (by kernel_rfl) (fun _ _ _ h => h) (Or.inl ⟨by rfl, ?_⟩) (by assumption) ?_
      rotate_left 1
      · (intro w hSw; (try dsimp only at hSw); go_simp; (try with_reducible rfl))
      try simp only [Act.put, List.getElem_toArray, List.getElem_cons_succ, List.getElem_cons_zero, List.setIfInBounds_toArray, List.set_cons_zero, List.set_cons_succ]
      refine wpAnyH_take (i := 6) (v := ?_) rfl (by kernel_rfl) (by kernel_rfl) (by kernel_rfl) (fun _ _ _ h => h) (Or.inl ⟨by rfl, ?_⟩) (by assumption) ?_
      rotate_left 1
      · (intro w hSw; (try dsimp only at hSw); go_simp; (try with_reducible rfl))
      try simp only [Act.put, List.getElem_toArray, List.getElem_cons_succ, List.getElem_cons_zero, List.setIfInBounds_toArray, List.set_cons_zero, List.set_cons_succ]
      refine wpAnyH_take (i := 7) (v := ?_) rfl (by kernel_rfl) (by kernel_rfl) (by kernel_rfl) (fun _ _ _ h => h) (Or.inl ⟨by rfl, ?_⟩) (by assumption) ?_
      rotate_left 1
      · (intro w hSw; (try dsimp only at hSw); go_simp; (try with_reducible rfl))
      try simp only [Act.put, List.getElem_toArray, List.getElem_cons_succ, List.getElem_cons_zero, List.setIfInBounds_toArray, List.set_cons_zero, List.set_cons_succ]
      refine wpAnyH_ready (rs := [3]) (by kernel_rfl) (by simp) ?_
      refine AllReadyH.cons rfl (fun K hK => ?_) AllReadyH.nil
      try simp only [List.getElem_toArray, List.getElem_cons_succ, List.getElem_cons_zero]
      go_simp
      (go_at_call 130; refine (recTruth_ _ _).mono ?_; rintro e2 w2 ⟨v2, rfl, hA2, hS2⟩; obtain ⟨b2, m2, rfl⟩ := hA2.val; have s2_0 : ∀ j, w2.cell? ⟨wr.heap.size, j, none⟩ = _ := fun j => hS2.cell (by first | assumption | omega | (simp; done) | (simp; omega)) j; have z2_0 : wr.heap.size < w2.heap.size := Nat.lt_of_lt_of_le (by first | assumption | omega | (simp; done) | (simp; omega)) hS2.size; have HA2 := Lib.hid hA2; clear hA2)
      refine hK.out _ _ ?_ (fun hHeld => ?_)
      · (go_keep)
      clear hK K
      try simp only [Act.put, List.getElem_toArray, List.getElem_cons_succ, List.getElem_cons_zero, List.setIfInBounds_toArray, List.set_cons_zero, List.set_cons_succ]
      refine wpAnyH_ready (rs := [8]) (by kernel_rfl) (by simp) ?_
      refine AllReadyH.cons rfl (fun K hK => ?_) AllReadyH.nil
      try simp only [List.getElem_toArray, List.getElem_cons_succ, List.getElem_cons_zero]
      go_simp
      refine hK.out _ _ ?_ (fun hHeld => ?_)
      · (go_keep)
      clear hK K
      try simp only [Act.put, List.getElem_toArray, List.getElem_cons_succ, List.getElem_cons_zero, List.setIfInBounds_toArray, List.set_cons_zero, List.set_cons_succ]
      refine wpAnyH_ready (rs := [9]) (by kernel_rfl) (by simp) ?_
      refine AllReadyH.cons rfl (fun K hK => ?_) AllReadyH.nil
      try simp only [List.getElem_toArray, List.getElem_cons_succ, List.getElem_cons_zero]
      refine ite_then rfl ?_; refine wp_append_acc (w0 := w) (E := Ty.bytes) (M := fun _ => False) (ys := [truthB ws[k].gone, ws[k].key, ws[k].value]) (.tmp 39) (.tmp 47) rfl stList (by (repeat (first | exact Step.refl _ | refine Step.alloc ?_ _ | refine Step.drew ?_ | refine Step.drewN ?_ _ | refine Step.setCell ?_ (by first | exact Nat.le_refl _ | assumption | omega | (simp; done) | (simp; omega)) _ | assumption | refine Step.trans ?_ (by assumption : Step _ _)))) (Own.step HA.out (by (repeat (first | exact Step.refl _ | refine Step.alloc ?_ _ | refine Step.drew ?_ | refine Step.drewN ?_ _ | refine Step.setCell ?_ (by first | exact Nat.le_refl _ | assumption | omega | (simp; done) | (simp; omega)) _ | assumption | refine Step.trans ?_ (by assumption : Step _ _))))) ?_ ?_ rfl rfl ?_; (first | refine Src.drew (Src.three rfl (by simp) ?_ ?_ ?_) | refine Src.three rfl (by simp) ?_ ?_ ?_); exact Ty.step _ (Own.rep' (Own.flat Ty.flat_byte HA2.out) (fun b hb hm => absurd (HA2.out.lt hb).1 (by have h7 := (nE.out b hm).2; (try simp only [World.size_alloc, World.size_drew]); omega))) (by (repeat (first | exact Step.refl _ | refine Step.alloc ?_ _ | refine Step.drew ?_ | refine Step.drewN ?_ _ | refine Step.setCell ?_ (by first | exact Nat.le_refl _ | assumption | omega | (simp; done) | (simp; omega)) _ | assumption | refine Step.trans ?_ (by assumption : Step _ _)))); exact Ty.step _ (Ty.less _ oH0.out (fun b hb hm => absurd (nE.out b hm).1 (by omega))) (by (repeat (first | exact Step.refl _ | refine Step.alloc ?_ _ | refine Step.drew ?_ | refine Step.drewN ?_ _ | refine Step.setCell ?_ (by first | exact Nat.le_refl _ | assumption | omega | (simp; done) | (simp; omega)) _ | assumption | refine Step.trans ?_ (by assumption : Step _ _)))); exact Ty.step _ (Ty.less _ oH1.out (fun b hb hm => absurd (nE.out b hm).1 (by omega))) (by (repeat (first | exact Step.refl _ | refine Step.alloc ?_ _ | refine Step.drew ?_ | refine Step.drewN ?_ _ | refine Step.setCell ?_ (by first | exact Nat.le_refl _ | assumption | omega | (simp; done) | (simp; omega)) _ | assumption | refine Step.trans ?_ (by assumption : Step _ _)))); exact (by rw [hln.out, lim_eq]; simp; omega); intro v4 w4 hA4 hS4 hG4 _; have HA4 := Lib.hid hA4; have s4 : ∀ j, w4.cell? ⟨wr.heap.size, j, none⟩ = _ := fun j => grown_cell hG4 (by first | assumption | omega | (simp; done) | (simp; omega)) (fun e => absurd (HA.out.lt e).2 (Nat.lt_irrefl _)) j; clear hA4
      refine hK.out _ _ ?_ (fun hHeld => ?_)
      · (go_keep)
      clear hK K
      try simp only [Act.put, List.getElem_toArray, List.getElem_cons_succ, List.getElem_cons_zero, List.setIfInBounds_toArray, List.set_cons_zero, List.set_cons_succ]
      refine wpAnyH_take (i := 10) (v := ?_) rfl (by kernel_rfl) (by kernel_rfl) (by kernel_rfl) (fun _ _ _ h => h) (Or.inl ⟨by rfl, ?_⟩) (by assumption) ?_
      rotate_left 1
      · (intro w hSw; (try dsimp only at hSw); go_simp; (try with_reducible rfl))
      try simp only [Act.put, List.getElem_toArray, List.getElem_cons_succ, List.getElem_cons_zero, List.setIfInBounds_toArray, List.set_cons_zero, List.set_cons_succ]
      refine wpAnyH_done (by kernel_rfl) ?_ _
      go_wp2
      go_roundw
      case rel => exact ⟨k + 1, by go_num, by omega, by rw [htk.out]; exact HA4.out, hS4⟩
      case measure => simp [intOf]; omega
    · obtain rfl : k = ws.length := by omega
      have HA1 : Hid (Own Ty.bytes 42 wr (fun _ => False) w.heap.size u5 (triB ws)) := Lib.hid (by simpa using HA.out)
      obtain ⟨a1, c1, rfl⟩ := HA1.out.val
      go_wp2_with (go_at_call 85; refine (pJoin_ (M := fun _ => False) (Own.rep HA1.out (fun _ h => h.elim)) HL.out).mono ?_; rintro e w2 ⟨v2, rfl, hA2, hS2⟩; have HA2 := Lib.hid hA2; clear hA2)
      go_ret
      exact ⟨_, rfl, (Own.base HA2.out hsz).less (fun b _ hb => Nat.lt_of_lt_of_le hb hsz), hB.trans hS2⟩
end Go.Proofs.Ythflkfgiclcdiaa
