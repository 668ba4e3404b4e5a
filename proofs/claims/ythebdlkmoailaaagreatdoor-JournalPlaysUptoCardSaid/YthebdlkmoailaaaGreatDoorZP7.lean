/-
  What the journal's seat stands on.
  Walks: numbers as bytes (Number).
  Plain words: numbers and parts read back (Take, Num, Text, Split), and that they read what was written.
  Plain words: check bytes, cells, sealed records; what is sealed opens again, and a beginning of it does not.
  Walks: check bytes (generator, Check).
  Walks: reading small numbers and texts back (Take, number, Reader.Num, Text, Left, Close).
  Walks: a reader of bytes (Read, Num, Left, Text, Close), at small numbers.
  Walk: Take, at whatever bytes.
  Walks: a reader of bytes (Num, Close, Text) at whatever bytes.
  Walks: bytes.Equal, Good, put.
  Walks: Sealed, Seal.
  Walks: take, Open.
  Walk: OpenAll: its answers are rows of their own.
  Walks: a small number in decimal (FormatUint), a journal's names and heads.
-/
import Derived.Test.YthebdlkmoailaaaGreatDoorZCells
import Derived.Test.YthebdlkmoailaaaGreatDoorZW2
import Derived.Test.YthebdlkmoailaaaGreatDoorZRangeS
import Derived.Test.YthebdlkmoailaaaGreatDoorZConvB
import Derived.Test.YthebdlkmoailaaaGreatDoorZP2
import Derived.Deep.CutBlock
import Derived.BigGuardPart
import Derived.Laws.BitsAllLaws
import Derived.Test.YthebdlkmoailaaaGreatDoorZRow
import Derived.Laws.Concat
import Derived.Laws.IdiomStrings
set_option linter.unusedVariables false
set_option linter.unusedSimpArgs false

namespace Go.Proofs.YthebdlkmoailaaaGreatDoor
open Go.RowKit Go.Gr
set_option linter.unusedSimpArgs false
/-- A number's bytes, the greatest first. -/
def beB (n : Nat) : List UInt8 := if h : n = 0 then [] else beB (n / 256) ++ [UInt8.ofNat n]
termination_by n
decreasing_by omega
theorem beB_zero : beB 0 = [] := by unfold beB; simp
theorem beB_pos {n : Nat} (h : 0 < n) : beB n = beB (n / 256) ++ [UInt8.ofNat n] := by
  rw [beB, dif_neg (by omega)]
def numB (n : Nat) : List UInt8 := if n ≤ 247 then [UInt8.ofNat n] else UInt8.ofNat (247 + (beB n).length) :: beB n
def numsB (xs : List Nat) : List UInt8 := xs.flatMap numB
theorem beB_len : ∀ (k n : Nat), n < 256 ^ k → (beB n).length ≤ k := by
  intro k
  induction k with
  | zero => intro n h; obtain rfl : n = 0 := (by simpa using h); simp [beB_zero]
  | succ k ih =>
    intro n h
    rcases Nat.eq_zero_or_pos n with rfl | hp
    · rw [beB_zero]; simp
    · rw [beB_pos hp, List.length_append]
      have := ih (n / 256) (by rw [Nat.pow_succ] at h; omega)
      simp
      omega
theorem numB_len {n : Nat} (h : n < 18446744073709551616) : (numB n).length ≤ 9 := by
  unfold numB
  split
  · simp
  · have := beB_len 8 n (by omega)
    simp
    omega
theorem numsB_len {xs : List Nat} (h : ∀ x ∈ xs, x < 18446744073709551616) : (numsB xs).length ≤ xs.length * 9 := by
  induction xs with
  | nil => simp [numsB]
  | cons x xs ih =>
    have h1 := numB_len (h x (by simp))
    have h2 := ih (fun y hy => h y (by simp [hy]))
    simp only [numsB, List.flatMap_cons, List.length_append, List.length_cons] at *
    omega

theorem byte_of {w : World} {M : Nat → Prop} (n : Nat) : Ty.byte.rep w M [.int .u8 ((n : Int) % 256)] (UInt8.ofNat n) := by
  show [Value.int .u8 ((n : Int) % 256)] = [Value.int .u8 ((UInt8.ofNat n).toNat : Int)]
  have : ((UInt8.ofNat n).toNat : Int) = (n : Int) % 256 := by rw [UInt8.toNat_ofNat']; omega
  rw [this]
theorem byte_small {w : World} {M : Nat → Prop} {n : Nat} (h : n < 256) : Ty.byte.rep w M [.int .u8 (n : Int)] (UInt8.ofNat n) := by
  have := @byte_of w M n
  rwa [Int.emod_eq_of_lt (by omega) (by omega)] at this

set_option maxRecDepth 100000 in
set_option maxHeartbeats 4000000 in
theorem Number_ (w : World) (M : Nat → Prop) (v : Value) (xs : List Nat) (h : (Ty.slice Ty.u64).rep w M [v] xs) (hxs : xs.length < 16777216) :
    Calls Tryz.prog 78 #[v] w fun e w' => ∃ v', e = .returned v' ∧ Own Ty.byte 5 w' (· < w.heap.size) w.heap.size v' (numsB xs) ∧ Step w w' := by
  obtain ⟨a, c, rfl, hc, hm, hl⟩ := Ty.slice_val h
  have H := Lib.hid h
  clear h hc hm hl
  go_enter Tryz.func78, Tryz.ntmps78
  go_wp2
  go_loopw [3, 11] (fun o i w' => ∃ k : Nat, i = .int .i64 k ∧ k ≤ xs.length ∧ Hid ((numsB (xs.take k)).length ≤ k * 9) ∧ Own Ty.byte 5 w' (· < w.heap.size) w.heap.size o (numsB (xs.take k)) ∧ Step w w') (fun _ i _ => xs.length - (Go.RowKit.intOf i).toNat)
  case atStart => exact ⟨0, rfl, by omega, Lib.hid (by simp [numsB]), Own.nil, Step.refl _⟩
  case round =>
    obtain ⟨k, rfl, hk, hln, hA, hB⟩ := hrel
    have HA := Lib.hid hA
    clear hA
    have hsz := hB.size
    by_cases hlt : k < xs.length
    · obtain ⟨b1, o1, u1, rfl, hb1, _, hu1, hc0⟩ := Ty.slice_at1 rfl H.out hlt
      obtain ⟨hu, hbd⟩ := hu1
      obtain rfl : u1 = .int .u64 (xs[k] : Int) := by simpa using hu
      clear hu
      have q := (Step.cell (w' := wr) hB hb1 _).trans hc0
      clear hc0
      have htk : Hid (numsB (xs.take (k + 1)) = numsB (xs.take k) ++ numB xs[k]) := Lib.hid (by unfold numsB; rw [List.take_succ_eq_append_getElem hlt, List.flatMap_append]; simp)
      have hln1 : Hid ((numsB (xs.take (k + 1))).length ≤ (k + 1) * 9) := Lib.hid (by have := numB_len hbd; rw [htk.out, List.length_append]; have := hln.out; omega)
      generalize hn : xs[k] = n at *
      clear hn
      by_cases hs : n ≤ 247
      · have hs1 : decide ((n : Int) ≤ 247) = true := decide_eq_true (by omega)
        have hnb : Hid (numB n = [UInt8.ofNat n]) := Lib.hid (if_pos hs)
        go_wp2_with (at_builtin; refine wpList_append_acc (ys := [UInt8.ofNat n]) rfl (.tmp 17) (.tmp 20) rfl stBytes stp (Own.step HA.out stp) (Src.oneAt (E := Ty.byte) (y := UInt8.ofNat n) (by simp) (by first | exact byte_of n | exact byte_small (by omega))) (by rw [lim_eq]; exact Nat.le_trans (Nat.succ_le_succ hln.out) (by omega)) rfl rfl ?_; intro v3 w3 hA3 hB3 _ _; have HA3 := Lib.hid hA3; clear hA3)
        go_roundw
        case rel => exact ⟨k + 1, by go_num, by omega, hln1, by rw [htk.out, hnb.out]; exact HA3.out, hB3⟩
        case measure => simp [Go.RowKit.intOf]; omega
      · have hs1 : decide ((n : Int) ≤ 247) = false := decide_eq_false (by omega)
        obtain ⟨wo, hwo⟩ : ∃ x, x = wr := ⟨_, rfl⟩
        subst hwo
        go_wp2
        go_loopw [5, 7] (fun n' i w' => ∃ (m e : Nat) (ds : List UInt8), n' = .int .u64 m ∧ i = .int .i64 e ∧ e ≤ 8 ∧ e + ds.length = 8 ∧ Hid (m < 256 ^ e) ∧ Hid (beB n = beB m ++ ds) ∧ Hid (∀ i (hi : i < ds.length), w'.cell? ⟨wo.heap.size, e + i, none⟩ = some (.int .u8 (ds[i].toNat : Int))) ∧
          Hid (∀ i, i < 8 → (w'.cell? ⟨wo.heap.size, i, none⟩).isSome = true ∧ w'.frozen? ⟨wo.heap.size, i, none⟩ = false) ∧ Step wo w' ∧ wo.heap.size < w'.heap.size) (fun n' _ _ => (Go.RowKit.intOf n').toNat)
        case atStart =>
          refine ⟨n, 8, [], rfl, rfl, by omega, rfl, Lib.hid (by omega), Lib.hid (by simp), Lib.hid (fun i hi => absurd hi (by simp)), Lib.hid (fun i hi => ?_), by (repeat (first | exact Step.refl _ | refine Step.alloc ?_ _ | refine Step.drew ?_ | refine Step.drewN ?_ _ | refine Step.setCell ?_ (by first | exact Nat.le_refl _ | assumption | omega | (simp; done) | (simp; omega)) _ | assumption | refine Step.trans ?_ (by assumption : Step _ _))), by simp⟩
          refine ⟨?_, by simp⟩
          rw [World.cell?_alloc_new]
          simp [hi]
        case round =>
          obtain ⟨m, e, ds, rfl, rfl, he, hds, hm, hbe, hcs, hfz, hS, hz⟩ := hrel
          by_cases h0 : m = 0
          · subst h0
            have hds1 : Hid (beB n = ds) := Lib.hid (by rw [hbe.out, beB_zero]; rfl)
            have hlt8 : e < 8 := by
              have h5 := congrArg List.length hds1.out
              rw [beB_pos (by omega), List.length_append] at h5
              simp at h5
              omega
            have hsl : (Instr.sliceAt 162 (.pointer (some ⟨wo.heap.size, 0, none⟩)) (some (.int .i64 (e : Int))) none none).run Tryz.prog wr = .ok (.slice (some ⟨wo.heap.size, e, none⟩) ds.length ds.length) wr := by
              rw [run_sliceAt_array_l wr 162 _ Tryz.underlying162 .i64 e (by omega) (by show (e : Int) ≤ 8; omega)]
              obtain ⟨_, i, z, hi, _, hsize, _⟩ := stBytes
              have h1 : Tryz.prog.elem 162 = 5 := by kernel_rfl
              have h2 : Tryz.prog.arrayLen 162 = 8 := by kernel_rfl
              have h3 : (sizeOf 5).run Tryz.prog wr = .ok 1 wr := by simp [sizeOf, typeInfo, hi, hsize]; rfl
              rw [h1, h2, h3]
              have h4 : 8 - e = ds.length := by omega
              have h5 : ¬ 8 = e := by omega
              simp [Result.andThen, slicedAt, h4, h5, Addr.add]
              exact fun h => h.symm
            have hnb : Hid (numB n = UInt8.ofNat (247 + ds.length) :: ds) := Lib.hid (by unfold numB; rw [if_neg hs, hds1.out])
            have nT : Hid (∀ r, u3.ownBlock = some r → r ≠ wo.heap.size) := Lib.hid (fun r hr => by have := (HA.out.lt hr).2; omega)
            go_wp2_with (first
              | (at_builtin; refine wpList_append_acc (ys := [UInt8.ofNat (247 + ds.length)]) rfl (.tmp 34) (.tmp 39) rfl stBytes stp (Own.step HA.out stp) (Src.oneAt (E := Ty.byte) (y := UInt8.ofNat (247 + ds.length)) (by simp) (by rw [show (247 + (ds.length : Int)) = ((247 + ds.length : Nat) : Int) by simp]; exact byte_small (by omega))) (by rw [lim_eq]; exact Nat.le_trans (Nat.succ_le_succ hln.out) (by omega)) rfl rfl ?_; intro v3 w3 hA3 hB3 hG3 _; have HA3 := Lib.hid hA3; have HG3 := Lib.hid hG3; clear hA3 hG3)
              | (at_builtin; refine wpList_append_acc (ys := ds) rfl (.tmp 40) (.tmp 41) rfl stBytes hB3 HA3.out ?_ (by rw [lim_eq]; have := hln.out; simp at this ⊢; omega) rfl rfl ?_; exact ⟨_, _, rfl, fun _ => ⟨_, _, rfl, fun i hi => ⟨[.int .u8 (ds[i].toNat : Int)], rfl, fun j u hu => by (rcases j with _ | j; ((obtain rfl : _ = u := by simpa using hu); (rw [show e + i * Ty.byte.n + 0 = e + i by simp [Ty.byte]]); exact (grown_cell HG3.out (by first | assumption | omega | (simp; done) | (simp; omega)) (fun er => nT.out _ er rfl) _).trans ((Step.cell (stp : Step wr _) hz _).trans (hcs.out i hi))); (simp at hu))⟩⟩⟩; intro v5 w5 hA5 hB5 _ _; have HA5 := Lib.hid hA5; clear hA5))
            go_roundw
            case rel => exact ⟨k + 1, by go_num, by omega, hln1, by rw [htk.out, hnb.out]; simpa using HA5.out, hB5⟩
            case measure => simp [Go.RowKit.intOf]; omega
          · have h0' : decide ((0 : Int) < (m : Int)) = true := decide_eq_true (by omega)
            obtain ⟨e, rfl⟩ : ∃ k, e = k + 1 := by
              rcases e with _ | e
              · exact absurd hm.out (by simp; omega)
              · exact ⟨e, rfl⟩
            have hp : 0 < m := by omega
            obtain ⟨zv, z1⟩ := Option.isSome_iff_exists.1 (hfz.out e (by omega)).1
            have z2 := (hfz.out e (by omega)).2
            have hm1 : Hid (m / 256 < 256 ^ e) := Lib.hid (by have := hm.out; rw [Nat.pow_succ] at this; omega)
            have hbe1 : Hid (beB n = beB (m / 256) ++ (UInt8.ofNat m :: ds)) := Lib.hid (by rw [hbe.out, beB_pos hp, List.append_assoc]; rfl)
            go_wp2
            refine ⟨⟨m / 256, e, UInt8.ofNat m :: ds, by simp, rfl, by omega, by simp; omega, hm1, hbe1, Lib.hid (fun i hi => ?_), Lib.hid (fun i hi => ?_), by (repeat (first | exact Step.refl _ | refine Step.alloc ?_ _ | refine Step.drew ?_ | refine Step.drewN ?_ _ | refine Step.setCell ?_ (by first | exact Nat.le_refl _ | assumption | omega | (simp; done) | (simp; omega)) _ | assumption | refine Step.trans ?_ (by assumption : Step _ _))), by simpa using hz⟩, ?_⟩
            · rcases i with _ | i
              · rw [Nat.add_zero, World.cell?_setCell_same (h := z1)]
                have := @byte_of w M m
                exact congrArg some (List.cons.inj this).1
              · rw [World.cell?_setCell_other (h := fun hh => by injection hh; omega), show e + (i + 1) = e + 1 + i by omega, hcs.out i (by simpa using hi)]
                rfl
            · have h3 := hfz.out i hi
              refine ⟨?_, by simpa using h3.2⟩
              by_cases hie : i = e
              · subst hie
                rw [World.cell?_setCell_same (h := z1)]
                rfl
              · rw [World.cell?_setCell_other (h := fun hh => by injection hh; omega)]
                exact h3.1
            · simp [Go.RowKit.intOf]
              omega
    · obtain rfl : k = xs.length := by omega
      go_wp2
      go_ret
      exact ⟨_, rfl, by simpa using HA.out, hB⟩
end Go.Proofs.YthebdlkmoailaaaGreatDoor

namespace Go.Proofs.YthebdlkmoailaaaGreatDoor
open Go.Gr
set_option linter.unusedSimpArgs false
/-- Bytes as a number, the greatest first. -/
def beN (l : List UInt8) : Nat := l.foldl (fun n c => n * 256 + c.toNat) 0
theorem beN_snoc (l : List UInt8) (c : UInt8) : beN (l ++ [c]) = beN l * 256 + c.toNat := by simp [beN, List.foldl_append]
theorem beN_lt : ∀ (l : List UInt8), beN l < 256 ^ l.length := by
  intro l
  induction hl : l.length generalizing l with
  | zero => obtain rfl := List.length_eq_zero_iff.1 hl; simp [beN]
  | succ n ih =>
    obtain ⟨l', c, rfl⟩ : ∃ l' c, l = l' ++ [c] := ⟨l.dropLast, l.getLast (by intro h; simp [h] at hl), (List.dropLast_concat_getLast _).symm⟩
    have h1 := ih l' (by simpa using hl)
    have h2 : c.toNat < 256 := c.toNat_lt
    rw [beN_snoc, Nat.pow_succ]
    omega
theorem beN_beB : ∀ n, beN (beB n) = n := by
  intro n
  induction n using Nat.strongRecOn with
  | _ n ih =>
    rcases Nat.eq_zero_or_pos n with rfl | hp
    · simp [beB_zero, beN]
    · rw [beB_pos hp, beN_snoc, ih (n / 256) (by omega), UInt8.toNat_ofNat']
      omega
theorem beB_head : ∀ n, 0 < n → ∃ c r, beB n = c :: r ∧ c.toNat ≠ 0 := by
  intro n
  induction n using Nat.strongRecOn with
  | _ n ih =>
    intro hp
    rw [beB_pos hp]
    rcases Nat.eq_zero_or_pos (n / 256) with h0 | h0
    · rw [h0, beB_zero]
      exact ⟨_, _, rfl, by rw [UInt8.toNat_ofNat']; omega⟩
    · obtain ⟨c, r, h1, h2⟩ := ih (n / 256) (by omega) h0
      rw [h1]
      exact ⟨c, _, rfl, h2⟩
/-- The number at a place: it, the next place, the error. -/
def takeB (b : List UInt8) (k : Nat) : Nat × Nat × Int :=
  if k < b.length then
    if (b[k]?.getD 0).toNat ≤ 247 then ((b[k]?.getD 0).toNat, k + 1, 0)
    else if b.length - k - 1 < (b[k]?.getD 0).toNat - 247 then (0, 0, 5)
    else if beN ((b.drop (k + 1)).take ((b[k]?.getD 0).toNat - 247)) ≤ 247 ∨ (b[k + 1]?.getD 0).toNat = 0 then (0, 0, 3)
    else (beN ((b.drop (k + 1)).take ((b[k]?.getD 0).toNat - 247)), k + 1 + ((b[k]?.getD 0).toNat - 247), 0)
  else (0, 0, 5)
theorem takeB_ok {b : List UInt8} {k : Nat} (h : (takeB b k).2.2 = 0) : k < (takeB b k).2.1 ∧ (takeB b k).2.1 ≤ b.length ∧ (takeB b k).1 < 18446744073709551616 := by
  unfold takeB at h ⊢
  split at h
  · rename_i h1
    have hc : (b[k]?.getD 0).toNat < 256 := (b[k]?.getD 0).toNat_lt
    rw [if_pos h1]
    split at h
    · rename_i h2
      rw [if_pos h2]
      refine ⟨?_, ?_, ?_⟩ <;> simp only <;> omega
    · rename_i h2
      rw [if_neg h2]
      split at h
      · simp at h
      · rename_i h3
        rw [if_neg h3]
        split at h
        · simp at h
        · rename_i h4
          rw [if_neg h4]
          refine ⟨by simp only; omega, by simp only; omega, ?_⟩
          simp only
          have h5 := beN_lt ((b.drop (k + 1)).take ((b[k]?.getD 0).toNat - 247))
          have h6 : ((b.drop (k + 1)).take ((b[k]?.getD 0).toNat - 247)).length ≤ 8 := by rw [List.length_take]; omega
          have h7 : 256 ^ ((b.drop (k + 1)).take ((b[k]?.getD 0).toNat - 247)).length ≤ 256 ^ 8 := Nat.pow_le_pow_right (by omega) h6
          omega
  · simp at h
theorem takeB_num {n : Nat} (hn : n < 18446744073709551616) (a r : List UInt8) : takeB (a ++ (numB n ++ r)) a.length = (n, a.length + (numB n).length, 0) := by
  have hat : ∀ j (c : UInt8), (numB n)[j]? = some c → (a ++ (numB n ++ r))[a.length + j]? = some c := fun j c h => by
    rw [List.getElem?_append_right (by omega), Nat.add_sub_cancel_left, List.getElem?_append_left (List.getElem?_eq_some_iff.1 h).1]
    exact h
  have hlen : (a ++ (numB n ++ r)).length = a.length + (numB n).length + r.length := by simp; omega
  by_cases h : n ≤ 247
  · have hb : numB n = [UInt8.ofNat n] := if_pos h
    have h0 := hat 0 (UInt8.ofNat n) (by rw [hb]; rfl)
    have hl : (numB n).length = 1 := by rw [hb]; rfl
    have ht : (UInt8.ofNat n).toNat = n := by rw [UInt8.toNat_ofNat']; omega
    unfold takeB
    rw [Nat.add_zero] at h0
    rw [if_pos (by omega), h0]
    simp only [Option.getD_some]
    rw [ht, if_pos h, hl]
  · have hb : numB n = UInt8.ofNat (247 + (beB n).length) :: beB n := if_neg h
    have h8 := beB_len 8 n (by omega)
    obtain ⟨c, q, h1, h2⟩ := beB_head n (by omega)
    have hl1 : 1 ≤ (beB n).length := by rw [h1]; simp
    have h0 := hat 0 (UInt8.ofNat (247 + (beB n).length)) (by rw [hb]; rfl)
    have h01 := hat 1 c (by rw [hb, h1]; rfl)
    have hl : (numB n).length = 1 + (beB n).length := by rw [hb]; simp; omega
    have ht : (UInt8.ofNat (247 + (beB n).length)).toNat = 247 + (beB n).length := by rw [UInt8.toNat_ofNat']; omega
    have hd : ((a ++ (numB n ++ r)).drop (a.length + 1)).take (beB n).length = beB n := by
      rw [hb, List.drop_append, List.drop_of_length_le (by omega), Nat.add_sub_cancel_left]
      simp
    unfold takeB
    rw [Nat.add_zero] at h0
    rw [if_pos (by omega), h0]
    simp only [Option.getD_some]
    rw [ht, if_neg (by omega), if_neg (by omega), Nat.add_sub_cancel_left, hd, beN_beB, h01]
    simp only [Option.getD_some]
    rw [if_neg (by omega), hl]
    congr 1
    congr 1
    omega
/-- A reader's number. -/
def numF (b : List UInt8) (k : Nat) (e : Int) : Nat × Nat × Int :=
  if e ≠ 0 then (0, k, e) else if (takeB b k).2.2 ≠ 0 then (0, k, (takeB b k).2.2) else takeB b k
theorem numF_num {n : Nat} (hn : n < 18446744073709551616) (a r : List UInt8) : numF (a ++ (numB n ++ r)) a.length 0 = (n, a.length + (numB n).length, 0) := by
  unfold numF
  rw [takeB_num hn]
  simp
theorem numF_le {b : List UInt8} {k : Nat} (e : Int) (h : k ≤ b.length) : k ≤ (numF b k e).2.1 ∧ (numF b k e).2.1 ≤ b.length ∧ (numF b k e).1 < 18446744073709551616 := by
  unfold numF
  split
  · exact ⟨Nat.le_refl _, h, by simp⟩
  · split
    · exact ⟨Nat.le_refl _, h, by simp⟩
    · rename_i h2
      have := takeB_ok (b := b) (k := k) (by omega)
      exact ⟨by omega, this.2.1, this.2.2⟩
end Go.Proofs.YthebdlkmoailaaaGreatDoor

namespace Go.Proofs.YthebdlkmoailaaaGreatDoor
open Go.Gr
set_option linter.unusedSimpArgs false
set_option linter.unusedVariables false
/-- The generator's word, times 1, 2, 4 and so on. -/
def gens : List Nat := [0x0f367840, 0x1e6cf080, 0x3cd8fd1d, 0x78ade73a, 0xf047d374, 0xfd8ebbe8, 0xe7016bcd, 0xd302d687]
def xorL : List Nat → Nat → Nat → Nat
  | [], _, r => r
  | g :: gs, f, r => xorL gs (f / 2) (if f % 2 = 1 then r ^^^ g else r)
theorem xorL_zero : ∀ (gs : List Nat) (r : Nat), xorL gs 0 r = r
  | [], _ => rfl
  | _ :: gs, r => by
    have : (0 % 2 = 1) = False := by simp
    simp only [xorL, this, if_false]
    exact xorL_zero gs r
theorem xorL_lt : ∀ (gs : List Nat) (f r : Nat), (∀ g ∈ gs, g < 4294967296) → r < 4294967296 → xorL gs f r < 4294967296
  | [], _, r, _, h => h
  | g :: gs, f, r, hg, h => by
    unfold xorL
    refine xorL_lt gs _ _ (fun x hx => hg x (List.mem_cons_of_mem _ hx)) ?_
    split
    · exact Nat.xor_lt_two_pow (n := 32) h (hg g List.mem_cons_self)
    · exact h
theorem gens_lt : ∀ g ∈ gens, g < 4294967296 := by decide
/-- What is left behind one byte more. -/
def stepC (rest : Nat) (c : UInt8) : Nat := xorL gens (c.toNat ^^^ (rest / 16777216)) (rest * 256 % 4294967296)
theorem stepC_lt (rest : Nat) (c : UInt8) : stepC rest c < 4294967296 := xorL_lt _ _ _ gens_lt (Nat.mod_lt _ (by omega))
def crcR (b : List UInt8) : Nat := b.foldl stepC 0
/-- A number in four bytes. -/
def be4 (n : Nat) : List UInt8 := [UInt8.ofNat (n / 16777216), UInt8.ofNat (n / 65536), UInt8.ofNat (n / 256), UInt8.ofNat n]
theorem be4_len (n : Nat) : (be4 n).length = 4 := rfl
theorem beN_be4 {n : Nat} (h : n < 4294967296) : beN (be4 n) = n := by
  simp only [beN, be4, List.foldl_cons, List.foldl_nil, UInt8.toNat_ofNat']
  omega
def crcB (b : List UInt8) : List UInt8 := be4 (crcR b)
theorem crcB_len (b : List UInt8) : (crcB b).length = 4 := rfl
/-- A cell: bytes and their check bytes. -/
def cellB (b : List UInt8) : List UInt8 := b ++ crcB b
theorem cellB_len (b : List UInt8) : (cellB b).length = b.length + 4 := by simp [cellB, crcB_len]
def cellsB (b : List UInt8) : List UInt8 := if h : b = [] then [] else cellB (b.take 251) ++ cellsB (b.drop 251)
termination_by b.length
decreasing_by
  have : 0 < b.length := List.length_pos_iff.2 h
  simp only [List.length_drop]; omega
theorem cellsB_nil : cellsB [] = [] := by rw [cellsB]; simp
theorem cellsB_cons {b : List UInt8} (h : b ≠ []) : cellsB b = cellB (b.take 251) ++ cellsB (b.drop 251) := by rw [cellsB, dif_neg h]
theorem cellsB_len (b : List UInt8) : (cellsB b).length = b.length + (b.length + 250) / 251 * 4 := by
  induction hn : b.length using Nat.strongRecOn generalizing b with
  | _ n ih =>
    by_cases h : b = []
    · subst h; subst hn; simp [cellsB_nil]
    · have hp : 0 < b.length := List.length_pos_iff.2 h
      rw [cellsB_cons h, List.length_append, cellB_len, List.length_take, ih (b.drop 251).length (by simp only [List.length_drop]; omega) _ rfl, List.length_drop]
      omega
/-- A sealed record. -/
def sealB (r : List UInt8) : List UInt8 := cellB (be4 r.length) ++ cellsB r
theorem sealB_len (r : List UInt8) : (sealB r).length = 8 + r.length + (r.length + 250) / 251 * 4 := by
  unfold sealB
  rw [List.length_append, cellB_len, be4_len, cellsB_len]
  omega
def sealsB (rs : List (List UInt8)) : List UInt8 := (rs.map sealB).flatten
theorem sealsB_cons (r : List UInt8) (rs : List (List UInt8)) : sealsB (r :: rs) = sealB r ++ sealsB rs := rfl
theorem sealsB_append (a b : List (List UInt8)) : sealsB (a ++ b) = sealsB a ++ sealsB b := by simp [sealsB]
/-- The cell of n bytes at a place, and the error. -/
def takeC (b : List UInt8) (k n : Nat) : List UInt8 × Int :=
  if b.length < k + n + 4 then ([], 5)
  else if crcB ((b.drop k).take n) = (b.drop (k + n)).take 4 then ((b.drop k).take n, 0) else ([], 4)
def partsO (b : List UInt8) (left k : Nat) (out : List UInt8) : List UInt8 × Nat × Int :=
  if h : left = 0 then (out, k, 0)
  else if (takeC b k (min 251 left)).2 ≠ 0 then ([], 0, (takeC b k (min 251 left)).2)
  else partsO b (left - min 251 left) (k + min 251 left + 4) (out ++ (takeC b k (min 251 left)).1)
termination_by left
decreasing_by omega
theorem partsO_zero (b : List UInt8) (k : Nat) (out : List UInt8) : partsO b 0 k out = (out, k, 0) := by rw [partsO, dif_pos rfl]
theorem partsO_bad {b : List UInt8} {left k : Nat} {out : List UInt8} (h : left ≠ 0) (he : (takeC b k (min 251 left)).2 ≠ 0) : partsO b left k out = ([], 0, (takeC b k (min 251 left)).2) := by
  rw [partsO, dif_neg h, if_pos he]
theorem partsO_go {b : List UInt8} {left k : Nat} {out : List UInt8} (h : left ≠ 0) (he : (takeC b k (min 251 left)).2 = 0) : partsO b left k out = partsO b (left - min 251 left) (k + min 251 left + 4) (out ++ (takeC b k (min 251 left)).1) := by
  rw [partsO, dif_neg h, if_neg (by simp [he])]
/-- The record at a place: it, the next place, the error. -/
def openO (b : List UInt8) (k : Nat) : List UInt8 × Nat × Int :=
  if (takeC b k 4).2 ≠ 0 then ([], 0, (takeC b k 4).2)
  else if 1048576 < beN (takeC b k 4).1 then ([], 0, 2)
  else partsO b (beN (takeC b k 4).1) (k + 8) []
theorem takeC_ok {b : List UInt8} {k n : Nat} (h : (takeC b k n).2 = 0) : k + n + 4 ≤ b.length ∧ (takeC b k n).1 = (b.drop k).take n := by
  unfold takeC at h ⊢
  split at h
  · simp at h
  · rename_i h1
    rw [if_neg h1]
    split at h
    · rename_i h2
      rw [if_pos h2]
      exact ⟨by omega, rfl⟩
    · simp at h
theorem partsO_ok {b : List UInt8} : ∀ {left k : Nat} {out : List UInt8}, k ≤ b.length → (partsO b left k out).2.2 = 0 → k + left ≤ (partsO b left k out).2.1 ∧ (partsO b left k out).2.1 ≤ b.length ∧ (partsO b left k out).1.length = out.length + left := by
  intro left
  induction left using Nat.strongRecOn with
  | _ left ih =>
    intro k out hk h
    by_cases h0 : left = 0
    · subst h0; rw [partsO_zero] at *; exact ⟨by simp, hk, by simp⟩
    · by_cases he : (takeC b k (min 251 left)).2 = 0
      · rw [partsO_go h0 he] at h ⊢
        obtain ⟨h1, h2⟩ := takeC_ok he
        obtain ⟨h3, h4, h5⟩ := ih (left - min 251 left) (by omega) (by omega) h
        refine ⟨by omega, h4, ?_⟩
        rw [h5, List.length_append, h2, List.length_take, List.length_drop]
        omega
      · rw [partsO_bad h0 he] at h
        exact absurd h he
theorem openO_ok {b : List UInt8} {k : Nat} (h : (openO b k).2.2 = 0) : k + 8 ≤ (openO b k).2.1 ∧ (openO b k).2.1 ≤ b.length ∧ (openO b k).1.length ≤ b.length - k ∧ (openO b k).1.length ≤ 1048576 := by
  unfold openO at h ⊢
  split at h
  · rename_i h1; exact absurd h h1
  · rename_i h1
    rw [if_neg h1]
    have h1' := takeC_ok (Decidable.not_not.1 h1)
    split at h
    · simp at h
    · rename_i h2
      rw [if_neg h2]
      obtain ⟨h3, h4, h5⟩ := partsO_ok (by omega) h
      refine ⟨by omega, h4, ?_, ?_⟩
      · rw [h5]; simp only [List.length_nil]; omega
      · rw [h5]; simp only [List.length_nil]; omega
/-- All records from a place on, up to the first that doesn't open; and the place. -/
def allO (b : List UInt8) (k : Nat) (out : List (List UInt8)) : List (List UInt8) × Nat :=
  if h : (openO b k).2.2 = 0 then allO b (openO b k).2.1 (out ++ [(openO b k).1]) else (out, k)
termination_by b.length - k
decreasing_by
  have := openO_ok h
  omega
theorem allO_go {b : List UInt8} {k : Nat} {out : List (List UInt8)} (h : (openO b k).2.2 = 0) : allO b k out = allO b (openO b k).2.1 (out ++ [(openO b k).1]) := by rw [allO, dif_pos h]
theorem allO_end {b : List UInt8} {k : Nat} {out : List (List UInt8)} (h : (openO b k).2.2 ≠ 0) : allO b k out = (out, k) := by rw [allO, dif_neg h]
theorem allO_ok {b : List UInt8} {k : Nat} {out : List (List UInt8)} (hk : k ≤ b.length) : k ≤ (allO b k out).2 ∧ (allO b k out).2 ≤ b.length ∧ (allO b k out).1.length ≤ out.length + (b.length - k) := by
  induction hn : b.length - k using Nat.strongRecOn generalizing k out with
  | _ n ih =>
    by_cases h : (openO b k).2.2 = 0
    · have h1 := openO_ok h
      rw [allO_go h]
      obtain ⟨h2, h3, h4⟩ := ih _ (by omega) (k := (openO b k).2.1) (out := out ++ [(openO b k).1]) (by omega) rfl
      rw [List.length_append, List.length_singleton] at h4
      exact ⟨by omega, h3, by omega⟩
    · rw [allO_end h]
      exact ⟨Nat.le_refl _, hk, by simp⟩
/-- What is sealed opens again. -/
theorem takeC_cell (a c t : List UInt8) : takeC (a ++ (cellB c ++ t)) a.length c.length = (c, 0) := by
  have h1 : (a ++ (cellB c ++ t)).drop a.length = cellB c ++ t := List.drop_left' rfl
  have h2 : (a ++ (cellB c ++ t)).drop (a.length + c.length) = crcB c ++ t := by
    rw [← List.drop_drop, h1]
    unfold cellB
    rw [List.append_assoc]
    exact List.drop_left' rfl
  have h3 : (cellB c ++ t).take c.length = c := by
    unfold cellB
    rw [List.append_assoc]
    exact List.take_left' rfl
  unfold takeC
  rw [if_neg (by rw [List.length_append, List.length_append, cellB_len]; omega), h1, h2, h3, if_pos]
  exact (List.take_left' (crcB_len c)).symm
theorem takeC_short {a t : List UInt8} {n : Nat} (h : t.length < n + 4) : takeC (a ++ t) a.length n = ([], 5) := by
  unfold takeC
  rw [if_pos (by rw [List.length_append]; omega)]
theorem partsO_cells (r : List UInt8) : ∀ (a t out : List UInt8), partsO (a ++ (cellsB r ++ t)) r.length a.length out = (out ++ r, a.length + (cellsB r).length, 0) := by
  induction hn : r.length using Nat.strongRecOn generalizing r with
  | _ n ih =>
    intro a t out
    by_cases h : r = []
    · subst h; subst hn
      rw [List.length_nil, partsO_zero, cellsB_nil]; simp
    · have hp : 0 < r.length := List.length_pos_iff.2 h
      have hlt : (r.take 251).length = min 251 n := by rw [List.length_take, hn]
      have hsh : a ++ (cellsB r ++ t) = a ++ (cellB (r.take 251) ++ (cellsB (r.drop 251) ++ t)) := by rw [cellsB_cons h]; simp
      have hT : takeC (a ++ (cellsB r ++ t)) a.length (min 251 n) = (r.take 251, 0) := by rw [hsh, ← hlt]; exact takeC_cell _ _ _
      rw [partsO_go (by omega) (by rw [hT]), hT]
      have hre : a ++ (cellsB r ++ t) = (a ++ cellB (r.take 251)) ++ (cellsB (r.drop 251) ++ t) := by rw [hsh]; simp
      have hl2 : (a ++ cellB (r.take 251)).length = a.length + min 251 n + 4 := by rw [List.length_append, cellB_len, hlt]; omega
      have hl3 : n - min 251 n = (r.drop 251).length := by rw [List.length_drop, hn]; omega
      rw [hre, ← hl2, hl3, ih (r.drop 251).length (by rw [List.length_drop]; omega) (r.drop 251) rfl]
      have : (cellsB r).length = (cellB (r.take 251)).length + (cellsB (r.drop 251)).length := by rw [cellsB_cons h, List.length_append]
      rw [this, List.append_assoc, List.take_append_drop, List.length_append]
      congr 2
      omega
theorem openO_seal {r : List UInt8} (hr : r.length ≤ 1048576) (a t : List UInt8) : openO (a ++ (sealB r ++ t)) a.length = (r, a.length + (sealB r).length, 0) := by
  have hT : takeC (a ++ (sealB r ++ t)) a.length 4 = (be4 r.length, 0) := by
    have := takeC_cell a (be4 r.length) (cellsB r ++ t)
    rw [be4_len] at this
    unfold sealB
    rw [List.append_assoc]
    exact this
  unfold openO
  rw [hT]
  simp only [ne_eq, not_true, if_false]
  rw [beN_be4 (by omega), if_neg (by omega)]
  have hre : a ++ (sealB r ++ t) = (a ++ cellB (be4 r.length)) ++ (cellsB r ++ t) := by unfold sealB; simp
  have hl : (a ++ cellB (be4 r.length)).length = a.length + 8 := by rw [List.length_append, cellB_len, be4_len]
  rw [hre, ← hl, partsO_cells r, List.nil_append, List.length_append]
  unfold sealB
  rw [List.length_append]
  congr 2
  omega
theorem partsO_short (r : List UInt8) : ∀ (a t out : List UInt8), t <+: cellsB r → t.length < (cellsB r).length → (partsO (a ++ t) r.length a.length out).2.2 ≠ 0 := by
  induction hn : r.length using Nat.strongRecOn generalizing r with
  | _ n ih =>
    intro a t out ht hl
    by_cases h : r = []
    · subst h; rw [cellsB_nil] at hl; simp at hl
    · have hp : 0 < r.length := List.length_pos_iff.2 h
      have hlt : (r.take 251).length = min 251 n := by rw [List.length_take, hn]
      by_cases hs : t.length < min 251 n + 4
      · have hT := takeC_short (a := a) hs
        rw [partsO_bad (by omega) (by rw [hT]; simp), hT]
        simp
      · obtain ⟨u, hu⟩ := ht
        rw [cellsB_cons h] at hu
        have hcl : (cellB (r.take 251)).length = min 251 n + 4 := by rw [cellB_len, hlt]
        have ht1 : t.take (min 251 n + 4) = cellB (r.take 251) := by
          have := congrArg (List.take (min 251 n + 4)) hu
          rw [List.take_append_of_le_length (by omega), List.take_left' hcl] at this
          exact this
        obtain ⟨t2, rfl⟩ : ∃ t2, t = cellB (r.take 251) ++ t2 := ⟨t.drop (min 251 n + 4), by rw [← ht1, List.take_append_drop]⟩
        rw [List.append_assoc] at hu
        have hu2 := List.append_cancel_left hu
        have hT : takeC (a ++ (cellB (r.take 251) ++ t2)) a.length (min 251 n) = (r.take 251, 0) := by rw [← hlt]; exact takeC_cell _ _ _
        rw [partsO_go (by omega) (by rw [hT])]
        have hl2 : (a ++ cellB (r.take 251)).length = a.length + min 251 n + 4 := by rw [List.length_append, hcl]; omega
        have hl3 : n - min 251 n = (r.drop 251).length := by rw [List.length_drop, hn]; omega
        rw [← List.append_assoc, ← hl2, hl3]
        refine ih (r.drop 251).length (by rw [List.length_drop]; omega) (r.drop 251) rfl _ _ _ ⟨u, hu2⟩ ?_
        rw [cellsB_cons h, List.length_append, List.length_append] at hl
        omega
/-- A beginning of a sealed record does not open. -/
theorem openO_short {r : List UInt8} (hr : r.length ≤ 1048576) (a : List UInt8) {t : List UInt8} (ht : t <+: sealB r) (hl : t.length < (sealB r).length) : (openO (a ++ t) a.length).2.2 ≠ 0 := by
  by_cases hs : t.length < 8
  · unfold openO
    rw [takeC_short (by omega)]
    simp
  · obtain ⟨u, hu⟩ := ht
    unfold sealB at hu hl
    have hcl : (cellB (be4 r.length)).length = 8 := by rw [cellB_len, be4_len]
    have ht1 : t.take 8 = cellB (be4 r.length) := by
      have := congrArg (List.take 8) hu
      rw [List.take_append_of_le_length (by omega), List.take_left' hcl] at this
      exact this
    obtain ⟨t2, rfl⟩ : ∃ t2, t = cellB (be4 r.length) ++ t2 := ⟨t.drop 8, by rw [← ht1, List.take_append_drop]⟩
    rw [List.append_assoc] at hu
    have hu2 := List.append_cancel_left hu
    have hT : takeC (a ++ (cellB (be4 r.length) ++ t2)) a.length 4 = (be4 r.length, 0) := takeC_cell _ _ _
    unfold openO
    rw [hT]
    simp only [ne_eq, not_true, if_false]
    rw [beN_be4 (by omega), if_neg (by omega), ← List.append_assoc]
    have hl2 : (a ++ cellB (be4 r.length)).length = a.length + 8 := by rw [List.length_append, hcl]
    rw [← hl2]
    refine partsO_short r _ _ _ ⟨u, hu2⟩ ?_
    rw [List.length_append, List.length_append] at hl
    omega
/-- All records of some, behind others, up to what does not open. -/
theorem allO_seals : ∀ (rs : List (List UInt8)) (a t : List UInt8) (out : List (List UInt8)), (∀ r ∈ rs, r.length ≤ 1048576) → (∀ b : List UInt8, b.length = a.length + (sealsB rs).length → (openO (b ++ t) b.length).2.2 ≠ 0) →
    allO (a ++ (sealsB rs ++ t)) a.length out = (out ++ rs, a.length + (sealsB rs).length) := by
  intro rs
  induction rs with
  | nil =>
    intro a t out _ ht
    rw [show sealsB [] = [] from rfl, List.nil_append, allO_end (ht a (by simp [sealsB]))]
    simp
  | cons r rs ih =>
    intro a t out hr ht
    have hO : openO (a ++ (sealsB (r :: rs) ++ t)) a.length = (r, a.length + (sealB r).length, 0) := by
      rw [sealsB_cons, List.append_assoc]
      exact openO_seal (hr r List.mem_cons_self) _ _
    rw [allO_go (by rw [hO]), hO]
    have hre : a ++ (sealsB (r :: rs) ++ t) = (a ++ sealB r) ++ (sealsB rs ++ t) := by rw [sealsB_cons]; simp
    rw [hre, ← List.length_append, ih (a ++ sealB r) t _ (fun x hx => hr x (List.mem_cons_of_mem _ hx)) (fun b hb => ht b (by rw [hb, sealsB_cons, List.length_append, List.length_append]; omega))]
    rw [List.length_append, sealsB_cons, List.length_append, List.append_assoc]
    congr 1
    omega
end Go.Proofs.YthebdlkmoailaaaGreatDoor

namespace Go.Proofs.YthebdlkmoailaaaGreatDoor
open Go.RowKit Go.Gr
set_option linter.unusedSimpArgs false
set_option linter.unusedVariables false
abbrev uw (n : Nat) : Value := .int .u32 (n : Int)
abbrev genV : Array Value := #[.int .u32 255227968, .int .u32 510455936, .int .u32 1020853533, .int .u32 2024662842, .int .u32 4031239028, .int .u32 4253989864, .int .u32 3875630029, .int .u32 3540178567]
theorem genV_at {i : Nat} (h : i < 8) : ∃ g gs, gens.drop i = g :: gs ∧ gs = gens.drop (i + 1) ∧ g < 4294967296 ∧ genV[i]? = some (uw g) := by
  rcases i with _ | _ | _ | _ | _ | _ | _ | _ | i
  · exact ⟨_, _, rfl, rfl, by omega, rfl⟩
  · exact ⟨_, _, rfl, rfl, by omega, rfl⟩
  · exact ⟨_, _, rfl, rfl, by omega, rfl⟩
  · exact ⟨_, _, rfl, rfl, by omega, rfl⟩
  · exact ⟨_, _, rfl, rfl, by omega, rfl⟩
  · exact ⟨_, _, rfl, rfl, by omega, rfl⟩
  · exact ⟨_, _, rfl, rfl, by omega, rfl⟩
  · exact ⟨_, _, rfl, rfl, by omega, rfl⟩
  · omega
theorem pyGen_ (w : World) : Calls Tryz.prog 115 #[] w fun e w' => e = .returned (.agg genV) ∧ Step w w' := by
  go_enter Tryz.func115, Tryz.ntmps115
  go_wp2
  refine bodyPost_ret (results_cell_row Tryz.results115 _ _ w.heap.size 179 genV _ _ rfl (heap_alloc_new _ _) Tryz.underlying179 rfl (by kernel_rfl)) rfl ?_
  exact ⟨rfl, by (repeat (first | exact Step.refl _ | refine Step.alloc ?_ _ | refine Step.drew ?_ | refine Step.drewN ?_ _ | refine Step.setCell ?_ (by first | exact Nat.le_refl _ | assumption | omega | (simp; done) | (simp; omega)) _ | assumption | refine Step.trans ?_ (by assumption : Step _ _)))⟩
def crcS (r : Nat) (b : List UInt8) : Nat := b.foldl stepC r
theorem crcS_snoc (r : Nat) (b : List UInt8) (c : UInt8) : crcS r (b ++ [c]) = stepC (crcS r b) c := by simp [crcS, List.foldl_append]
theorem crcS_append (r : Nat) (a b : List UInt8) : crcS r (a ++ b) = crcS (crcS r a) b := by simp [crcS, List.foldl_append]
theorem crcS_lt {r : Nat} (h : r < 4294967296) : ∀ b : List UInt8, crcS r b < 4294967296 := by
  intro b
  induction b generalizing r with
  | nil => exact h
  | cons c b ih => exact ih (stepC_lt r c)
theorem and_one (n : Nat) (h : n < 256) : bits .and .u8 (n : Int) 1 = ((n % 2 : Nat) : Int) := by
  have := u8_and_nat n 1 h (by omega)
  rw [nat_mask1] at this
  exact this
set_option maxRecDepth 100000 in
set_option maxHeartbeats 4000000 in
theorem pyCheck_ {w : World} {M : Nat → Prop} {v : Value} {cs : List (List UInt8)} (h : (Ty.slice Ty.bytes).rep w M [v] cs) :
    Calls Tryz.prog 100 #[v] w fun e w' => e = .returned (.agg ((crcB cs.flatten).map bv).toArray) ∧ Step w w' := by
  obtain ⟨a, c, rfl, hc, hm, hl⟩ := Ty.slice_val h
  rw [lim_eq] at hl
  have H := Lib.hid h
  clear h hc hm
  go_enter Tryz.func100, Tryz.ntmps100
  go_wp2_with (go_at_call 115; refine (pyGen_ _).mono ?_; rintro e w1 ⟨rfl, hS1⟩)
  have HS0 : Hid (Step w w1) := Lib.hid stp
  have hr0 : CellsAt w1 w.heap.size #[.int .u8 0, .int .u8 0, .int .u8 0, .int .u8 0] 163 := CellsAt.step (CellsAt.new rfl) hS1
  have hlt0 := hr0.lt
  refine wp_code (fun wx => CellsAt wx w.heap.size #[.int .u8 0, .int .u8 0, .int .u8 0, .int .u8 0] 163 ∧ CellsAt wx w1.heap.size genV 179 ∧ Step w wx) ⟨CellsAt.step hr0 ((Step.refl _).alloc _), CellsAt.new rfl, by (repeat (first | exact Step.refl _ | refine Step.alloc ?_ _ | refine Step.drew ?_ | refine Step.drewN ?_ _ | refine Step.setCell ?_ (by first | exact Nat.le_refl _ | assumption | omega | (simp; done) | (simp; omega)) _ | assumption | refine Step.trans ?_ (by assumption : Step _ _)))⟩ ?_
  rintro w2 ⟨hr2, hg2, hS2⟩
  have HR := Lib.hid hr2
  have HG := Lib.hid hg2
  have HS2 := Lib.hid hS2
  obtain ⟨gb, hgb⟩ : ∃ g, g = w1.heap.size := ⟨_, rfl⟩
  rw [← hgb] at HG ⊢
  have hne : gb ≠ w.heap.size := by omega
  clear hr0 hlt0 hS1 hr2 hg2 hS2 HS0 hgb
  go_wp2
  go_loopw [3, 14] (fun rv iv w' => ∃ (k : Nat), rv = uw (crcS 0 (cs.take k).flatten) ∧ iv = .int .i64 (k : Int) ∧ k ≤ cs.length ∧ w' = w2) (fun _ iv _ => cs.length - (Go.RowKit.intOf iv).toNat)
  case atStart => exact ⟨0, rfl, rfl, by omega, rfl⟩
  case round =>
    obtain ⟨k, rfl, rfl, hk, rfl⟩ := hrel
    by_cases hlt : k < cs.length
    · have hd : decide ((k : Int) < (cs.length : Int)) = true := decide_eq_true (by omega)
      obtain ⟨b1, o1, u1, rfl, hb1, _, hu1, hc0⟩ := Ty.slice_at1 rfl H.out hlt
      obtain ⟨va, vc, hvv, _, _, hvl⟩ := Ty.slice_val hu1
      obtain rfl : u1 = .slice va (cs[k]'hlt).length vc := by simpa using hvv
      clear hvv
      have q := (Step.cell (w' := wr) HS2.out hb1 _).trans hc0
      have HU := Lib.hid hu1
      obtain ⟨B, hB⟩ : ∃ B, B = (cs[k]'hlt) := ⟨_, rfl⟩
      rw [← hB] at HU q hvl
      have htk : Hid (crcS 0 (cs.take (k + 1)).flatten = crcS (crcS 0 (cs.take k).flatten) B) := Lib.hid (by rw [List.take_succ_eq_append_getElem hlt, List.flatten_append, crcS_append, hB]; simp)
      obtain ⟨R0, hR0⟩ : ∃ R0, R0 = crcS 0 (cs.take k).flatten := ⟨_, rfl⟩
      have hR0l : Hid (R0 < 4294967296) := Lib.hid (by rw [hR0]; exact crcS_lt (by omega) _)
      rw [← hR0] at htk ⊢
      clear hB hR0 hu1 hc0
      rw [lim_eq] at hvl
      go_wp2
      go_loopw [3, 20] (fun rv iv w' => ∃ (j : Nat), rv = uw (crcS R0 (B.take j)) ∧ iv = .int .i64 (j : Int) ∧ j ≤ B.length ∧ w' = wr) (fun _ iv _ => B.length - (Go.RowKit.intOf iv).toNat)
      case atStart => exact ⟨0, rfl, rfl, by omega, rfl⟩
      case round =>
        obtain ⟨j, rfl, rfl, hj, rfl⟩ := hrel
        by_cases hjl : j < B.length
        · have hdj : decide ((j : Int) < (B.length : Int)) = true := decide_eq_true (by omega)
          obtain ⟨b2, o2, u2, hva, hb2, _, hu2, hc2⟩ := Ty.slice_at1 rfl HU.out hjl
          subst hva
          have q2 := (Step.cell (w' := wr) HS2.out hb2 _).trans hc2
          have hu2' : [u2] = [Value.int .u8 ((B[j]'hjl).toNat : Int)] := hu2
          obtain rfl := (List.cons.inj hu2').1
          obtain ⟨C, hC⟩ : ∃ C, C = (B[j]'hjl) := ⟨_, rfl⟩
          have htk2 : Hid (crcS R0 (B.take (j + 1)) = stepC (crcS R0 (B.take j)) C) := Lib.hid (by rw [List.take_succ_eq_append_getElem hjl, crcS_snoc, hC])
          rw [← hC] at q2
          have hC8 : C.toNat < 256 := C.toNat_lt
          have hR1l : crcS R0 (B.take j) < 4294967296 := crcS_lt hR0l.out _
          generalize crcS R0 (B.take j) = R1 at *
          clear hu2 hu2' hc2 hC
          have hxor := u8_xor_nat C.toNat (R1 / 16777216) hC8 (by omega)
          have htgt : Hid (stepC R1 C = xorL (gens.drop 0) (C.toNat ^^^ R1 / 16777216) (R1 * 256 % 4294967296)) := Lib.hid rfl
          have hF0 : C.toNat ^^^ R1 / 16777216 < 256 := Nat.xor_lt_two_pow (n := 8) hC8 (by omega)
          obtain ⟨T, hT⟩ : ∃ T, T = stepC R1 C := ⟨_, rfl⟩
          rw [← hT] at htgt htk2
          clear hT
          go_wp2
          go_loopw [3, 9, 10] (fun rv fv iv w' => ∃ (R F i : Nat), rv = uw R ∧ fv = .int .u8 (F : Int) ∧ iv = .int .i64 (i : Int) ∧ i ≤ 8 ∧ R < 4294967296 ∧ F < 256 ∧ Hid (F * 2 ^ i < 256) ∧ Hid (T = xorL (gens.drop i) F R) ∧ w' = wr) (fun _ fv _ _ => (Go.RowKit.intOf fv).toNat)
          case atStart => exact ⟨R1 * 256 % 4294967296, _, 0, by simp, congrArg (Value.int .u8) hxor, rfl, by omega, by omega, hF0, Lib.hid (by simpa using hF0), htgt, rfl⟩
          case round =>
            obtain ⟨R, F, i, rfl, rfl, rfl, hi, hR, hF, hFi, hTX, rfl⟩ := hrel
            by_cases hF0' : F = 0
            · subst hF0'
              have hTR : Hid (T = R) := Lib.hid (by rw [hTX.out, xorL_zero])
              clear hF hFi hTX
              go_wp2
              go_roundw
              case rel => exact ⟨j + 1, by rw [htk2.out, hTR.out], by go_num, by omega, trivial⟩
              case measure => simp [Go.RowKit.intOf]; omega
            · have hpos : decide ((0 : Int) < (F : Int)) = true := decide_eq_true (by omega)
              have hi8 : i < 8 := by
                rcases Nat.lt_or_ge i 8 with h | h
                · exact h
                · have h1 : 2 ^ 8 ≤ 2 ^ i := Nat.pow_le_pow_right (by omega) h
                  have h2 : 1 * 2 ^ i ≤ F * 2 ^ i := Nat.mul_le_mul_right _ (by omega)
                  have := hFi.out
                  omega
              obtain ⟨G, gs, hg1, hg2, hg3, hg4⟩ := genV_at hi8
              have qg : wr.cell? ⟨gb, i, none⟩ = some (uw G) := (HG.out.cell i).trans hg4
              have hTX2 : Hid (T = xorL (gens.drop (i + 1)) (F / 2) (if F % 2 = 1 then R ^^^ G else R)) := Lib.hid (by rw [hTX.out, hg1, ← hg2]; rfl)
              have hFi2 : Hid (F / 2 * 2 ^ (i + 1) < 256) := Lib.hid (by
                have := hFi.out
                have h1 : F / 2 * 2 ^ (i + 1) = (F / 2 * 2) * 2 ^ i := by rw [Nat.pow_succ]; ac_rfl
                have h2 : (F / 2 * 2) * 2 ^ i ≤ F * 2 ^ i := Nat.mul_le_mul_right _ (by omega)
                omega)
              have hand := and_one F hF
              have hxg := u32_xor_nat R G hR hg3
              have hxl : R ^^^ G < 4294967296 := Nat.xor_lt_two_pow (n := 32) hR hg3
              clear hg1 hg2 hg4 hTX hFi
              by_cases hodd : F % 2 = 1
              · have hb1 : (bits .and .u8 (F : Int) 1 == 1) = true := by rw [hand, hodd]; rfl
                rw [if_pos hodd] at hTX2
                go_wp2
                go_roundw
                case rel => exact ⟨R ^^^ G, F / 2, i + 1, rfl, by go_num, by go_num, by omega, hxl, by omega, hFi2, hTX2, trivial⟩
                case measure => simp [Go.RowKit.intOf]; omega
              · have hb1 : (bits .and .u8 (F : Int) 1 == 1) = false := by rw [hand]; exact beq_eq_false_iff_ne.2 (by omega)
                rw [if_neg hodd] at hTX2
                go_wp2
                go_roundw
                case rel => exact ⟨R, F / 2, i + 1, rfl, by go_num, by go_num, by omega, hR, by omega, hFi2, hTX2, trivial⟩
                case measure => simp [Go.RowKit.intOf]; omega
        · have hdj : decide ((j : Int) < (B.length : Int)) = false := decide_eq_false (by omega)
          have hje : Hid (B.take j = B) := Lib.hid (List.take_of_length_le (by omega))
          rw [hje.out]
          clear hje
          go_wp2
          go_roundw
          case rel => exact ⟨k + 1, by rw [htk.out], by go_num, by omega, trivial⟩
          case measure => simp [Go.RowKit.intOf]; omega
    · have hd : decide ((k : Int) < (cs.length : Int)) = false := decide_eq_false (by omega)
      have hke : Hid (cs.take k = cs) := Lib.hid (List.take_of_length_le (by omega))
      rw [hke.out]
      have hR0 : crcS 0 cs.flatten < 4294967296 := crcS_lt (by omega) _
      have hRe : Hid (crcR cs.flatten = crcS 0 cs.flatten) := Lib.hid rfl
      generalize crcS 0 cs.flatten = R at *
      have c0 : wr.cell? ⟨w.heap.size, 0, none⟩ = some (.int .u8 0) := HR.out.cell 0
      have c1 : wr.cell? ⟨w.heap.size, 1, none⟩ = some (.int .u8 0) := HR.out.cell 1
      have c2 : wr.cell? ⟨w.heap.size, 2, none⟩ = some (.int .u8 0) := HR.out.cell 2
      have c3 : wr.cell? ⟨w.heap.size, 3, none⟩ = some (.int .u8 0) := HR.out.cell 3
      have f0 : ∀ j, wr.frozen? ⟨w.heap.size, j, none⟩ = false := fun j => HR.out.frozen j
      clear hke
      go_wp2
      have hb : ∀ n : Nat, Value.int .u8 ((n : Int) % 256) = bv (UInt8.ofNat n) := fun n => by
        show Value.int .u8 ((n : Int) % 256) = Value.int .u8 ((UInt8.ofNat n).toNat : Int)
        rw [UInt8.toNat_ofNat']
        congr 1
      have e0 : Value.int .u8 ((R : Int) / 16777216) = bv (UInt8.ofNat (R / 16777216)) := by
        rw [← hb]
        congr 1
        omega
      have e1 : Value.int .u8 ((R : Int) / 65536 % 256) = bv (UInt8.ofNat (R / 65536)) := by rw [← hb]; rfl
      have e2 : Value.int .u8 ((R : Int) / 256 % 256) = bv (UInt8.ofNat (R / 256)) := by rw [← hb]; rfl
      have e3 : Value.int .u8 ((R : Int) % 256) = bv (UInt8.ofNat R) := hb R
      rw [e0, e1, e2, e3]
      refine bodyPost_ret (results_cell_row Tryz.results100 _ _ w.heap.size 163 #[bv (UInt8.ofNat (R / 16777216)), bv (UInt8.ofNat (R / 65536)), bv (UInt8.ofNat (R / 256)), bv (UInt8.ofNat R)] _ _ rfl (CellsAt.set (CellsAt.set (CellsAt.set (CellsAt.set HR.out 0 _) 1 _) 2 _) 3 _) Tryz.underlying163 rfl (by kernel_rfl)) rfl ?_
      refine ⟨?_, ?_⟩
      · unfold crcB
        rw [hRe.out]
        rfl
      · have hS2 := HS2.out
        (repeat (first | exact Step.refl _ | refine Step.alloc ?_ _ | refine Step.drew ?_ | refine Step.drewN ?_ _ | refine Step.setCell ?_ (by first | exact Nat.le_refl _ | assumption | omega | (simp; done) | (simp; omega)) _ | assumption | refine Step.trans ?_ (by assumption : Step _ _)))
end Go.Proofs.YthebdlkmoailaaaGreatDoor

namespace Go.Proofs.YthebdlkmoailaaaGreatDoor
open Go.RowKit Go.Gr
set_option linter.unusedSimpArgs false
set_option maxRecDepth 100000 in
theorem Take_small {w : World} {M : Nat → Prop} {a : Option Addr} {n c k : Nat} {xs : List UInt8} (h : Ty.bytes.rep w M [.slice a n c] xs) (hk : k < xs.length) (hs : xs[k].toNat ≤ 247) :
    Calls Tryz.prog 112 #[.slice a n c, .int .i64 (k : Int)] w fun e w' => e = .returned (.tuple #[.int .u64 (xs[k].toNat : Int), .int .i64 ((k : Int) + 1), .int .i64 0]) ∧ w' = w := by
  obtain rfl : n = xs.length := by obtain ⟨_, _, hv, _⟩ := Ty.slice_val h; injection hv
  have hl := Ty.slice_le h
  rw [lim_eq] at hl
  obtain ⟨b, off, u, rfl, _, _, hu, hc⟩ := Ty.slice_at1 rfl h hk
  have hu' : [u] = [Value.int .u8 (xs[k].toNat : Int)] := hu
  obtain rfl := (List.cons.inj hu').1
  clear hu hu' h
  have t0 : decide ((k : Int) < 0) = false := decide_eq_false (by omega)
  have t1 : decide ((xs.length : Int) < (k : Int)) = false := decide_eq_false (by omega)
  have t2 : ((k : Int) == (xs.length : Int)) = false := beq_eq_false_iff_ne.2 (by omega)
  generalize hx : xs[k].toNat = x at *
  have t3 : decide ((x : Int) ≤ 247) = true := decide_eq_true (by omega)
  clear hx
  go_enter Tryz.func112, Tryz.ntmps112
  go_wp2
  go_ret3
  exact ⟨rfl, rfl⟩
end Go.Proofs.YthebdlkmoailaaaGreatDoor

namespace Go.Proofs.YthebdlkmoailaaaGreatDoor
open Go.RowKit Go.Gr
set_option linter.unusedSimpArgs false
/-- Block rb is a reader of v, at a place, with an error. -/
def RdAt (w : World) (rb : Nat) (v : Value) (k : Nat) (e : Int) : Prop := CellsAt w rb #[v, .int .i64 (k : Int), .int .i64 e] 174
set_option maxRecDepth 100000 in
theorem rdRead_ {w : World} {M : Nat → Prop} {v : Value} {xs : List UInt8} (h : Ty.bytes.rep w M [v] xs) :
    Calls Tryz.prog 96 #[v] w fun e w' => ∃ rb v', e = .returned (.pointer (some ⟨rb, 0, none⟩)) ∧ RdAt w' rb v' 0 0 ∧ Ty.bytes.rep w' (· = rb) [v'] xs ∧ Step w w' ∧ w.heap.size ≤ rb := by
  obtain ⟨a, c, rfl, _⟩ := Ty.slice_val h
  have H := Lib.hid h
  clear h
  go_enter Tryz.func96, Tryz.ntmps96
  go_wp2_with (go_at_call 58; refine (Clone_ _ _ _ _ (by refine Ty.step _ (Hid.out (by assumption)) ?_; (repeat (first | exact Step.refl _ | refine Step.alloc ?_ _ | refine Step.drew ?_ | refine Step.drewN ?_ _ | refine Step.setCell ?_ (by first | exact Nat.le_refl _ | assumption | omega | (simp; done) | (simp; omega)) _ | assumption | refine Step.trans ?_ (by assumption : Step _ _))))).mono ?_; rintro e w1 ⟨v1, rfl, hA1, hS1⟩; obtain ⟨a1, c1, rfl⟩ := hA1.val; have HA1 := Lib.hid hA1; clear hA1)
  go_ret
  refine ⟨_, _, rfl, CellsAt.new rfl, Ty.step _ (Own.rep' (Own.flat Ty.flat_byte HA1.out) (fun b hb hm => ?_)) ((Step.refl _).alloc _), by (repeat (first | exact Step.refl _ | refine Step.alloc ?_ _ | refine Step.drew ?_ | refine Step.drewN ?_ _ | refine Step.setCell ?_ (by first | exact Nat.le_refl _ | assumption | omega | (simp; done) | (simp; omega)) _ | assumption | refine Step.trans ?_ (by assumption : Step _ _))), hS1.size⟩
  have := (HA1.out.lt hb).2
  omega
set_option maxRecDepth 100000 in
theorem rdLeft_ {w : World} {rb k : Nat} {a : Option Addr} {n c : Nat} {e : Int} (h : RdAt w rb (.slice a n c) k e) (hk : k ≤ n) (hn : n ≤ 68719476736) :
    Calls Tryz.prog 113 #[.pointer (some ⟨rb, 0, none⟩)] w fun e w' => e = .returned (.int .i64 ((n - k : Nat) : Int)) ∧ ∃ m, w' = w.drewN m := by
  have p0 : w.cell? ⟨rb, 0, none⟩ = some (.slice a n c) := h.cell 0
  have p1 : w.cell? ⟨rb, 1, none⟩ = some (.int .i64 (k : Int)) := h.cell 1
  clear h
  go_enter Tryz.func113, Tryz.ntmps113
  go_wp2
  go_quiet (fail)
  go_wp2
  go_ret
  refine ⟨?_, _, rfl⟩
  show Ending.returned (Value.int .i64 ((n : Int) - (k : Int))) = _
  rw [Int.ofNat_sub hk]
/-- A part of a slice. -/
theorem bytes_sub {w : World} {M : Nat → Prop} {b off n c lo hi : Nat} {xs : List UInt8} (h : Ty.bytes.rep w M [.slice (some ⟨b, off, none⟩) n c] xs) (h1 : lo ≤ hi) (h2 : hi ≤ xs.length) :
    Ty.bytes.rep w M [.slice (some ⟨b, off + lo, none⟩) (hi - lo) (c - lo)] ((xs.drop lo).take (hi - lo)) := by
  obtain ⟨a', c', hv, h3, h4, h5, hs⟩ := h
  simp only [List.cons.injEq, Value.slice.injEq, and_true] at hv
  obtain ⟨rfl, rfl, rfl⟩ := hv
  have hl : ((xs.drop lo).take (hi - lo)).length = hi - lo := by rw [List.length_take, List.length_drop]; omega
  refine ⟨_, _, by rw [hl], by rw [hl]; omega, by omega, by rw [hl]; omega, fun hp => ?_⟩
  rw [hl] at hp
  obtain ⟨b', off', ha, hb, hM, hc⟩ := hs (by omega)
  simp only [Option.some.injEq, Addr.mk.injEq, and_true] at ha
  obtain ⟨rfl, rfl⟩ := ha
  refine ⟨b, off + lo, rfl, hb, hM, fun i hi' => ?_⟩
  have hi2 : lo + i < xs.length := by omega
  obtain ⟨es, he, hce⟩ := hc (lo + i) hi2
  refine ⟨es, by simpa using he, fun j u hu => ?_⟩
  have := hce j u hu
  rw [Nat.add_mul] at this
  simp only [show Ty.byte.n = 1 from rfl, Nat.mul_one] at this ⊢
  rw [show off + lo + i + j = off + (lo + i) + j by omega]
  exact this
end Go.Proofs.YthebdlkmoailaaaGreatDoor

namespace Go.Proofs.YthebdlkmoailaaaGreatDoor
open Go.RowKit Go.Gr
set_option linter.unusedSimpArgs false
theorem or_byte {n : Nat} {c : UInt8} (h : n * 256 < 18446744073709551616) : bits .or .u64 ((n * 256 : Nat) : Int) (c.toNat : Int) = ((n * 256 + c.toNat : Nat) : Int) := by
  have hc : c.toNat < 256 := c.toNat_lt
  show IntKind.u64.wrap (((BitVec.ofInt 64 ((n * 256 : Nat) : Int)) ||| (BitVec.ofInt 64 (c.toNat : Int))).toNat : Int) = _
  have h1 : (BitVec.ofInt 64 ((n * 256 : Nat) : Int)).toNat = n * 256 := by
    rw [BitVec.ofInt_natCast, BitVec.toNat_ofNat]; exact Nat.mod_eq_of_lt (by omega)
  have h2 : (BitVec.ofInt 64 (c.toNat : Int)).toNat = c.toNat := by
    rw [BitVec.ofInt_natCast, BitVec.toNat_ofNat]; exact Nat.mod_eq_of_lt (by omega)
  have h3 : n * 256 ||| c.toNat = n * 256 + c.toNat := by
    have := Nat.shiftLeft_add_eq_or_of_lt (b := c.toNat) (i := 8) (by omega) n
    rw [Nat.shiftLeft_eq] at this
    exact this.symm
  rw [BitVec.toNat_or, h1, h2, h3, IntKind.wrap_u64]
  omega
set_option maxRecDepth 100000 in
set_option maxHeartbeats 2000000 in
theorem Take_ {w : World} {M : Nat → Prop} {a : Option Addr} {n c k : Nat} {xs : List UInt8} (h : Ty.bytes.rep w M [.slice a n c] xs) (hk : k ≤ xs.length) :
    Calls Tryz.prog 112 #[.slice a n c, .int .i64 (k : Int)] w fun e w' => e = .returned (.tuple #[.int .u64 ((takeB xs k).1 : Int), .int .i64 ((takeB xs k).2.1 : Int), .int .i64 (takeB xs k).2.2]) ∧ w' = w := by
  obtain rfl : n = xs.length := by obtain ⟨_, _, hv, _⟩ := Ty.slice_val h; injection hv
  have hl := Ty.slice_le h
  rw [lim_eq] at hl
  have hcap : xs.length ≤ c := by obtain ⟨a', c', hv, h1, _⟩ := Ty.slice_val h; injection hv; omega
  have t0 : decide ((k : Int) < 0) = false := decide_eq_false (by omega)
  have t1 : decide ((xs.length : Int) < (k : Int)) = false := decide_eq_false (by omega)
  by_cases hlt : k < xs.length
  · by_cases hs : xs[k].toNat ≤ 247
    · have hT : takeB xs k = (xs[k].toNat, k + 1, 0) := by
        unfold takeB
        rw [if_pos hlt, List.getElem?_eq_getElem hlt]
        simp only [Option.getD_some]
        rw [if_pos hs]
      rw [hT]
      exact Take_small h hlt hs
    · obtain ⟨b, off, u, rfl, hbb, _, hu, hc⟩ := Ty.slice_at1 rfl h hlt
      have hu' : [u] = [Value.int .u8 (xs[k].toNat : Int)] := hu
      obtain rfl := (List.cons.inj hu').1
      have hx8 : xs[k].toNat < 256 := xs[k].toNat_lt
      have t2 : ((k : Int) == (xs.length : Int)) = false := beq_eq_false_iff_ne.2 (by omega)
      obtain ⟨K, hK⟩ : ∃ K, xs[k].toNat = 247 + K := ⟨xs[k].toNat - 247, by omega⟩
      have hK8' : K ≤ 8 := by omega
      rw [hK] at hc
      by_cases hend : xs.length - k - 1 < K
      · have hT : takeB xs k = (0, 0, 5) := by
          unfold takeB
          rw [if_pos hlt, List.getElem?_eq_getElem hlt]
          simp only [Option.getD_some]
          rw [if_neg hs, if_pos (by omega)]
        rw [hT]
        have t4 : decide ((xs.length : Int) - (k : Int) - 1 < (K : Int)) = true := decide_eq_true (by omega)
        clear hu hu' h hT hs hx8 hK
        generalize xs.length = N at *
        go_enter Tryz.func112, Tryz.ntmps112
        go_wp2
        go_ret3
        exact ⟨rfl, rfl⟩
      · have hsub := bytes_sub h (lo := k + 1) (hi := k + 1 + K) (by omega) (by omega)
        rw [show k + 1 + K - (k + 1) = K by omega] at hsub
        have hsl : ((xs.drop (k + 1)).take K).length = K := by rw [List.length_take, List.length_drop]; omega
        have hT : takeB xs k = if beN ((xs.drop (k + 1)).take K) ≤ 247 ∨ (xs[k + 1]?.getD 0).toNat = 0 then (0, 0, 3) else (beN ((xs.drop (k + 1)).take K), k + 1 + K, 0) := by
          unfold takeB
          rw [if_pos hlt, List.getElem?_eq_getElem hlt]
          simp only [Option.getD_some]
          rw [if_neg hs, if_neg (by omega), hK, Nat.add_sub_cancel_left]
        have hk1 : k + 1 < xs.length := by omega
        obtain ⟨b', off', u1, hab', _, _, hu1, hc1⟩ := Ty.slice_at1 rfl h hk1
        obtain ⟨rfl, rfl⟩ : b = b' ∧ off = off' := by simpa using hab'
        obtain rfl : u1 = bv xs[k + 1] := by simpa [Ty.byte] using hu1
        rw [List.getElem?_eq_getElem hk1] at hT
        simp only [Option.getD_some] at hT
        rw [hT]
        have HSUB := Lib.hid hsub
        have hseg : Hid (∀ j (hj : j < K), ((xs.drop (k + 1)).take K).length = K) := Lib.hid (fun _ _ => hsl)
        obtain ⟨seg, hsg⟩ : ∃ seg, seg = (xs.drop (k + 1)).take K := ⟨_, rfl⟩
        rw [← hsg] at HSUB hsl ⊢
        obtain ⟨R, hR⟩ : ∃ R : Nat × Nat × Int, R = if beN seg ≤ 247 ∨ xs[k + 1].toNat = 0 then (0, 0, 3) else (beN seg, k + 1 + K, 0) := ⟨_, rfl⟩
        rw [← hR]
        have hK1 : 1 ≤ K := by omega
        generalize xs[k + 1] = c1 at *
        have HR := Lib.hid hR
        clear hR
        clear hu hu' h hT hs hx8 hK hsub hseg hsg hu1 hab'
        generalize xs.length = N at *
        have t4 : decide ((N : Int) - (k : Int) - 1 < (K : Int)) = false := decide_eq_false (by omega)
        have hwr : IntKind.i64.wrap ((k : Int) + 1 + (K : Int)) = (k : Int) + 1 + (K : Int) := by rw [IntKind.wrap_i64]; omega
        have e1 : (0 : Int) ≤ (k : Int) + 1 + (K : Int) := by omega
        have e2 : (k : Int) + 1 + (K : Int) ≤ (c : Int) := by omega
        have e3 : (0 : Int) ≤ (k : Int) + 1 := by omega
        have e4 : (k : Int) + 1 ≤ max ((k : Int) + 1 + (K : Int)) 0 := by omega
        have e6 : (k : Int) + 1 ≤ (k : Int) + 1 + (K : Int) := by omega
        have e5 : ((k : Int) + 1 + (K : Int)).toNat = k + 1 + K := by omega
        have e7 : ¬ c = k + 1 := by omega
        have q4 : decide (N < k) = false := decide_eq_false (by omega)
        have q5 : decide (N = k) = false := decide_eq_false (by omega)
        go_enter Tryz.func112, Tryz.ntmps112
        go_wp2
        go_loopw [9, 53] (fun m i w' => ∃ j : Nat, i = .int .i64 j ∧ j ≤ K ∧ m = .int .u64 (beN (seg.take j) : Int) ∧ w' = w) (fun _ i _ => K - (Go.RowKit.intOf i).toNat)
        case atStart => exact ⟨0, rfl, by omega, by simp [beN], rfl⟩
        case round =>
          obtain ⟨j, rfl, hj, rfl, rfl⟩ := hrel
          by_cases hjl : j < K
          · obtain ⟨b2, o2, u2, hab2, _, _, hu2, hc2⟩ := Ty.slice_at1 rfl HSUB.out (k := j) (by omega)
            obtain ⟨rfl, rfl⟩ : b = b2 ∧ off + (k + 1) = o2 := by simpa using hab2
            obtain rfl : u2 = bv (seg[j]'(by omega)) := by simpa [Ty.byte] using hu2
            have htk : Hid (seg.take (j + 1) = seg.take j ++ [seg[j]'(by omega)]) := Lib.hid (List.take_succ_eq_append_getElem (by omega))
            have hlt8 : beN (seg.take j) < 256 ^ 7 := by
              have h1 := beN_lt (seg.take j)
              have h2 : (seg.take j).length ≤ 7 := by rw [List.length_take]; omega
              exact Nat.lt_of_lt_of_le h1 (Nat.pow_le_pow_right (by omega) h2)
            have hor := or_byte (n := beN (seg.take j)) (c := seg[j]'(by omega)) (by omega)
            have hsn : beN (seg.take (j + 1)) = beN (seg.take j) * 256 + (seg[j]'(by omega)).toNat := by rw [htk.out, beN_snoc]
            clear hu2
            generalize beN (seg.take j) = m at *
            generalize hm2 : beN (seg.take (j + 1)) = m2 at *
            generalize seg[j]'(by omega) = cj at *
            go_wp2
            go_roundw
            case rel =>
              refine ⟨j + 1, by go_num, by omega, ?_, trivial⟩
              have hw : IntKind.u64.wrap (cj.toNat : Int) = (cj.toNat : Int) := by
                rw [IntKind.wrap_u64]
                have := cj.toNat_lt
                omega
              have hcast : (m : Int) * 256 = ((m * 256 : Nat) : Int) := by omega
              rw [hw, hm2, hsn, hcast, hor]
            case measure => simp [Go.RowKit.intOf]; omega
          · obtain rfl : j = K := by omega
            rw [List.take_of_length_le (by omega)]
            have HR2 := HR.out
            generalize beN seg = V at *
            have hV0 : decide ((V : Int) ≤ 247) = decide (V ≤ 247) := by
              by_cases hq : V ≤ 247
              · rw [decide_eq_true hq, decide_eq_true (by omega)]
              · rw [decide_eq_false hq, decide_eq_false (by omega)]
            by_cases hv : V ≤ 247
            · rw [if_pos (Or.inl hv)] at HR2
              subst HR2
              have hv1 : decide ((V : Int) ≤ 247) = true := decide_eq_true (by omega)
              go_wp2
              go_ret3
              exact ⟨rfl, rfl⟩
            · have hv1 : decide ((V : Int) ≤ 247) = false := decide_eq_false (by omega)
              by_cases hz : c1.toNat = 0
              · rw [if_pos (Or.inr hz)] at HR2
                subst HR2
                have hz1 : ((c1.toNat : Int) == 0) = true := beq_iff_eq.2 (by omega)
                go_wp2
                go_ret3
                exact ⟨rfl, rfl⟩
              · rw [if_neg (by omega)] at HR2
                subst HR2
                have hz1 : ((c1.toNat : Int) == 0) = false := beq_eq_false_iff_ne.2 (by omega)
                go_wp2
                go_ret3
                have hcs : (k : Int) + 1 + (247 + (j : Int) - 247) = ((k + 1 + j : Nat) : Int) := by omega
                refine ⟨?_, rfl⟩
                show Ending.returned (Value.tuple #[.int .u64 (V : Int), .int .i64 ((k : Int) + 1 + (247 + (j : Int) - 247)), .int .i64 0]) = Ending.returned (Value.tuple #[.int .u64 (V : Int), .int .i64 ((k + 1 + j : Nat) : Int), .int .i64 0])
                rw [hcs]
  · have hT : takeB xs k = (0, 0, 5) := if_neg hlt
    rw [hT]
    obtain rfl : k = xs.length := by omega
    clear h hT
    generalize xs.length = N at *
    go_enter Tryz.func112, Tryz.ntmps112
    go_wp2
    go_ret3
    exact ⟨rfl, rfl⟩
end Go.Proofs.YthebdlkmoailaaaGreatDoor

namespace Go.Proofs.YthebdlkmoailaaaGreatDoor
open Go.RowKit Go.Gr
set_option linter.unusedSimpArgs false
set_option maxRecDepth 100000 in
set_option maxHeartbeats 2000000 in
theorem rdNum_ {w : World} {rb k : Nat} {v : Value} {e : Int} {xs : List UInt8} (h : RdAt w rb v k e) (hr : Ty.bytes.rep w (· = rb) [v] xs) (hk : k ≤ xs.length) :
    Calls Tryz.prog 97 #[.pointer (some ⟨rb, 0, none⟩)] w fun x w' => x = .returned (.int .u64 ((numF xs k e).1 : Int)) ∧ RdAt w' rb v (numF xs k e).2.1 (numF xs k e).2.2 ∧ Turn (· = rb) w w' := by
  obtain ⟨a, c, rfl, _, _, hl⟩ := Ty.slice_val hr
  rw [lim_eq] at hl
  have p0 : w.cell? ⟨rb, 0, none⟩ = some (.slice a xs.length c) := h.cell 0
  have p1 : w.cell? ⟨rb, 1, none⟩ = some (.int .i64 (k : Int)) := h.cell 1
  have p2 : w.cell? ⟨rb, 2, none⟩ = some (.int .i64 e) := h.cell 2
  have f1 : w.frozen? ⟨rb, 1, none⟩ = false := h.frozen 1
  have f2 : w.frozen? ⟨rb, 2, none⟩ = false := h.frozen 2
  have H := Lib.hid h
  have HR := Lib.hid hr
  by_cases he : e = 0
  · subst he
    have HT := Lib.hid (fun (W : World) (hW : Step w W) => Take_ (Ty.step _ hr hW) hk)
    have hn : numF xs k 0 = if (takeB xs k).2.2 ≠ 0 then (0, k, (takeB xs k).2.2) else takeB xs k := by unfold numF; rw [if_neg (by simp)]
    rw [hn]
    clear h hr hn
    obtain ⟨R, hR⟩ : ∃ R, R = takeB xs k := ⟨_, rfl⟩
    rw [← hR] at HT ⊢
    clear hR
    obtain ⟨t1, t2, t3⟩ := R
    simp only at HT ⊢
    obtain ⟨S, hS⟩ : ∃ S : Nat × Nat × Int, S = if t3 ≠ 0 then (0, k, t3) else (t1, t2, t3) := ⟨_, rfl⟩
    rw [← hS]
    by_cases h3 : t3 = 0
    · rw [if_neg (by simp [h3])] at hS
      subst hS h3
      go_enter Tryz.func97, Tryz.ntmps97
      go_wp2
      refine wp_region_held_drew (S := (fun w' => w'.cell? ⟨rb, 0, none⟩ = some (.slice a xs.length c) ∧ w'.cell? ⟨rb, 1, none⟩ = some (.int .i64 (k : Int)) ∧ w'.cell? ⟨rb, 2, none⟩ = some (.int .i64 0))) (by kernel_rfl) ?_ (fun hHeld => ?_)
      · (go_keep)
      refine tkH 0 ?_
      try simp only [Act.put, gtA, gtB, gtC, gtD, gtE, gtF]
      refine tkH 1 ?_
      try simp only [Act.put, gtA, gtB, gtC, gtD, gtE, gtF]
      refine tkH 2 ?_
      try simp only [Act.put, gtA, gtB, gtC, gtD, gtE, gtF]
      refine tkH 3 ?_
      try simp only [Act.put, gtA, gtB, gtC, gtD, gtE, gtF]
      refine tkH 4 ?_
      try simp only [Act.put, gtA, gtB, gtC, gtD, gtE, gtF]
      refine tkH 5 ?_
      try simp only [Act.put, gtA, gtB, gtC, gtD, gtE, gtF]
      refine tkH 6 ?_
      try simp only [Act.put, gtA, gtB, gtC, gtD, gtE, gtF]
      refine tkH 7 ?_
      try simp only [Act.put, gtA, gtB, gtC, gtD, gtE, gtF]
      refine rdH (rs := [8]) (.cons rfl (fun K hK => ?_) .nil)
      try simp only [gtA, gtB, gtC]
      go_simp
      (go_at_call 112; refine (HT.out _ stp).mono ?_; rintro e w1 ⟨rfl, rfl⟩)
      refine hK.out _ _ ?_ (fun hHeld => ?_)
      · (go_keep)
      clear hK K
      try simp only [Act.put, gtA, gtB, gtC, gtD, gtE, gtF]
      refine tkH 9 ?_
      try simp only [Act.put, gtA, gtB, gtC, gtD, gtE, gtF]
      refine tkH 10 ?_
      try simp only [Act.put, gtA, gtB, gtC, gtD, gtE, gtF]
      refine tkH 11 ?_
      try simp only [Act.put, gtA, gtB, gtC, gtD, gtE, gtF]
      refine tkH 12 ?_
      try simp only [Act.put, gtA, gtB, gtC, gtD, gtE, gtF]
      refine tkH 13 ?_
      try simp only [Act.put, gtA, gtB, gtC, gtD, gtE, gtF]
      refine tkH 14 ?_
      try simp only [Act.put, gtA, gtB, gtC, gtD, gtE, gtF]
      refine tkH 15 ?_
      try simp only [Act.put, gtA, gtB, gtC, gtD, gtE, gtF]
      refine wpAnyH_done (by kernel_rfl) ?_ _
      go_wp2
      go_ret
      exact ⟨rfl, CellsAt.set (w := w.drew) H.out 1 _, ((Turn.refl (· = rb) w).setCell (p := ⟨rb, 1, none⟩) (fun _ => rfl) _).drew⟩
    · rw [if_pos h3] at hS
      subst hS
      have h3' : (t3 == 0) = false := beq_eq_false_iff_ne.2 h3
      go_enter Tryz.func97, Tryz.ntmps97
      go_wp2
      refine wp_region_held_drew (S := (fun w' => w'.cell? ⟨rb, 0, none⟩ = some (.slice a xs.length c) ∧ w'.cell? ⟨rb, 1, none⟩ = some (.int .i64 (k : Int)) ∧ w'.cell? ⟨rb, 2, none⟩ = some (.int .i64 0))) (by kernel_rfl) ?_ (fun hHeld => ?_)
      · (go_keep)
      refine tkH 0 ?_
      try simp only [Act.put, gtA, gtB, gtC, gtD, gtE, gtF]
      refine tkH 1 ?_
      try simp only [Act.put, gtA, gtB, gtC, gtD, gtE, gtF]
      refine tkH 2 ?_
      try simp only [Act.put, gtA, gtB, gtC, gtD, gtE, gtF]
      refine tkH 3 ?_
      try simp only [Act.put, gtA, gtB, gtC, gtD, gtE, gtF]
      refine tkH 4 ?_
      try simp only [Act.put, gtA, gtB, gtC, gtD, gtE, gtF]
      refine tkH 5 ?_
      try simp only [Act.put, gtA, gtB, gtC, gtD, gtE, gtF]
      refine tkH 6 ?_
      try simp only [Act.put, gtA, gtB, gtC, gtD, gtE, gtF]
      refine tkH 7 ?_
      try simp only [Act.put, gtA, gtB, gtC, gtD, gtE, gtF]
      refine rdH (rs := [8]) (.cons rfl (fun K hK => ?_) .nil)
      try simp only [gtA, gtB, gtC]
      go_simp
      (go_at_call 112; refine (HT.out _ stp).mono ?_; rintro e w1 ⟨rfl, rfl⟩)
      refine hK.out _ _ ?_ (fun hHeld => ?_)
      · (go_keep)
      clear hK K
      try simp only [Act.put, gtA, gtB, gtC, gtD, gtE, gtF]
      refine tkH 9 ?_
      try simp only [Act.put, gtA, gtB, gtC, gtD, gtE, gtF]
      refine tkH 10 ?_
      try simp only [Act.put, gtA, gtB, gtC, gtD, gtE, gtF]
      refine tkH 11 ?_
      try simp only [Act.put, gtA, gtB, gtC, gtD, gtE, gtF]
      refine tkH 12 ?_
      try simp only [Act.put, gtA, gtB, gtC, gtD, gtE, gtF]
      refine tkH 13 ?_
      try simp only [Act.put, gtA, gtB, gtC, gtD, gtE, gtF]
      refine tkH 14 ?_
      try simp only [Act.put, gtA, gtB, gtC, gtD, gtE, gtF]
      refine tkH 15 ?_
      try simp only [Act.put, gtA, gtB, gtC, gtD, gtE, gtF]
      refine wpAnyH_done (by kernel_rfl) ?_ _
      go_wp2
      go_ret
      exact ⟨rfl, CellsAt.set (w := w.drew) H.out 2 _, ((Turn.refl (· = rb) w).setCell (p := ⟨rb, 2, none⟩) (fun _ => rfl) _).drew⟩
  · have hn : numF xs k e = (0, k, e) := if_pos he
    rw [hn]
    have he' : (e == 0) = false := beq_eq_false_iff_ne.2 he
    clear h hr hn
    go_enter Tryz.func97, Tryz.ntmps97
    go_wp2
    go_ret
    exact ⟨rfl, H.out, Turn.refl _ _⟩
set_option maxRecDepth 100000 in
theorem rdClose_g {w : World} {rb k : Nat} {a : Option Addr} {n c : Nat} {e : Int} (h : RdAt w rb (.slice a n c) k e) (hk : k ≤ n) (hn : n ≤ 68719476736) :
    Calls Tryz.prog 98 #[.pointer (some ⟨rb, 0, none⟩)] w fun x w' => x = .returned (.int .i64 (if e ≠ 0 then e else if k < n then 3 else 0)) ∧ ∃ m, w' = w.drewN m := by
  have p2 : w.cell? ⟨rb, 2, none⟩ = some (.int .i64 e) := h.cell 2
  have H := Lib.hid h
  clear h
  obtain ⟨R, hR⟩ : ∃ R : Int, R = if e ≠ 0 then e else if k < n then 3 else 0 := ⟨_, rfl⟩
  rw [← hR]
  by_cases he : e = 0
  · subst he
    rw [if_neg (by simp)] at hR
    by_cases hlt : k < n
    · rw [if_pos hlt] at hR
      subst hR
      have hpos : decide ((0 : Int) < ((n - k : Nat) : Int)) = true := decide_eq_true (by omega)
      have hpos2 : 0 < n - k := by omega
      have HL := Lib.hid (rdLeft_ H.out hk hn)
      generalize n - k = d at *
      go_enter Tryz.func98, Tryz.ntmps98
      go_wp2_with (go_at_call 113; refine HL.out.mono ?_; rintro e w1 ⟨rfl, m1, rfl⟩)
      go_ret
      exact ⟨rfl, _, rfl⟩
    · rw [if_neg hlt] at hR
      subst hR
      obtain rfl : k = n := by omega
      have HL := Lib.hid (rdLeft_ H.out hk hn)
      rw [Nat.sub_self] at HL
      go_enter Tryz.func98, Tryz.ntmps98
      go_wp2_with (go_at_call 113; refine HL.out.mono ?_; rintro e w1 ⟨rfl, m1, rfl⟩)
      go_ret
      exact ⟨rfl, _, rfl⟩
  · rw [if_pos he] at hR
    subst hR
    have he' : (R == 0) = false := beq_eq_false_iff_ne.2 he
    go_enter Tryz.func98, Tryz.ntmps98
    go_wp2
    go_ret
    exact ⟨rfl, 0, rfl⟩
end Go.Proofs.YthebdlkmoailaaaGreatDoor

namespace Go.Proofs.YthebdlkmoailaaaGreatDoor
open Go.RowKit Go.Gr
open Go.Proofs (encStr)
set_option linter.unusedSimpArgs false
set_option linter.unusedVariables false
theorem beq_strsP (xs ys : List UInt8) : ((⟨xs.toArray⟩ : ByteArray) == ⟨ys.toArray⟩) = decide (xs = ys) := by
  rw [show ((⟨xs.toArray⟩ : ByteArray) == ⟨ys.toArray⟩) = (xs.toArray == ys.toArray) from rfl]
  by_cases h : xs = ys <;> simp [h]
theorem bytesEq_ {w : World} {M M' : Nat → Prop} {u v : Value} {xs ys : List UInt8} (hx : Ty.bytes.rep w M [u] xs) (hy : Ty.bytes.rep w M' [v] ys) :
    Calls Tryz.prog 152 #[u, v] w fun e w' => e = .returned (.bool (decide (xs = ys))) ∧ w' = w := by
  have h1 := conv_str (src := 40) (e := 5) (dst := 9) hx Tryz.underlying40 Tryz.underlying5 Tryz.underlying9
  have h2 := conv_str (src := 40) (e := 5) (dst := 9) hy Tryz.underlying40 Tryz.underlying5 Tryz.underlying9
  obtain ⟨a, c, rfl, _⟩ := Ty.slice_val hx
  obtain ⟨b, d, rfl, _⟩ := Ty.slice_val hy
  have hb : (xs == ys) = decide (xs = ys) := by by_cases h : xs = ys <;> simp [h]
  have HB := Lib.hid hb
  clear hx hy hb
  generalize xs.length = n at *
  generalize ys.length = m at *
  go_enter Tryz.func152, Tryz.ntmps152
  go_wp2
  go_ret
  exact ⟨by rw [← HB.out]; rfl, rfl⟩
theorem rowOf {w : World} {e : TypeId} {k : Nat} {M : Nat → Prop} {u : Value} {x : List UInt8} (hk : k = w.heap.size) (hM : ¬ M k) (hx : Ty.bytes.rep w M [u] x) : (Ty.slice Ty.bytes).rep (w.alloc (.cells #[u] e)) M [.slice (some ⟨k, 0, none⟩) 1 1] [x] := by
  subst hk
  refine Own.rep' (Own.lit (E := Ty.bytes) (e := e) (M := M) (B := 0) (xs := [x]) rfl (by simp [lim]) (Nat.zero_le _) rfl (fun i hi => ?_)) (fun b hb hm => ?_)
  · obtain rfl : i = 0 := by simpa using hi
    exact hx
  · obtain rfl : w.heap.size = b := by simpa [Value.ownBlock] using hb
    exact hM hm
/-- The four bytes of a block. -/
theorem four_rep {w : World} {M : Nat → Prop} {k : Nat} {x : List UInt8} {e : TypeId} (h : CellsAt w k (x.map bv).toArray e) (hl : x.length = 4) (hM : ¬ M k) : Ty.bytes.rep w M [.slice (some ⟨k, 0, none⟩) 4 4] x := by
  refine ⟨some ⟨k, 0, none⟩, 4, by rw [hl], by omega, by simp [maxLen], by simp [hl, lim], fun hp => ⟨k, 0, rfl, h.lt, hM, fun i hi => ⟨[bv x[i]], rfl, fun j u hu => ?_⟩⟩⟩
  have hj : j = 0 := by
    rcases j with _ | j
    · rfl
    · simp at hu
  subst hj
  simp only [List.getElem?_cons_zero, Option.some.injEq] at hu
  subst hu
  have := h.cell i
  rw [show 0 + i * Ty.byte.n + 0 = i by simp [Ty.byte], this]
  simp [hi]
theorem pyCheck1_ {w : World} {M : Nat → Prop} {v : Value} {x : List UInt8} (h : (Ty.slice Ty.bytes).rep w M [v] [x]) :
    Calls Tryz.prog 100 #[v] w fun e w' => (∃ c0 c1 c2 c3 : UInt8, e = .returned (.agg #[bv c0, bv c1, bv c2, bv c3]) ∧ Hid (crcB x = [c0, c1, c2, c3])) ∧ Step w w' := by
  refine (pyCheck_ h).mono ?_
  rintro e w' ⟨rfl, hS⟩
  refine ⟨⟨_, _, _, _, ?_, Lib.hid (by rw [← show [x].flatten = x by simp]; rfl)⟩, hS⟩
  rfl
set_option maxRecDepth 100000 in
set_option maxHeartbeats 2000000 in
theorem pyGood_ {w : World} {M : Nat → Prop} {v : Value} {xs : List UInt8} {n : Nat} (h : Ty.bytes.rep w M [v] xs) (hn : xs.length = n + 4) :
    Calls Tryz.prog 120 #[v] w fun e w' => e = .returned (.bool (decide (crcB (xs.take n) = xs.drop n))) ∧ Step w w' := by
  obtain ⟨a, c, rfl, hcap, _, hl⟩ := Ty.slice_val h
  rw [lim_eq] at hl
  obtain ⟨b, off, u, rfl, hb, _, hu0, hc0⟩ := Ty.slice_at1 rfl h (k := 0) (by omega)
  clear hu0 hc0
  have hs1 := bytes_sub h (lo := 0) (hi := n) (by omega) (by omega)
  have hs2 := bytes_sub h (lo := n) (hi := n + 4) (by omega) (by omega)
  rw [Nat.sub_zero, Nat.add_zero, Nat.sub_zero, List.drop_zero] at hs1
  rw [Nat.add_sub_cancel_left, List.take_of_length_le (by rw [List.length_drop]; omega)] at hs2
  rw [hn] at hcap hl
  have H1 := Lib.hid hs1
  have H2 := Lib.hid hs2
  have hlt : (xs.take n).length = n := by rw [List.length_take]; omega
  have HX1 : Hid ((xs.take n).length = n) := Lib.hid hlt
  rw [hn]
  obtain ⟨X, hX⟩ : ∃ X, X = xs.take n := ⟨_, rfl⟩
  obtain ⟨Y, hY⟩ : ∃ Y, Y = xs.drop n := ⟨_, rfl⟩
  rw [← hX, ← hY]
  rw [← hX] at H1 HX1
  rw [← hY] at H2
  clear h hs1 hs2 hlt hX hY hn
  have hcn : ¬ c = n := by omega
  go_enter Tryz.func120, Tryz.ntmps120
  go_upto_region 5 with (go_at_call 100; refine (pyCheck1_ (rowOf (M := fun _ => False) (by simp) (fun h => h) (Ty.step _ (Ty.less _ H1.out (fun _ _ h => h.elim)) stp))).mono ?_; rintro e w1 ⟨⟨c0, c1, c2, c3, rfl, HC⟩, hS1⟩)
  have hS2 : Step w w1 := by (repeat (first | exact Step.refl _ | refine Step.alloc ?_ _ | refine Step.drew ?_ | refine Step.drewN ?_ _ | refine Step.setCell ?_ (by first | exact Nat.le_refl _ | assumption | omega | (simp; done) | (simp; omega)) _ | assumption | refine Step.trans ?_ (by assumption : Step _ _)))
  refine wp_code (fun wx => CellsAt wx w1.heap.size ([c0, c1, c2, c3].map bv).toArray 163 ∧ Step w wx) ⟨CellsAt.new rfl, by (repeat (first | exact Step.refl _ | refine Step.alloc ?_ _ | refine Step.drew ?_ | refine Step.drewN ?_ _ | refine Step.setCell ?_ (by first | exact Nat.le_refl _ | assumption | omega | (simp; done) | (simp; omega)) _ | assumption | refine Step.trans ?_ (by assumption : Step _ _)))⟩ ?_
  rintro w2 ⟨hg2, hS2'⟩
  have HE1 := Lib.hid (four_rep (M := fun _ => False) hg2 rfl (fun h => h))
  have HE2 : Hid (Ty.bytes.rep w2 (fun _ => False) [Value.slice (some { block := b, off := off + n }) 4 (c - n)] Y) := Lib.hid (Ty.step _ (Ty.less _ H2.out (fun _ _ h => h.elim)) hS2')
  have HE := Lib.hid (fun (W : World) (hW : Step w2 W) => bytesEq_ (Ty.step _ HE1.out hW) (Ty.step _ HE2.out hW))
  clear hg2 hS1 hS2
  rw [← HC.out] at HE
  go_wp2
  go_quiet ((go_at_call 152; exact Calls.quiet_of_same (HE.out _ stp)))
  go_wp2
  go_ret
  exact ⟨rfl, by (repeat (first | exact Step.refl _ | refine Step.alloc ?_ _ | refine Step.drew ?_ | refine Step.drewN ?_ _ | refine Step.setCell ?_ (by first | exact Nat.le_refl _ | assumption | omega | (simp; done) | (simp; omega)) _ | assumption | refine Step.trans ?_ (by assumption : Step _ _)))⟩
set_option maxRecDepth 100000 in
set_option maxHeartbeats 2000000 in
theorem pyPut_ {w0 w : World} {M M' : Nat → Prop} {v dv : Value} {xs ys : List UInt8} (hS : Step w0 w) (hA : Gr.Own Ty.byte 5 w M w0.heap.size v xs) (hB : Ty.bytes.rep w M' [dv] ys) (hlim : xs.length + (cellB ys).length ≤ lim) :
    Calls Tryz.prog 79 #[v, dv] w fun e w' => ∃ v', e = .returned v' ∧ Gr.Own Ty.byte 5 w' M w0.heap.size v' (xs ++ cellB ys) ∧ Step w0 w' := by
  obtain ⟨a, n, c, rfl, HN⟩ := hA.valN
  obtain ⟨da, dc, rfl, _, _, _⟩ := Ty.slice_val hB
  have HA := Lib.hid hA
  have HB := Lib.hid hB
  have HL := Lib.hid hlim
  have HCL := Lib.hid (cellB_len ys)
  clear hA hB hlim
  generalize hyn : ys.length = yn at *
  have HYN := Lib.hid hyn
  clear hyn
  go_enter Tryz.func79, Tryz.ntmps79
  go_upto_region 2 with (go_at_call 100; refine (pyCheck1_ (rowOf (M := fun _ => False) (by simp) (fun h => h) (Ty.step _ (Ty.less _ HB.out (fun _ _ h => h.elim)) stp))).mono ?_; rintro e w1 ⟨⟨c0, c1, c2, c3, rfl, HC⟩, hS1⟩)
  have hS2 : Step w w1 := by (repeat (first | exact Step.refl _ | refine Step.alloc ?_ _ | refine Step.drew ?_ | refine Step.drewN ?_ _ | refine Step.setCell ?_ (by first | exact Nat.le_refl _ | assumption | omega | (simp; done) | (simp; omega)) _ | assumption | refine Step.trans ?_ (by assumption : Step _ _)))
  refine wp_code (fun wx => CellsAt wx w1.heap.size ([c0, c1, c2, c3].map bv).toArray 163 ∧ Step w wx ∧ w1.heap.size < wx.heap.size) ⟨CellsAt.new rfl, by (repeat (first | exact Step.refl _ | refine Step.alloc ?_ _ | refine Step.drew ?_ | refine Step.drewN ?_ _ | refine Step.setCell ?_ (by first | exact Nat.le_refl _ | assumption | omega | (simp; done) | (simp; omega)) _ | assumption | refine Step.trans ?_ (by assumption : Step _ _))), by simp⟩ ?_
  rintro w2 ⟨hg2, hS2', hz2⟩
  have hz1 := hS2.size
  obtain ⟨cb, hcb⟩ : ∃ cb, cb = w1.heap.size := ⟨_, rfl⟩
  rw [← hcb] at hg2 hz2 hz1 ⊢
  have HSR := Lib.hid (Src.flat (M' := fun _ => False) Ty.flat_byte (four_rep (M := fun _ => False) hg2 rfl (fun h => h)))
  have HS2 : Hid (Step w w2) := Lib.hid hS2'
  have HS0 : Hid (Step w0 w2) := Lib.hid (hS.trans hS2')
  have HA2 := Lib.hid (HA.out.step hS2')
  have HB2 := Lib.hid (Src.flat (M' := fun b => M b ∨ (Value.slice a n c).ownBlock = some b) Ty.flat_byte (Ty.step _ HB.out hS2'))
  have HNE : Hid (∀ g, (Value.slice a n c).ownBlock = some g → g < cb) := Lib.hid (fun g hg => by have := (HA.out.lt hg).2; omega)
  have HL1 : Hid (xs.length + ys.length ≤ lim) := Lib.hid (by have := HL.out; have := HCL.out; have := HYN.out; omega)
  have HL2 : Hid ((xs ++ ys).length + [c0, c1, c2, c3].length ≤ lim) := Lib.hid (by have := HL.out; have := HCL.out; have := HYN.out; simp only [List.length_append, List.length_cons, List.length_nil]; omega)
  have HFIN : Hid ((xs ++ ys) ++ [c0, c1, c2, c3] = xs ++ cellB ys) := Lib.hid (by unfold cellB; rw [HC.out, List.append_assoc])
  clear hcb hg2 hS1 hS2 hS2' hz1
  refine wp_region_held_drew (S := (fun _ => True)) (by kernel_rfl) ?_ (fun hHeld => ?_)
  · (trivial)
  refine tkH 0 ?_
  try simp only [Act.put, gtA, gtB, gtC, gtD, gtE, gtF]
  refine tkH 1 ?_
  try simp only [Act.put, gtA, gtB, gtC, gtD, gtE, gtF]
  refine tkH 3 ?_
  try simp only [Act.put, gtA, gtB, gtC, gtD, gtE, gtF]
  refine rdH (rs := [2]) (.cons rfl (fun K hK => ?_) .nil)
  try simp only [gtA, gtB, gtC]
  refine ite_then rfl ?_; refine wp_append_acc (w0 := w0) (ys := ys) (.tmp 9) (.tmp 10) rfl stBytes (HS0.out.trans stp) (Gr.Own.step HA2.out stp) ?_ (HL1.out) (by rfl) (by rfl) ?_; exact Src.drew HB2.out; intro v3 w3 hA3 hB3 hG3 hn3; have HN3 := Lib.hid hn3; have HA3 := Lib.hid hA3; have HG3 := Lib.hid hG3; clear hA3 hG3 hn3
  refine hK.out _ _ ?_ (fun hHeld => ?_)
  · (trivial)
  clear hK K
  try simp only [Act.put, gtA, gtB, gtC, gtD, gtE, gtF]
  refine rdH (rs := [4]) (.cons rfl (fun K hK => ?_) .nil)
  try simp only [gtA, gtB, gtC]
  refine ite_then rfl ?_; refine wp_append_acc (w0 := w0) (ys := [c0, c1, c2, c3]) (.tmp 11) (.tmp 12) rfl stBytes hB3 HA3.out ?_ HL2.out (by rfl) (by rfl) ?_; exact Src.grown (M := fun _ => False) Ty.flat_byte (Src.drew HSR.out) HG3.out (fun A q k e er => by injection e with e1; injection e1 with e1; subst e1; exact absurd (HNE.out _ er) (Nat.lt_irrefl _)); intro v4 w4 hA4 hB4 hG4 hn4
  refine hK.out _ _ ?_ (fun hHeld => ?_)
  · (trivial)
  clear hK K
  try simp only [Act.put, gtA, gtB, gtC, gtD, gtE, gtF]
  refine tkH 5 ?_
  try simp only [Act.put, gtA, gtB, gtC, gtD, gtE, gtF]
  refine wpAnyH_done (by kernel_rfl) ?_ _
  go_wp2
  go_ret
  exact ⟨v4, rfl, by rw [← HFIN.out]; exact hA4, hB4⟩
end Go.Proofs.YthebdlkmoailaaaGreatDoor

namespace Go.Proofs.YthebdlkmoailaaaGreatDoor
open Go.RowKit Go.Gr
set_option linter.unusedSimpArgs false
set_option linter.unusedVariables false
theorem slice_dropP {α : Type} {E : Ty α} {w : World} {M : Nat → Prop} {ys : List α} {b off n c k : Nat} (h1 : E.n = 1) (h : (Ty.slice E).rep w M [.slice (some ⟨b, off, none⟩) n c] ys) (hk : k ≤ ys.length) :
    (Ty.slice E).rep w M [.slice (if c = k then some ⟨b, off, none⟩ else some ⟨b, off + k, none⟩) (n - k) (c - k)] (ys.drop k) := by
  obtain ⟨a', c', hv, g1, g2, g3, hs⟩ := h
  simp only [List.cons.injEq, Value.slice.injEq, and_true] at hv
  obtain ⟨rfl, rfl, rfl⟩ := hv
  have hl : (ys.drop k).length = ys.length - k := List.length_drop
  refine ⟨_, c - k, by rw [hl], by omega, by omega, by omega, fun hn => ?_⟩
  obtain ⟨b', off', ha, hb, hM, hc⟩ := hs (by omega)
  simp only [Option.some.injEq, Addr.mk.injEq, and_true] at ha
  obtain ⟨rfl, rfl⟩ := ha
  refine ⟨b, off + k, by rw [if_neg (by omega)], hb, hM, fun i hi => ?_⟩
  obtain ⟨es, he, hce⟩ := hc (k + i) (by omega)
  refine ⟨es, by rw [List.getElem_drop]; exact he, fun j u hj => ?_⟩
  rw [← hce j u hj, h1]
  congr 2
  omega
set_option maxRecDepth 100000 in
theorem pySealed_ {w : World} {n : Nat} (h : n ≤ 1048576) : Calls Tryz.prog 80 #[.int .i64 (n : Int)] w fun e w' => e = .returned (.int .i64 ((8 + n + (n + 250) / 251 * 4 : Nat) : Int)) ∧ w' = w := by
  have h1 : decide ((n : Int) < 0) = false := decide_eq_false (by omega)
  have h2 : decide ((1048576 : Int) < (n : Int)) = false := decide_eq_false (by omega)
  have h3 : Int.tdiv ((n : Int) + 251 - 1) 251 = (((n + 250) / 251 : Nat) : Int) := by
    rw [Int.tdiv_eq_ediv_of_nonneg (by omega)]
    omega
  go_enter Tryz.func80, Tryz.ntmps80
  go_wp2
  go_ret
  exact ⟨by rw [show ((8 + n + (n + 250) / 251 * 4 : Nat) : Int) = 8 + (n : Int) + ((n : Int) + 250) / 251 * 4 by omega]; rfl, rfl⟩
theorem made_room (c : Nat) (hn : c ≤ 140737488355328) (W : World) : (Instr.makeSlice 40 (.int .i64 0) (.int .i64 (c : Int))).run Tryz.prog W = .ok (.slice (some ⟨W.heap.size, 0, none⟩) 0 c) (W.alloc (.cells (madeCells #[.int .u8 0] c) 5)) := by
  obtain ⟨i, h1, h2, h3, h4⟩ := info_parts (show (Tryz.prog.info? 5).map (fun i => (i.zero, i.size, i.bytes)) = some (some (Value.int .u8 0), 1, 1) by kernel_rfl)
  have := run_make (P := Tryz.prog) W 40 5 i _ Tryz.underlying40 h1 h2 .i64 .i64 0 c (by omega) (by omega) (by rw [h4]; omega) (by omega)
  rw [Int.toNat_natCast, h3, Nat.mul_one] at this
  exact this
theorem room_own {W : World} {M : Nat → Prop} {B k c : Nat} (hk : k = W.heap.size) (hB : B ≤ k) (hc : c ≤ maxLen) : Gr.Own Ty.byte 5 (W.alloc (.cells (madeCells #[.int .u8 0] c) 5)) M B (.slice (some ⟨k, 0, none⟩) 0 c) [] := by
  subst hk
  refine ⟨by simp, [], ⟨by simp, .inr ⟨W.heap.size, c, _, rfl, hB, heap_alloc_new _ _, by simp, hc, ?_, by simp⟩⟩, fun i hi => absurd hi (by simp)⟩
  have := congrArg List.length (toList_madeCells_one (.int .u8 0) c)
  simpa [Ty.byte] using this
set_option maxRecDepth 100000 in
theorem pySeal_big {w : World} {M : Nat → Prop} {v : Value} {xs : List UInt8} (h : Ty.bytes.rep w M [v] xs) (hbig : 1048576 < xs.length) :
    Calls Tryz.prog 50 #[v] w fun e w' => e = .returned (.tuple #[.slice none 0 0, .int .i64 2]) ∧ w' = w := by
  obtain ⟨a, c, rfl, hcap, _, hl⟩ := Ty.slice_val h
  rw [lim_eq] at hl
  clear h
  generalize xs.length = n at *
  go_enter Tryz.func50, Tryz.ntmps50
  go_wp2
  go_ret2
  exact ⟨rfl, rfl⟩
/-- Four bytes of a number, as they are laid. -/
theorem be4_lit {w : World} {e : TypeId} {k n : Nat} (hk : k = w.heap.size) (hn : n ≤ 1048576) : Ty.bytes.rep (w.alloc (.cells #[.int .u8 ((n : Int) / 16777216), .int .u8 ((n : Int) / 65536), .int .u8 ((n : Int) / 256 % 256), .int .u8 ((n : Int) % 256)] e)) (fun _ => False) [.slice (some ⟨k, 0, none⟩) 4 4] (be4 n) := by
  have hb : ∀ n : Nat, Value.int .u8 ((n : Int) % 256) = bv (UInt8.ofNat n) := fun n => by
    show Value.int .u8 ((n : Int) % 256) = Value.int .u8 ((UInt8.ofNat n).toNat : Int)
    rw [UInt8.toNat_ofNat']
    congr 1
  refine four_rep (e := e) ?_ (be4_len n) (fun h => h)
  rw [show ((be4 n).map bv).toArray = #[.int .u8 ((n : Int) / 16777216), .int .u8 ((n : Int) / 65536), .int .u8 ((n : Int) / 256 % 256), .int .u8 ((n : Int) % 256)] by
    unfold be4
    simp only [List.map_cons, List.map_nil]
    rw [← hb, ← hb, ← hb, ← hb]
    have e1 : (n : Int) / 16777216 = ((n / 16777216 : Nat) : Int) % 256 := by omega
    have e2 : (n : Int) / 65536 = ((n / 65536 : Nat) : Int) % 256 := by omega
    rw [e1, e2]
    rfl]
  exact CellsAt.new hk
def _root_.Go.Gr.slen : Value → Nat
  | .slice _ n _ => n
  | _ => 0
set_option maxRecDepth 100000 in
set_option maxHeartbeats 2000000 in
theorem pySeal_ {w : World} {M : Nat → Prop} {v : Value} {xs : List UInt8} (h : Ty.bytes.rep w M [v] xs) (hbig : xs.length ≤ 1048576) :
    Calls Tryz.prog 50 #[v] w fun e w' => ∃ v', e = .returned (.tuple #[v', .int .i64 0]) ∧ Gr.Own Ty.byte 5 w' (· < w.heap.size) w.heap.size v' (sealB xs) ∧ Step w w' := by
  obtain ⟨a, c, rfl, hcap, _, hl⟩ := Ty.slice_val h
  clear hl
  have H := Lib.hid h
  clear h
  have hmk := made_room (8 + xs.length + (xs.length + 250) / 251 * 4) (by omega)
  have hroom := Lib.hid (fun (W : World) (hS : Step w W) => room_own (W := W) (M := (· < w.heap.size)) (k := W.heap.size) (c := 8 + xs.length + (xs.length + 250) / 251 * 4) rfl hS.size (by simp [maxLen]; omega))
  have hsl := sealB_len xs
  have HSL := Lib.hid hsl
  have HN : Hid (∃ N, xs.length = N ∧ N ≤ 1048576) := Lib.hid ⟨_, rfl, hbig⟩
  clear hsl
  generalize hL : 8 + xs.length + (xs.length + 250) / 251 * 4 = L at *
  have hLl : L ≤ 2097152 := by omega
  have HSE := Lib.hid (fun (W : World) => pySealed_ (w := W) hbig)
  rw [hL] at HSE
  clear hL
  go_enter Tryz.func50, Tryz.ntmps50
  go_wp2_with (first
    | (go_at_call 80; refine (HSE.out _).mono ?_; rintro e w1 ⟨rfl, hw1⟩; subst w1)
    | (go_at_call 79; refine (pyPut_ (w0 := w) (ys := be4 xs.length) stp (Gr.Own.step (hroom.out _ stp) stp) (be4_lit (by simp) hbig) (by rw [cellB_len, be4_len]; simp [lim_eq])).mono ?_; rintro e w2 ⟨v2, rfl, hA2, hS2⟩; obtain ⟨a2, n2, c2, rfl, HN2⟩ := hA2.valN; have HA2 := Lib.hid hA2; clear hA2))
  go_loopw [0, 5] (fun bv0 ov w' => ∃ (A : Option Addr) (C : Nat) (rest done : List UInt8), bv0 = .slice A rest.length C ∧ rest.length ≤ xs.length ∧ rest.length ≤ C ∧ Hid (Ty.bytes.rep w M [.slice A rest.length C] rest) ∧ Hid (sealB xs = done ++ cellsB rest) ∧ Gr.Own Ty.byte 5 w' (· < w.heap.size) w.heap.size ov done ∧ Step w w') (fun bv0 _ _ => Gr.slen bv0)
  case atStart => exact ⟨a, c, xs, _, rfl, Nat.le_refl _, hcap, Lib.hid H.out, Lib.hid (by rw [List.nil_append]; rfl), HA2.out, hS2⟩
  case round =>
    obtain ⟨A, C, rest, dn, rfl, hrl, hrc, HRe, HSe, hA, hS⟩ := hrel
    have HA := Lib.hid hA
    have HS := Lib.hid hS
    clear hA hS
    obtain ⟨ua, un, uc, rfl, HUN⟩ := HA.out.valN
    by_cases h0 : rest = []
    · subst h0
      have hfin : Hid (sealB xs = dn) := Lib.hid (by rw [HSe.out, cellsB_nil, List.append_nil])
      clear HSe HRe hrl hrc
      simp only [List.length_nil]
      go_wp2
      go_ret2
      exact ⟨_, rfl, by rw [hfin.out]; exact HA.out, HS.out⟩
    · have hpos : 0 < rest.length := List.length_pos_iff.2 h0
      obtain ⟨b1, o1, u1, rfl, hb1, _, hu1, hc1⟩ := Ty.slice_at1 rfl (Ty.step _ HRe.out HS.out) hpos
      clear hu1 hc1
      obtain ⟨m, hm⟩ : ∃ m, m = min 251 rest.length := ⟨_, rfl⟩
      have htk := Lib.hid (Ty.slice_take HRe.out (k := m) (by omega))
      have hdp := Lib.hid (slice_dropP rfl HRe.out (k := m) (by omega))
      have hdl : Hid ((rest.drop m).length = rest.length - m) := Lib.hid List.length_drop
      have HSe2 : Hid (sealB xs = (dn ++ cellB (rest.take m)) ++ cellsB (rest.drop m)) := Lib.hid (by
        rw [HSe.out, cellsB_cons h0, List.append_assoc]
        by_cases h : rest.length ≤ 251
        · rw [show m = rest.length by omega, List.take_of_length_le (Nat.le_refl _), List.take_of_length_le h, List.drop_of_length_le (Nat.le_refl _), List.drop_of_length_le h]
        · rw [show m = 251 by omega])
      have hlim2 : Hid (dn.length + (cellB (rest.take m)).length ≤ lim) := Lib.hid (by
        have h1 := congrArg List.length HSe2.out
        rw [List.length_append, List.length_append, HSL.out] at h1
        rw [lim_eq]
        omega)
      clear HSe h0
      generalize hR : rest.length = R at *
      clear hR
      have hmR : m ≤ R := by omega
      have hm0 : 0 < m := by omega
      have hmC : m ≤ C := by omega
      have hite : (if (R : Int) < 251 then (R : Int) else 251) = (m : Int) := by split <;> omega
      clear hm
      go_upto_region 7 with fail
      try rw [hite]
      clear hite
      by_cases hcm : C = m
      · rw [if_pos hcm] at hdp
        subst C
        refine wp_region_held_drew (S := (fun _ => True)) (by kernel_rfl) ?_ (fun hHeld => ?_)
        · (trivial)
        refine tkH 0 ?_
        try simp only [Act.put, gtA, gtB, gtC, gtD, gtE, gtF]
        refine tkH 1 ?_
        try simp only [Act.put, gtA, gtB, gtC, gtD, gtE, gtF]
        refine tkH 2 ?_
        try simp only [Act.put, gtA, gtB, gtC, gtD, gtE, gtF]
        refine tkH 3 ?_
        try simp only [Act.put, gtA, gtB, gtC, gtD, gtE, gtF]
        refine tkH 5 ?_
        try simp only [Act.put, gtA, gtB, gtC, gtD, gtE, gtF]
        refine tkH 6 ?_
        try simp only [Act.put, gtA, gtB, gtC, gtD, gtE, gtF]
        refine tkH 7 ?_
        try simp only [Act.put, gtA, gtB, gtC, gtD, gtE, gtF]
        refine rdH (rs := [4]) (.cons rfl (fun K hK => ?_) .nil)
        try simp only [gtA, gtB, gtC]
        go_simp
        (go_at_call 79; refine (pyPut_ (w0 := w) (ys := rest.take m) (HS.out.trans stp) (Gr.Own.step HA.out stp) (Ty.step _ htk.out (HS.out.trans stp)) hlim2.out).mono ?_; rintro e w3 ⟨v3, rfl, hA3, hS3⟩; obtain ⟨a3, n3, c3, rfl, HN3⟩ := hA3.valN; have HA3 := Lib.hid hA3; have HS3 := Lib.hid hS3; clear hA3 hS3)
        refine hK.out _ _ ?_ (fun hHeld => ?_)
        · (trivial)
        clear hK K
        try simp only [Act.put, gtA, gtB, gtC, gtD, gtE, gtF]
        refine tkH 8 ?_
        try simp only [Act.put, gtA, gtB, gtC, gtD, gtE, gtF]
        refine tkH 9 ?_
        try simp only [Act.put, gtA, gtB, gtC, gtD, gtE, gtF]
        refine wpAnyH_done (by kernel_rfl) ?_ _
        have hdp' := hdp.out
        rw [← hdl.out] at hdp'
        go_wp2
        go_roundw
        case rel => exact ⟨_, _, rest.drop m, _, by (rw [hdl.out]) <;> first | rfl | (congr 1 <;> omega), by rw [hdl.out]; omega, by rw [hdl.out]; omega, Lib.hid hdp', HSe2, HA3.out, HS3.out⟩
        case measure => simp [Gr.slen]; omega

      · rw [if_neg hcm] at hdp
        refine wp_region_held_drew (S := (fun _ => True)) (by kernel_rfl) ?_ (fun hHeld => ?_)
        · (trivial)
        refine tkH 0 ?_
        try simp only [Act.put, gtA, gtB, gtC, gtD, gtE, gtF]
        refine tkH 1 ?_
        try simp only [Act.put, gtA, gtB, gtC, gtD, gtE, gtF]
        refine tkH 2 ?_
        try simp only [Act.put, gtA, gtB, gtC, gtD, gtE, gtF]
        refine tkH 3 ?_
        try simp only [Act.put, gtA, gtB, gtC, gtD, gtE, gtF]
        refine tkH 5 ?_
        try simp only [Act.put, gtA, gtB, gtC, gtD, gtE, gtF]
        refine tkH 6 ?_
        try simp only [Act.put, gtA, gtB, gtC, gtD, gtE, gtF]
        refine tkH 7 ?_
        try simp only [Act.put, gtA, gtB, gtC, gtD, gtE, gtF]
        refine rdH (rs := [4]) (.cons rfl (fun K hK => ?_) .nil)
        try simp only [gtA, gtB, gtC]
        go_simp
        (go_at_call 79; refine (pyPut_ (w0 := w) (ys := rest.take m) (HS.out.trans stp) (Gr.Own.step HA.out stp) (Ty.step _ htk.out (HS.out.trans stp)) hlim2.out).mono ?_; rintro e w3 ⟨v3, rfl, hA3, hS3⟩; obtain ⟨a3, n3, c3, rfl, HN3⟩ := hA3.valN; have HA3 := Lib.hid hA3; have HS3 := Lib.hid hS3; clear hA3 hS3)
        refine hK.out _ _ ?_ (fun hHeld => ?_)
        · (trivial)
        clear hK K
        try simp only [Act.put, gtA, gtB, gtC, gtD, gtE, gtF]
        refine tkH 8 ?_
        try simp only [Act.put, gtA, gtB, gtC, gtD, gtE, gtF]
        refine tkH 9 ?_
        try simp only [Act.put, gtA, gtB, gtC, gtD, gtE, gtF]
        refine wpAnyH_done (by kernel_rfl) ?_ _
        have hdp' := hdp.out
        rw [← hdl.out] at hdp'
        go_wp2
        go_roundw
        case rel => exact ⟨_, _, rest.drop m, _, by (rw [hdl.out]) <;> first | rfl | (congr 1 <;> omega), by rw [hdl.out]; omega, by rw [hdl.out]; omega, Lib.hid hdp', HSe2, HA3.out, HS3.out⟩
        case measure => simp [Gr.slen]; omega

end Go.Proofs.YthebdlkmoailaaaGreatDoor

namespace Go.Proofs.YthebdlkmoailaaaGreatDoor
open Go.RowKit Go.Gr
set_option linter.unusedSimpArgs false
set_option linter.unusedVariables false
theorem nil_bytes {w : World} {M : Nat → Prop} : Ty.bytes.rep w M [.slice none 0 0] [] := ⟨none, 0, rfl, Nat.le_refl _, Nat.zero_le _, by simp, fun h => absurd h (by simp)⟩
set_option maxRecDepth 100000 in
set_option maxHeartbeats 2000000 in
theorem pyTake_ {w : World} {M : Nat → Prop} {v : Value} {xs : List UInt8} {k n : Nat} (h : Ty.bytes.rep w M [v] xs) (hk : k ≤ xs.length) (hn : n ≤ 1000) (hn0 : 0 < n) :
    Calls Tryz.prog 102 #[v, .int .i64 (k : Int), .int .i64 (n : Int)] w fun e w' => ∃ v', e = .returned (.tuple #[v', .int .i64 (takeC xs k n).2]) ∧ Ty.bytes.rep w' M [v'] (takeC xs k n).1 ∧ Step w w' := by
  obtain ⟨a, c, rfl, hcap, _, hl⟩ := Ty.slice_val h
  rw [lim_eq] at hl
  by_cases hs : xs.length < k + n + 4
  · have hT : takeC xs k n = ([], 5) := if_pos hs
    rw [hT]
    clear h hT
    generalize xs.length = N at *
    have ht : decide ((N : Int) - (k : Int) < (n : Int) + 4) = true := decide_eq_true (by omega)
    go_enter Tryz.func102, Tryz.ntmps102
    go_wp2
    go_ret2
    exact ⟨_, rfl, nil_bytes, Step.refl _⟩
  · have hT : takeC xs k n = if crcB ((xs.drop k).take n) = (xs.drop (k + n)).take 4 then ((xs.drop k).take n, 0) else ([], 4) := if_neg hs
    rw [hT]
    obtain ⟨b, off, u, rfl, hb, _, hu0, hc0⟩ := Ty.slice_at1 rfl h (k := 0) (by omega)
    clear hu0 hc0 hT
    have hs1 := bytes_sub h (lo := k) (hi := k + n + 4) (by omega) (by omega)
    have hs2 := bytes_sub h (lo := k) (hi := k + n) (by omega) (by omega)
    rw [show k + n + 4 - k = n + 4 by omega] at hs1
    rw [show k + n - k = n by omega] at hs2
    have hG := Lib.hid (pyGood_ (n := n) hs1 (by rw [List.length_take, List.length_drop]; omega))
    have e1 : ((xs.drop k).take (n + 4)).take n = (xs.drop k).take n := by rw [List.take_take, Nat.min_eq_left (by omega)]
    have e2 : ((xs.drop k).take (n + 4)).drop n = (xs.drop (k + n)).take 4 := by rw [List.drop_take, List.drop_drop, Nat.add_sub_cancel_left]
    rw [e1, e2] at hG
    have H2 := Lib.hid hs2
    have hlen : k + n + 4 ≤ xs.length := by omega
    generalize (xs.drop k).take n = X at *
    generalize (xs.drop (k + n)).take 4 = Y at *
    clear hs1 hs2 e1 e2 h hs
    generalize xs.length = N at *
    have ht : decide ((N : Int) - (k : Int) < (n : Int) + 4) = false := decide_eq_false (by omega)
    have g1 : ((k : Int) + (n : Int) + 4).toNat = k + n + 4 := by omega
    have g2 : ((k : Int) + (n : Int)).toNat = k + n := by omega
    have g3 : ¬ c = k := by omega
    have g4 : k + n + 4 - k = n + 4 := by omega
    have g5 : k + n - k = n := by omega
    by_cases hc : crcB X = Y
    · rw [if_pos hc]
      rw [decide_eq_true hc] at hG
      clear hc
      go_enter Tryz.func102, Tryz.ntmps102
      go_wp2_with (go_at_call 120; refine hG.out.mono ?_; rintro e w1 ⟨rfl, hS1⟩)
      go_ret2
      exact ⟨_, rfl, Ty.step _ H2.out hS1, hS1⟩
    · rw [if_neg hc]
      rw [decide_eq_false hc] at hG
      clear hc
      go_enter Tryz.func102, Tryz.ntmps102
      go_wp2_with (go_at_call 120; refine hG.out.mono ?_; rintro e w1 ⟨rfl, hS1⟩)
      go_ret2
      exact ⟨_, rfl, nil_bytes, hS1⟩
theorem or_byte64 {n : Nat} {c : UInt8} (h : n * 256 < 9223372036854775808) : bits .or .i64 ((n * 256 : Nat) : Int) (c.toNat : Int) = ((n * 256 + c.toNat : Nat) : Int) := by
  have hc : c.toNat < 256 := c.toNat_lt
  show IntKind.i64.wrap (((BitVec.ofInt 64 ((n * 256 : Nat) : Int)) ||| (BitVec.ofInt 64 (c.toNat : Int))).toNat : Int) = _
  have h1 : (BitVec.ofInt 64 ((n * 256 : Nat) : Int)).toNat = n * 256 := by
    rw [BitVec.ofInt_natCast, BitVec.toNat_ofNat]; exact Nat.mod_eq_of_lt (by omega)
  have h2 : (BitVec.ofInt 64 (c.toNat : Int)).toNat = c.toNat := by
    rw [BitVec.ofInt_natCast, BitVec.toNat_ofNat]; exact Nat.mod_eq_of_lt (by omega)
  have h3 : n * 256 ||| c.toNat = n * 256 + c.toNat := by
    have := Nat.shiftLeft_add_eq_or_of_lt (b := c.toNat) (i := 8) (by omega) n
    rw [Nat.shiftLeft_eq] at this
    exact this.symm
  rw [BitVec.toNat_or, h1, h2, h3, IntKind.wrap_i64]
  omega
set_option maxRecDepth 100000 in
set_option maxHeartbeats 4000000 in
theorem pyOpen_ {w : World} {M : Nat → Prop} {v : Value} {xs : List UInt8} {k : Nat} (h : Ty.bytes.rep w M [v] xs) (hk : k ≤ xs.length) :
    Calls Tryz.prog 82 #[v, .int .i64 (k : Int)] w fun e w' => ∃ v', e = .returned (.tuple #[v', .int .i64 ((openO xs k).2.1 : Int), .int .i64 (openO xs k).2.2]) ∧ Gr.Own Ty.byte 5 w' (· < w.heap.size) w.heap.size v' (openO xs k).1 ∧ Step w w' := by
  obtain ⟨a, c, rfl, hcap, _, hl⟩ := Ty.slice_val h
  rw [lim_eq] at hl
  have H := Lib.hid h
  have HT4 := Lib.hid (fun (W : World) (hW : Step w W) => pyTake_ (n := 4) (Ty.step _ h hW) hk (by omega) (by omega))
  have t0 : decide ((k : Int) < 0) = false := decide_eq_false (by omega)
  have t1 : decide ((xs.length : Int) < (k : Int)) = false := decide_eq_false (by omega)
  obtain ⟨R, hR⟩ : ∃ R, R = openO xs k := ⟨_, rfl⟩
  rw [← hR]
  have HR := Lib.hid hR
  clear h hR
  have hok := @takeC_ok xs k 4
  by_cases he : (takeC xs k 4).2 = 0
  · obtain ⟨hk4, hT1⟩ := hok he
    have hHL : (takeC xs k 4).1.length = 4 := by rw [hT1, List.length_take, List.length_drop]; omega
    have hRo : R = if 1048576 < beN (takeC xs k 4).1 then ([], 0, 2) else partsO xs (beN (takeC xs k 4).1) (k + 8) [] := by rw [HR.out]; unfold openO; rw [if_neg (by simp [he])]
    clear hok hT1 HR
    rw [he] at HT4
    clear he
    generalize (takeC xs k 4).1 = hd at *
    have HRO := Lib.hid hRo
    clear hRo
    have HHL := Lib.hid hHL
    have HB4 : Hid (beN hd < 4294967296) := Lib.hid (by have := beN_lt hd; rw [hHL] at this; simpa using this)
    clear hHL
    go_enter Tryz.func82, Tryz.ntmps82
    go_wp2_with (go_at_call 102; refine (HT4.out _ (Step.refl _)).mono ?_; rintro e w1 ⟨v1, rfl, hv1, hS1⟩; obtain ⟨va, vc, hvv, _, _, _⟩ := Ty.slice_val hv1; rw [HHL.out] at hvv; subst hvv; have HV1 := Lib.hid hv1; have HS1 := Lib.hid hS1; clear hv1 hS1)
    go_loopw [9, 35] (fun nv iv w' => ∃ j : Nat, nv = .int .i64 (beN (hd.take j) : Int) ∧ iv = .int .i64 (j : Int) ∧ j ≤ 4 ∧ w' = w1) (fun _ iv _ => 4 - (Go.RowKit.intOf iv).toNat)
    case atStart => exact ⟨0, by simp [beN], rfl, by omega, rfl⟩
    case round =>
      obtain ⟨j, rfl, rfl, hj, rfl⟩ := hrel
      by_cases hjl : j < 4
      · obtain ⟨b2, o2, u2, rfl, hb2, _, hu2, hc2⟩ := Ty.slice_at1 rfl HV1.out (k := j) (by have := HHL.out; omega)
        have hu2' : [u2] = [Value.int .u8 ((hd[j]'(by have := HHL.out; omega)).toNat : Int)] := hu2
        obtain rfl := (List.cons.inj hu2').1
        have htk : Hid (hd.take (j + 1) = hd.take j ++ [hd[j]'(by have := HHL.out; omega)]) := Lib.hid (List.take_succ_eq_append_getElem (by have := HHL.out; omega))
        have hlt8 : beN (hd.take j) < 256 ^ 3 := by
          have h1 := beN_lt (hd.take j)
          have h2 : (hd.take j).length ≤ 3 := by rw [List.length_take]; omega
          exact Nat.lt_of_lt_of_le h1 (Nat.pow_le_pow_right (by omega) h2)
        have hor := or_byte64 (n := beN (hd.take j)) (c := hd[j]'(by have := HHL.out; omega)) (by omega)
        have hsn : Hid (beN (hd.take (j + 1)) = beN (hd.take j) * 256 + (hd[j]'(by have := HHL.out; omega)).toNat) := Lib.hid (by rw [htk.out, beN_snoc])
        clear hu2 hu2' htk
        generalize beN (hd.take j) = m at *
        generalize hm2 : beN (hd.take (j + 1)) = m2 at *
        have HM2 := Lib.hid hm2
        clear hm2
        generalize hd[j]'(by have := HHL.out; omega) = cj at *
        have hcj : cj.toNat < 256 := cj.toNat_lt
        go_wp2
        go_roundw
        case rel =>
          refine ⟨j + 1, ?_, by go_num, by omega, trivial⟩
          rw [HM2.out, hsn.out, ← hor]
          congr 2
          all_goals first | omega | (simp; omega) | simp
        case measure => simp [Go.RowKit.intOf]; omega
      · have hj4 : j = 4 := by omega
        have hje : Hid (hd.take j = hd) := Lib.hid (List.take_of_length_le (by have := HHL.out; omega))
        rw [hje.out]
        clear hje
        obtain ⟨L, hL⟩ : ∃ L, L = beN hd := ⟨_, rfl⟩
        rw [← hL] at HRO HB4 ⊢
        clear hL
        have hL4 : L < 4294967296 := HB4.out
        by_cases hbig : 1048576 < L
        · have hRR : Hid (R = ([], 0, 2)) := Lib.hid (by rw [HRO.out, if_pos hbig])
          go_wp2
          go_ret3
          rw [hRR.out]
          exact ⟨_, rfl, Gr.Own.nil, HS1.out⟩
        · have hRR : Hid (R = partsO xs L (k + 8) []) := Lib.hid (by rw [HRO.out, if_neg hbig])
          clear HRO
          have hLs : L ≤ 1048576 := by omega
          go_wp2
          have hKst : k + 8 ≤ xs.length := by omega
          clear HT4 HHL t0 t1 hk4 hj hjl hj4 HV1 hbig HB4
          obtain ⟨wo, hwo⟩ : ∃ x, x = wr := ⟨_, rfl⟩
          subst hwo
          go_loopw [1, 9, 12] (fun kv nv ov w' => ∃ (K left : Nat) (out : List UInt8), kv = .int .i64 (K : Int) ∧ nv = .int .i64 (left : Int) ∧ Gr.Own Ty.byte 5 w' (· < w.heap.size) w.heap.size ov out ∧ Step w w' ∧ K ≤ xs.length ∧ out.length + left ≤ 1048576 ∧ Hid (R = partsO xs left K out)) (fun _ nv _ _ => (Go.RowKit.intOf nv).toNat)
          case atStart => exact ⟨k + 8, L, [], by simp, rfl, Gr.Own.nil, HS1.out, hKst, by simpa using hLs, hRR⟩
          case round =>
            obtain ⟨K, left, out, rfl, rfl, hA, hS, hK, hol, hP⟩ := hrel
            have HA := Lib.hid hA
            have HS := Lib.hid hS
            clear hA hS
            obtain ⟨oa, on, oc, rfl, HON⟩ := HA.out.valN
            by_cases h0 : left = 0
            · subst h0
              have hfin : Hid (R = (out, K, 0)) := Lib.hid (by rw [hP.out, partsO_zero])
              clear hP hRR
              go_wp2
              go_ret3
              rw [hfin.out]
              exact ⟨_, rfl, HA.out, HS.out⟩
            · have hpos : 0 < left := by omega
              obtain ⟨m, hm⟩ : ∃ m, m = min 251 left := ⟨_, rfl⟩
              have hm1 : m ≤ left := by omega
              have hm0 : 0 < m := by omega
              have hite : (if (left : Int) < 251 then (left : Int) else 251) = (m : Int) := by split <;> omega
              have HTK := Lib.hid (fun (W : World) (hW : Step w W) => pyTake_ (k := K) (n := m) (Ty.step _ H.out hW) hK (by omega) hm0)
              by_cases he : (takeC xs K m).2 = 0
              · have hgo : Hid (R = partsO xs (left - m) (K + m + 4) (out ++ (takeC xs K m).1)) := Lib.hid (by rw [hP.out, partsO_go h0 (by rw [← hm]; exact he), ← hm])
                obtain ⟨hk5, hT5⟩ := takeC_ok he
                have hPL : (takeC xs K m).1.length = m := by rw [hT5, List.length_take, List.length_drop]; omega
                clear hT5 hP hRR hm h0
                rw [he] at HTK
                clear he
                generalize (takeC xs K m).1 = P at *
                have HPL := Lib.hid hPL
                clear hPL
                go_wp2_with (first
                  | (go_at_call 102; refine (HTK.out _ (HS.out.trans stp)).mono ?_; rintro e w3 ⟨v3, rfl, hv3, hS3⟩; obtain ⟨va3, vc3, hvv3, _, _, _⟩ := Ty.slice_val hv3; rw [HPL.out] at hvv3; subst hvv3; have HV3 := Lib.hid hv3; have HA3 := Lib.hid (HA.out.step hS3); have HS3 := Lib.hid (HS.out.trans hS3); clear hv3 hS3)
                  | (at_builtin; refine wpList_append_acc (w0 := w) (ys := P) rfl (.tmp 63) (.tmp 64) rfl stBytes HS3.out HA3.out (Src.flat Ty.flat_byte HV3.out) (by have := HPL.out; rw [lim_eq]; omega) (by rfl) (by rfl) ?_; intro v4 w4 hA4 hB4 hG4 hn4; obtain ⟨a4, n4, c4, rfl, HN4⟩ := hA4.valN; have HA4 := Lib.hid hA4; clear hA4))
                go_roundw
                case rel => exact ⟨K + m + 4, left - m, out ++ P, by go_num, by go_num, HA4.out, hB4, by omega, by rw [List.length_append, HPL.out]; omega, hgo⟩
                case measure => simp [Go.RowKit.intOf]; omega
              · have hend : Hid (R = ([], 0, (takeC xs K m).2)) := Lib.hid (by rw [hP.out, partsO_bad h0 (by rw [← hm]; exact he), ← hm])
                have he' : ((takeC xs K m).2 == 0) = false := beq_eq_false_iff_ne.2 he
                clear hP hRR hm h0 he
                generalize (takeC xs K m).2 = E at *
                go_wp2_with (go_at_call 102; refine (HTK.out _ (HS.out.trans stp)).mono ?_; rintro e w3 ⟨v3, rfl, hv3, hS3⟩; obtain ⟨va3, vc3, hvv3, _, _, _⟩ := Ty.slice_val hv3; generalize (takeC xs K m).1.length = q3 at *; subst hvv3; clear hv3)
                go_ret3
                rw [hend.out]
                exact ⟨_, rfl, Gr.Own.nil, HS.out.trans hS3⟩
  · have hRE : Hid (R = ([], 0, (takeC xs k 4).2)) := Lib.hid (by rw [HR.out]; unfold openO; rw [if_pos he])
    have he' : ((takeC xs k 4).2 == 0) = false := beq_eq_false_iff_ne.2 he
    clear HR hok he
    generalize (takeC xs k 4).2 = E at *
    go_enter Tryz.func82, Tryz.ntmps82
    go_wp2_with (go_at_call 102; refine (HT4.out _ (Step.refl _)).mono ?_; rintro e w3 ⟨v3, rfl, hv3, hS3⟩; obtain ⟨va3, vc3, hvv3, _, _, _⟩ := Ty.slice_val hv3; generalize (takeC xs k 4).1.length = q3 at *; subst hvv3; clear hv3)
    go_ret3
    rw [hRE.out]
    exact ⟨_, rfl, Gr.Own.nil, hS3⟩
end Go.Proofs.YthebdlkmoailaaaGreatDoor

namespace Go.Gr
open Go.RowKit
/-- A row of bytes that has its block for itself; which block that is stands in the datum. -/
def tGB (e : TypeId) : Ty (List UInt8 × Option Nat) where
  n := 1
  rep := fun w M cs x => ∃ v, cs = [v] ∧ BR e w v x.1 ∧ v.ownBlock = x.2 ∧ ∀ b, x.2 = some b → ¬ M b
  len := fun ⟨_, h, _⟩ => by rw [h]; rfl
  one := fun ⟨_, h, hb, _⟩ u hu => by rw [h] at hu; simp at hu; subst hu; exact hb.one
  keep := @fun w w' M M' cs x ⟨v, h, hb, ho, hM⟩ hk => ⟨v, h, hb.kept (fun g hg => (hk g (hb.lt hg) (hM g (ho ▸ hg))).1), ho, fun b hx => (hk b (hb.lt (ho.trans hx)) (hM b hx)).2⟩
theorem tGB_bytes {e : TypeId} {w : World} {M : Nat → Prop} {cs : List Value} {x : List UInt8 × Option Nat} (h : (tGB e).rep w M cs x) : Ty.bytes.rep w M cs x.1 := by
  obtain ⟨v, rfl, hb, ho, hM⟩ := h
  exact hb.rep fun b h1 => hM b (ho ▸ h1)
theorem slice_mapE {α β : Type} {E : Ty α} {E' : Ty β} {w : World} {M : Nat → Prop} {v : Value} {xs : List α} (f : α → β) (hn : E.n = E'.n) (hf : ∀ {cs : List Value} {x : α}, E.rep w M cs x → E'.rep w M cs (f x)) (h : (Ty.slice E).rep w M [v] xs) : (Ty.slice E').rep w M [v] (xs.map f) := by
  obtain ⟨a, c, hv, h1, h2, h3, h4⟩ := h
  refine ⟨a, c, by rw [List.length_map]; exact hv, by rw [List.length_map]; exact h1, h2, by rw [List.length_map]; exact h3, fun hp => ?_⟩
  rw [List.length_map] at hp
  obtain ⟨b, off, ha, hb, hM, hc⟩ := h4 hp
  refine ⟨b, off, ha, hb, hM, fun i hi => ?_⟩
  rw [List.length_map] at hi
  obtain ⟨es, he, hce⟩ := hc i hi
  exact ⟨es, by rw [List.getElem_map]; exact hf he, by rw [← hn]; exact hce⟩
/-- No two of them have a block in common. -/
def ApartD (ds : List (List UInt8 × Option Nat)) : Prop := ds.Pairwise fun x y => ∀ b, x.2 = some b → y.2 ≠ some b
end Go.Gr
namespace Go.Proofs.YthebdlkmoailaaaGreatDoor
open Go.RowKit Go.Gr
set_option linter.unusedSimpArgs false
set_option linter.unusedVariables false
theorem stRowsB : SliceTy Tryz.prog 30 40 (tGB 5).n := .mk' (z := .slice none 0 0) (by_ := 24) Tryz.underlying30 (by kernel_rfl) rfl (by decide) (by omega)
set_option maxRecDepth 100000 in
set_option maxHeartbeats 4000000 in
theorem pyOpenAll_ {w : World} {M : Nat → Prop} {v : Value} {xs : List UInt8} (h : Ty.bytes.rep w M [v] xs) :
    Calls Tryz.prog 53 #[v] w fun e w' => ∃ v' ds, e = .returned (.tuple #[v', .int .i64 ((allO xs 0 []).2 : Int)]) ∧ Gr.Own (tGB 5) 40 w' (· < w.heap.size) w.heap.size v' ds ∧ Step w w' ∧ Hid (ds.map Prod.fst = (allO xs 0 []).1) ∧ ApartD ds := by
  obtain ⟨a, c, rfl, hcap, _, hl⟩ := Ty.slice_val h
  rw [lim_eq] at hl
  have H := Lib.hid h
  obtain ⟨R, hR⟩ : ∃ R, R = allO xs 0 [] := ⟨_, rfl⟩
  rw [← hR]
  have HR := Lib.hid hR
  clear h hR
  go_enter Tryz.func53, Tryz.ntmps53
  go_wp2
  go_loopw [4, 5] (fun ov kv w' => ∃ (ds : List (List UInt8 × Option Nat)) (K : Nat), kv = .int .i64 (K : Int) ∧ K ≤ xs.length ∧ ds.length ≤ K ∧ Gr.Own (tGB 5) 40 w' (· < w.heap.size) w.heap.size ov ds ∧ Step w w' ∧ Hid (R = allO xs K (ds.map Prod.fst)) ∧ Hid (ApartD ds) ∧ Hid (∀ d ∈ ds, ∀ b, d.2 = some b → b < w'.heap.size)) (fun _ kv _ => xs.length - (Go.RowKit.intOf kv).toNat)
  case atStart => exact ⟨[], 0, rfl, Nat.zero_le _, Nat.zero_le _, Gr.Own.nil, Step.refl _, HR, Lib.hid List.Pairwise.nil, Lib.hid (fun d hd => absurd hd (by simp))⟩
  case round =>
    obtain ⟨ds, K, rfl, hK, hdK, hA, hS, hP, hAp, hB⟩ := hrel
    have HA := Lib.hid hA
    have HS := Lib.hid hS
    clear hA hS
    obtain ⟨oa, on, oc, rfl, HON⟩ := HA.out.valN
    have HO := Lib.hid (fun (W : World) (hW : Step w W) => pyOpen_ (k := K) (Ty.step _ H.out hW) hK)
    by_cases he : (openO xs K).2.2 = 0
    · have hok := openO_ok he
      have hgo : Hid (R = allO xs (openO xs K).2.1 (ds.map Prod.fst ++ [(openO xs K).1])) := Lib.hid (by rw [hP.out, allO_go he])
      rw [he] at HO
      clear hP he
      generalize (openO xs K).2.1 = K2 at *
      generalize (openO xs K).1 = P at *
      obtain ⟨hok1, hok2, hok3, hok4⟩ := hok
      go_wp2_with (first
        | (go_at_call 82; refine (HO.out _ (HS.out.trans stp)).mono ?_; rintro e w3 ⟨v3, rfl, hA3, hS3⟩; obtain ⟨a3, n3, c3, rfl, HN3⟩ := hA3.valN; have HOB := Lib.hid (fun g (hg : (Value.slice a3 n3 c3).ownBlock = some g) => hA3.lt hg); have HBR := Lib.hid (BR.of hA3); have HA3 := Lib.hid (HA.out.step hS3); have HSW := Lib.hid hS3; have HS3 := Lib.hid (HS.out.trans hS3); clear hA3 hS3)
        | (at_builtin; (refine wpList_append_acc (w0 := w) (ys := [(P, (Value.slice a3 n3 c3).ownBlock)]) rfl (.tmp 20) (.tmp 22) rfl stRowsB (HS3.out.trans stp) (Gr.Own.step HA3.out stp) ?_ (by rw [lim_eq]; simp; omega) (by rfl) (by rfl) ?_; refine Src.oneAt (by simp) ⟨_, rfl, HBR.out, rfl, fun b hb hm => ?_⟩; rcases hm with hm | hm; exact absurd (HOB.out b hb).1 (by have := HS.out.size; omega); exact absurd (HOB.out b hb).1 (by have := (HA.out.lt hm).2; omega); intro v4 w4 hA4 hB4 hG4 hn4; obtain ⟨a4, n4, c4, rfl, HN4⟩ := hA4.valN; have HA4 := Lib.hid hA4; clear hA4)))
      have hAp2 : Hid (ApartD (ds ++ [(P, (Value.slice a3 n3 c3).ownBlock)])) := Lib.hid (by
        refine List.pairwise_append.2 ⟨hAp.out, List.pairwise_singleton _ _, fun x hx y hy b hb hb' => ?_⟩
        obtain rfl : y = _ := by simpa using hy
        have h1 := hB.out x hx b hb
        have h2 := (HOB.out b hb').1
        omega)
      have hB2 : Hid (∀ d ∈ ds ++ [(P, (Value.slice a3 n3 c3).ownBlock)], ∀ b, d.2 = some b → b < w4.heap.size) := Lib.hid (by
        intro d hd b hb
        have h4 : w3.heap.size ≤ w4.heap.size := by have := hG4.size; simp at this; omega
        rcases List.mem_append.1 hd with hd | hd
        · have h1 := hB.out d hd b hb
          have h2 := HSW.out.size
          omega
        · obtain rfl : d = _ := by simpa using hd
          have := (HOB.out b hb).2
          omega)
      go_roundw
      case rel => exact ⟨_, K2, rfl, hok2, by rw [List.length_append, List.length_singleton]; omega, HA4.out, hB4, by rw [List.map_append]; exact hgo, hAp2, hB2⟩
      case measure => simp [Go.RowKit.intOf]; omega
    · have hend : Hid (R = (ds.map Prod.fst, K)) := Lib.hid (by rw [hP.out, allO_end he])
      have he' : ((openO xs K).2.2 == 0) = false := beq_eq_false_iff_ne.2 he
      clear hP he HR
      generalize (openO xs K).2.2 = E at *
      generalize (openO xs K).2.1 = K2 at *
      generalize (openO xs K).1 = P at *
      go_wp2_with (go_at_call 82; refine (HO.out _ (HS.out.trans stp)).mono ?_; rintro e w3 ⟨v3, rfl, hA3, hS3⟩; obtain ⟨a3, n3, c3, rfl, HN3⟩ := hA3.valN; have HA3 := Lib.hid (HA.out.step hS3); have HS3 := Lib.hid (HS.out.trans hS3); clear hA3 hS3)
      go_ret2
      rw [hend.out]
      exact ⟨_, ds, rfl, HA3.out, HS3.out, Lib.hid rfl, hAp.out⟩
end Go.Proofs.YthebdlkmoailaaaGreatDoor

namespace Go.Proofs.YthebdlkmoailaaaGreatDoor
open Go.RowKit Go.Gr
open Go.Proofs (encStr)
set_option linter.unusedSimpArgs false
set_option linter.unusedVariables false
/-- A number below 100 in decimal. -/
def decS (n : Nat) : List UInt8 := if n < 10 then [UInt8.ofNat (48 + n)] else [UInt8.ofNat (48 + n / 10), UInt8.ofNat (48 + n % 10)]
set_option maxRecDepth 100000 in
theorem small_ {w : World} {n : Nat} (h : n < 100) : Calls Tryz.prog 116 #[.int .i64 (n : Int)] w fun e w' => e = .returned (encStr (decS n)) ∧ w' = w := by
  by_cases h10 : n < 10
  · go_enter Tryz.func116, Tryz.ntmps116
    go_wp2
    go_ret
    refine ⟨congrArg _ (congrArg Value.string (ByteArray.ext ?_ : _ = (⟨(decS n).toArray⟩ : ByteArray))), rfl⟩
    rename_i q1 q2 q3 q4
    clear q4 q3 q2 q1
    revert n
    decide
  · go_enter Tryz.func116, Tryz.ntmps116
    go_wp2
    go_ret
    refine ⟨congrArg _ (congrArg Value.string (ByteArray.ext ?_ : _ = (⟨(decS n).toArray⟩ : ByteArray))), rfl⟩
    rename_i q1
    clear q1
    revert n
    decide
set_option maxRecDepth 100000 in
theorem ifmtUint_ {w : World} {n : Nat} (h : n < 100) : Calls Tryz.prog 101 #[.int .u64 (n : Int), .int .i64 10] w fun e w' => e = .returned (encStr (decS n)) ∧ w' = w := by
  have HS := Lib.hid (fun (W : World) => small_ (w := W) h)
  go_enter Tryz.func101, Tryz.ntmps101
  go_wp2_with (go_at_call 116; refine (HS.out _).mono ?_; rintro e w1 ⟨rfl, hw1⟩; subst w1)
  go_ret
  exact ⟨rfl, rfl⟩
theorem fmtUint_ {w : World} {n : Nat} (h : n < 100) : Calls Tryz.prog 81 #[.int .u64 (n : Int), .int .i64 10] w fun e w' => e = .returned (encStr (decS n)) ∧ w' = w := by
  have HS := Lib.hid (fun (W : World) => ifmtUint_ (w := W) h)
  go_enter Tryz.func81, Tryz.ntmps81
  go_wp2_with (go_at_call 101; refine (HS.out _).mono ?_; rintro e w1 ⟨rfl, hw1⟩; subst w1)
  go_ret
  exact ⟨rfl, rfl⟩
/-- A journal's cells. -/
abbrev lgC (d : Nat) (pre : List UInt8) (most : Int) (fv : Value) (closed : Bool) : Array Value := #[.pointer (some ⟨d, 0, none⟩), encStr pre, .int .i64 most, fv, .bool closed]
abbrev LgAt (w : World) (l d : Nat) (pre : List UInt8) (most : Int) (fv : Value) (closed : Bool) : Prop := CellsAt w l (lgC d pre most fv closed) 64
theorem encStr_append (a b : List UInt8) : (⟨a.toArray⟩ : ByteArray) ++ (⟨b.toArray⟩ : ByteArray) = ⟨(a ++ b).toArray⟩ := by
  apply ByteArray.ext
  simp
/-- The name of the file of a serial. -/
def nameB (pre : List UInt8) (n : Nat) : List UInt8 := pre ++ decS n
set_option maxRecDepth 100000 in
theorem jName_ {w : World} {l d n : Nat} {pre : List UInt8} {most : Int} {fv : Value} {closed : Bool} (h : LgAt w l d pre most fv closed) (hn : n < 100) (hp : pre.length ≤ 1000) :
    Calls Tryz.prog 51 #[.pointer (some ⟨l, 0, none⟩), .int .u64 (n : Int)] w fun e w' => e = .returned (encStr (nameB pre n)) ∧ ∃ m, w' = w.drewN m := by
  have c1 : w.cell? ⟨l, 1, none⟩ = some (.string ⟨pre.toArray⟩) := h.cell 1
  have HF : Hid (∀ W : World, Calls Tryz.prog 81 #[.int .u64 (n : Int), .int .i64 10] W fun e w' => e = .returned (.string ⟨(decS n).toArray⟩) ∧ w' = W) := Lib.hid (fun (W : World) => fmtUint_ (w := W) hn)
  clear h
  have hd : (decS n).length ≤ 2 := by unfold decS; split <;> simp
  have hj : (pre.length : Int) + ((decS n).length : Int) ≤ 9223372036854775807 := by omega
  have hj2 : pre.length + (decS n).length ≤ 9223372036854775807 := by omega
  go_enter Tryz.func51, Tryz.ntmps51
  go_wp2
  go_quiet ((go_at_call 81; exact Calls.quiet_of_same (HF.out _)))
  go_wp2
  go_ret
  refine ⟨?_, _, rfl⟩
  exact congrArg (fun s => Ending.returned (Value.string s)) (encStr_append pre (decS n))
theorem nums2_lit {w : World} {e : TypeId} {k a b : Nat} (hk : k = w.heap.size) (ha : a < 18446744073709551616) (hb : b < 18446744073709551616) : (Ty.slice Ty.u64).rep (w.alloc (.cells #[.int .u64 (a : Int), .int .u64 (b : Int)] e)) (fun _ => False) [.slice (some ⟨k, 0, none⟩) 2 2] [a, b] := by
  subst hk
  refine Own.rep' (Own.lit (E := Ty.u64) (e := e) (M := fun _ => False) (B := 0) (xs := [a, b]) rfl (by simp [lim]) (Nat.zero_le _) rfl (fun i hi => ?_)) (fun _ _ h => h)
  have : i = 0 ∨ i = 1 := by simp at hi; omega
  rcases this with rfl | rfl
  · exact ⟨rfl, ha⟩
  · exact ⟨rfl, hb⟩
/-- A file's head. -/
def headB (serial first : Nat) : List UInt8 := sealB (numsB [serial, first])
theorem numsB2_len {a b : Nat} (ha : a < 18446744073709551616) (hb : b < 18446744073709551616) : (numsB [a, b]).length ≤ 18 := by
  have := numsB_len (xs := [a, b]) (fun x hx => by simp at hx; rcases hx with rfl | rfl <;> assumption)
  simpa using this
set_option maxRecDepth 100000 in
theorem jHead_ {w : World} {a b : Nat} (ha : a < 18446744073709551616) (hb : b < 18446744073709551616) :
    Calls Tryz.prog 49 #[.int .u64 (a : Int), .int .u64 (b : Int)] w fun e w' => ∃ v', e = .returned (.tuple #[v', .int .i64 0]) ∧ Gr.Own Ty.byte 5 w' (· < w.heap.size) w.heap.size v' (headB a b) ∧ Step w w' := by
  have hl := numsB2_len ha hb
  go_enter Tryz.func49, Tryz.ntmps49
  go_wp2_with (first
    | (go_at_call 78; refine (Number_ _ _ _ [a, b] (nums2_lit (by simp) ha hb) (by simp)).mono ?_; rintro e w1 ⟨v1, rfl, hA1, hS1⟩; obtain ⟨a1, n1, c1, rfl, HN1⟩ := hA1.valN; have HB1 := Lib.hid (Gr.Own.rep' hA1 (fun b hb hm => by have := (hA1.lt hb).1; omega)); have HS1 : Hid (Step w w1) := Lib.hid stp; clear hA1 hS1)
    | (go_at_call 50; refine (pySeal_ HB1.out (Nat.le_trans hl (by omega))).mono ?_; rintro e w2 ⟨v2, rfl, hA2, hS2⟩; obtain ⟨a2, n2, c2, rfl, HN2⟩ := hA2.valN; have HA2 := Lib.hid hA2; clear hA2))
  go_ret2
  refine ⟨_, rfl, ?_, HS1.out.trans hS2⟩
  exact Gr.Own.base (Gr.Own.flat Ty.flat_byte HA2.out) HS1.out.size
end Go.Proofs.YthebdlkmoailaaaGreatDoor
