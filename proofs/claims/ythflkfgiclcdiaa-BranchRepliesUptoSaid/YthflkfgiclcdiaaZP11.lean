/-
  Walk: Take, at whatever bytes.
  Walks: a reader of bytes (Num, Close, Text) at whatever bytes.
  Walk: Reader.Text at whatever bytes.
  Walks: Split and number (branch) at whatever bytes.
  Walks: number (branch); a record's reader: next, truth.
-/
import Derived.Test.YthflkfgiclcdiaaZP8
import Derived.Test.YthflkfgiclcdiaaZP10
import Derived.Test.YthflkfgiclcdiaaZP3
namespace Go.Proofs.Ythflkfgiclcdiaa
open Go.RowKit Go.Gr
set_option linter.unusedSimpArgs false
theorem or_byte {n : Nat} {c : UInt8} (h : n * 256 < 18446744073709551616) : bits .or .u64 ((n * 256 : Nat) : Int) (c.toNat : Int) = ((n * 256 + c.toNat : Nat) : Int) := by
  have hc : c.toNat < 256 := c.toNat_lt
  show IntKind.u64.wrap (((BitVec.ofInt 64 ((n * 256 : Nat) : Int)) ||| (BitVec.ofInt 64 (c.toNat : Int))).toNat : Int) = _
  have h1 : (BitVec.ofInt 64 ((n * 256 : Nat) : Int)).toNat = n * 256 := by
    rw [BitVec.ofInt_natCast, BitVec.toNat_ofNat]; exact Nat.mod_eq_of_lt (by omega)
  have h2 : (BitVec.ofInt 64 (c.toNat : Int)).toNat = c.toNat := by
    rw [BitVec.ofInt_natCast, BitVec.toNat_ofNat]; exact Nat.mod_eq_of_lt (by omega)
  have h3 : n * 256 ||| c.toNat = n * 256 + c.toNat := by
    have := Nat.shiftLeft_add_eq_or_of_lt (b := c.toNat) (i := 8) (by omega) n
    rw [Nat.shiftLeft_eq] at this
    exact this.symm
  rw [BitVec.toNat_or, h1, h2, h3, IntKind.wrap_u64]
  omega
set_option maxRecDepth 100000 in
set_option maxHeartbeats 2000000 in
theorem Take_ {w : World} {M : Nat → Prop} {a : Option Addr} {n c k : Nat} {xs : List UInt8} (h : Ty.bytes.rep w M [.slice a n c] xs) (hk : k ≤ xs.length) :
    Calls Try.prog 108 #[.slice a n c, .int .i64 (k : Int)] w fun e w' => e = .returned (.tuple #[.int .u64 ((takeB xs k).1 : Int), .int .i64 ((takeB xs k).2.1 : Int), .int .i64 (takeB xs k).2.2]) ∧ w' = w := by
  obtain rfl : n = xs.length := by obtain ⟨_, _, hv, _⟩ := Ty.slice_val h; injection hv
  have hl := Ty.slice_le h
  rw [lim_eq] at hl
  have hcap : xs.length ≤ c := by obtain ⟨a', c', hv, h1, _⟩ := Ty.slice_val h; injection hv; omega
  have t0 : decide ((k : Int) < 0) = false := decide_eq_false (by omega)
  have t1 : decide ((xs.length : Int) < (k : Int)) = false := decide_eq_false (by omega)
  by_cases hlt : k < xs.length
  · by_cases hs : xs[k].toNat ≤ 247
    · have hT : takeB xs k = (xs[k].toNat, k + 1, 0) := by
        unfold takeB
        rw [if_pos hlt, List.getElem?_eq_getElem hlt]
        simp only [Option.getD_some]
        rw [if_pos hs]
      rw [hT]
      exact Take_small h hlt hs
    · obtain ⟨b, off, u, rfl, hbb, _, hu, hc⟩ := Ty.slice_at1 rfl h hlt
      have hu' : [u] = [Value.int .u8 (xs[k].toNat : Int)] := hu
      obtain rfl := (List.cons.inj hu').1
      have hx8 : xs[k].toNat < 256 := xs[k].toNat_lt
      have t2 : ((k : Int) == (xs.length : Int)) = false := beq_eq_false_iff_ne.2 (by omega)
      obtain ⟨K, hK⟩ : ∃ K, xs[k].toNat = 247 + K := ⟨xs[k].toNat - 247, by omega⟩
      have hK8' : K ≤ 8 := by omega
      rw [hK] at hc
      by_cases hend : xs.length - k - 1 < K
      · have hT : takeB xs k = (0, 0, 5) := by
          unfold takeB
          rw [if_pos hlt, List.getElem?_eq_getElem hlt]
          simp only [Option.getD_some]
          rw [if_neg hs, if_pos (by omega)]
        rw [hT]
        have t4 : decide ((xs.length : Int) - (k : Int) - 1 < (K : Int)) = true := decide_eq_true (by omega)
        clear hu hu' h hT hs hx8 hK
        generalize xs.length = N at *
        go_enter Try.func108, Try.ntmps108
        go_wp2
        go_ret3
        exact ⟨rfl, rfl⟩
      · have hsub := bytes_sub h (lo := k + 1) (hi := k + 1 + K) (by omega) (by omega)
        rw [show k + 1 + K - (k + 1) = K by omega] at hsub
        have hsl : ((xs.drop (k + 1)).take K).length = K := by rw [List.length_take, List.length_drop]; omega
        have hT : takeB xs k = if beN ((xs.drop (k + 1)).take K) ≤ 247 ∨ (xs[k + 1]?.getD 0).toNat = 0 then (0, 0, 3) else (beN ((xs.drop (k + 1)).take K), k + 1 + K, 0) := by
          unfold takeB
          rw [if_pos hlt, List.getElem?_eq_getElem hlt]
          simp only [Option.getD_some]
          rw [if_neg hs, if_neg (by omega), hK, Nat.add_sub_cancel_left]
        have hk1 : k + 1 < xs.length := by omega
        obtain ⟨b', off', u1, hab', _, _, hu1, hc1⟩ := Ty.slice_at1 rfl h hk1
        obtain ⟨rfl, rfl⟩ : b = b' ∧ off = off' := by simpa using hab'
        obtain rfl : u1 = bv xs[k + 1] := by simpa [Ty.byte] using hu1
        rw [List.getElem?_eq_getElem hk1] at hT
        simp only [Option.getD_some] at hT
        rw [hT]
        have HSUB := Lib.hid hsub
        have hseg : Hid (∀ j (hj : j < K), ((xs.drop (k + 1)).take K).length = K) := Lib.hid (fun _ _ => hsl)
        obtain ⟨seg, hsg⟩ : ∃ seg, seg = (xs.drop (k + 1)).take K := ⟨_, rfl⟩
        rw [← hsg] at HSUB hsl ⊢
        obtain ⟨R, hR⟩ : ∃ R : Nat × Nat × Int, R = if beN seg ≤ 247 ∨ xs[k + 1].toNat = 0 then (0, 0, 3) else (beN seg, k + 1 + K, 0) := ⟨_, rfl⟩
        rw [← hR]
        have hK1 : 1 ≤ K := by omega
        generalize xs[k + 1] = c1 at *
        have HR := Lib.hid hR
        clear hR
        clear hu hu' h hT hs hx8 hK hsub hseg hsg hu1 hab'
        generalize xs.length = N at *
        have t4 : decide ((N : Int) - (k : Int) - 1 < (K : Int)) = false := decide_eq_false (by omega)
        have hwr : IntKind.i64.wrap ((k : Int) + 1 + (K : Int)) = (k : Int) + 1 + (K : Int) := by rw [IntKind.wrap_i64]; omega
        have e1 : (0 : Int) ≤ (k : Int) + 1 + (K : Int) := by omega
        have e2 : (k : Int) + 1 + (K : Int) ≤ (c : Int) := by omega
        have e3 : (0 : Int) ≤ (k : Int) + 1 := by omega
        have e4 : (k : Int) + 1 ≤ max ((k : Int) + 1 + (K : Int)) 0 := by omega
        have e6 : (k : Int) + 1 ≤ (k : Int) + 1 + (K : Int) := by omega
        have e5 : ((k : Int) + 1 + (K : Int)).toNat = k + 1 + K := by omega
        have e7 : ¬ c = k + 1 := by omega
        have q4 : decide (N < k) = false := decide_eq_false (by omega)
        have q5 : decide (N = k) = false := decide_eq_false (by omega)
        go_enter Try.func108, Try.ntmps108
        go_wp2
        go_loopw [9, 53] (fun m i w' => ∃ j : Nat, i = .int .i64 j ∧ j ≤ K ∧ m = .int .u64 (beN (seg.take j) : Int) ∧ w' = w) (fun _ i _ => K - (Go.RowKit.intOf i).toNat)
        case atStart => exact ⟨0, rfl, by omega, by simp [beN], rfl⟩
        case round =>
          obtain ⟨j, rfl, hj, rfl, rfl⟩ := hrel
          by_cases hjl : j < K
          · obtain ⟨b2, o2, u2, hab2, _, _, hu2, hc2⟩ := Ty.slice_at1 rfl HSUB.out (k := j) (by omega)
            obtain ⟨rfl, rfl⟩ : b = b2 ∧ off + (k + 1) = o2 := by simpa using hab2
            obtain rfl : u2 = bv (seg[j]'(by omega)) := by simpa [Ty.byte] using hu2
            have htk : Hid (seg.take (j + 1) = seg.take j ++ [seg[j]'(by omega)]) := Lib.hid (List.take_succ_eq_append_getElem (by omega))
            have hlt8 : beN (seg.take j) < 256 ^ 7 := by
              have h1 := beN_lt (seg.take j)
              have h2 : (seg.take j).length ≤ 7 := by rw [List.length_take]; omega
              exact Nat.lt_of_lt_of_le h1 (Nat.pow_le_pow_right (by omega) h2)
            have hor := or_byte (n := beN (seg.take j)) (c := seg[j]'(by omega)) (by omega)
            have hsn : beN (seg.take (j + 1)) = beN (seg.take j) * 256 + (seg[j]'(by omega)).toNat := by rw [htk.out, beN_snoc]
            clear hu2
            generalize beN (seg.take j) = m at *
            generalize hm2 : beN (seg.take (j + 1)) = m2 at *
            generalize seg[j]'(by omega) = cj at *
            go_wp2
            go_roundw
            case rel =>
              refine ⟨j + 1, by go_num, by omega, ?_, trivial⟩
              have hw : IntKind.u64.wrap (cj.toNat : Int) = (cj.toNat : Int) := by
                rw [IntKind.wrap_u64]
                have := cj.toNat_lt
                omega
              have hcast : (m : Int) * 256 = ((m * 256 : Nat) : Int) := by omega
              rw [hw, hm2, hsn, hcast, hor]
            case measure => simp [Go.RowKit.intOf]; omega
          · obtain rfl : j = K := by omega
            rw [List.take_of_length_le (by omega)]
            have HR2 := HR.out
            generalize beN seg = V at *
            have hV0 : decide ((V : Int) ≤ 247) = decide (V ≤ 247) := by
              by_cases hq : V ≤ 247
              · rw [decide_eq_true hq, decide_eq_true (by omega)]
              · rw [decide_eq_false hq, decide_eq_false (by omega)]
            by_cases hv : V ≤ 247
            · rw [if_pos (Or.inl hv)] at HR2
              subst HR2
              have hv1 : decide ((V : Int) ≤ 247) = true := decide_eq_true (by omega)
              go_wp2
              go_ret3
              exact ⟨rfl, rfl⟩
            · have hv1 : decide ((V : Int) ≤ 247) = false := decide_eq_false (by omega)
              by_cases hz : c1.toNat = 0
              · rw [if_pos (Or.inr hz)] at HR2
                subst HR2
                have hz1 : ((c1.toNat : Int) == 0) = true := beq_iff_eq.2 (by omega)
                go_wp2
                go_ret3
                exact ⟨rfl, rfl⟩
              · rw [if_neg (by omega)] at HR2
                subst HR2
                have hz1 : ((c1.toNat : Int) == 0) = false := beq_eq_false_iff_ne.2 (by omega)
                go_wp2
                go_ret3
                have hcs : (k : Int) + 1 + (247 + (j : Int) - 247) = ((k + 1 + j : Nat) : Int) := by omega
                refine ⟨?_, rfl⟩
                show Ending.returned (Value.tuple #[.int .u64 (V : Int), .int .i64 ((k : Int) + 1 + (247 + (j : Int) - 247)), .int .i64 0]) = Ending.returned (Value.tuple #[.int .u64 (V : Int), .int .i64 ((k + 1 + j : Nat) : Int), .int .i64 0])
                rw [hcs]
  · have hT : takeB xs k = (0, 0, 5) := if_neg hlt
    rw [hT]
    obtain rfl : k = xs.length := by omega
    clear h hT
    generalize xs.length = N at *
    go_enter Try.func108, Try.ntmps108
    go_wp2
    go_ret3
    exact ⟨rfl, rfl⟩
end Go.Proofs.Ythflkfgiclcdiaa

namespace Go.Proofs.Ythflkfgiclcdiaa
open Go.RowKit Go.Gr
set_option linter.unusedSimpArgs false
set_option maxRecDepth 100000 in
set_option maxHeartbeats 2000000 in
theorem rdNum_ {w : World} {rb k : Nat} {v : Value} {e : Int} {xs : List UInt8} (h : RdAt w rb v k e) (hr : Ty.bytes.rep w (· = rb) [v] xs) (hk : k ≤ xs.length) :
    Calls Try.prog 105 #[.pointer (some ⟨rb, 0, none⟩)] w fun x w' => x = .returned (.int .u64 ((numF xs k e).1 : Int)) ∧ RdAt w' rb v (numF xs k e).2.1 (numF xs k e).2.2 ∧ Turn (· = rb) w w' := by
  obtain ⟨a, c, rfl, _, _, hl⟩ := Ty.slice_val hr
  rw [lim_eq] at hl
  have p0 : w.cell? ⟨rb, 0, none⟩ = some (.slice a xs.length c) := h.cell 0
  have p1 : w.cell? ⟨rb, 1, none⟩ = some (.int .i64 (k : Int)) := h.cell 1
  have p2 : w.cell? ⟨rb, 2, none⟩ = some (.int .i64 e) := h.cell 2
  have f1 : w.frozen? ⟨rb, 1, none⟩ = false := h.frozen 1
  have f2 : w.frozen? ⟨rb, 2, none⟩ = false := h.frozen 2
  have H := Lib.hid h
  have HR := Lib.hid hr
  by_cases he : e = 0
  · subst he
    have HT := Lib.hid (fun (W : World) (hW : Step w W) => Take_ (Ty.step _ hr hW) hk)
    have hn : numF xs k 0 = if (takeB xs k).2.2 ≠ 0 then (0, k, (takeB xs k).2.2) else takeB xs k := by unfold numF; rw [if_neg (by simp)]
    rw [hn]
    clear h hr hn
    obtain ⟨R, hR⟩ : ∃ R, R = takeB xs k := ⟨_, rfl⟩
    rw [← hR] at HT ⊢
    clear hR
    obtain ⟨t1, t2, t3⟩ := R
    simp only at HT ⊢
    obtain ⟨S, hS⟩ : ∃ S : Nat × Nat × Int, S = if t3 ≠ 0 then (0, k, t3) else (t1, t2, t3) := ⟨_, rfl⟩
    rw [← hS]
    by_cases h3 : t3 = 0
    · rw [if_neg (by simp [h3])] at hS
      subst hS h3
      go_enter Try.func105, Try.ntmps105
      go_wp2
      refine wp_region_held_drew (S := (fun w' => w'.cell? ⟨rb, 0, none⟩ = some (.slice a xs.length c) ∧ w'.cell? ⟨rb, 1, none⟩ = some (.int .i64 (k : Int)) ∧ w'.cell? ⟨rb, 2, none⟩ = some (.int .i64 0))) (by kernel_rfl) ?_ (fun hHeld => ?_)
      · (go_keep)
      refine wpAnyH_take (i := 0) (v := ?_) rfl (by kernel_rfl) (by kernel_rfl) (by kernel_rfl) (fun _ _ _ h => h) (Or.inl ⟨by rfl, ?_⟩) (by assumption) ?_
      rotate_left 1
      · (intro w hSw; (try dsimp only at hSw); go_simp; (try with_reducible rfl))
      try simp only [Act.put, List.getElem_toArray, List.getElem_cons_succ, List.getElem_cons_zero, List.setIfInBounds_toArray, List.set_cons_zero, List.set_cons_succ]
      refine wpAnyH_take (i := 1) (v := ?_) rfl (by kernel_rfl) (by kernel_rfl) (by kernel_rfl) (fun _ _ _ h => h) (Or.inl ⟨by rfl, ?_⟩) (by assumption) ?_
      rotate_left 1
      · (intro w hSw; (try dsimp only at hSw); go_simp; (try with_reducible rfl))
      try simp only [Act.put, List.getElem_toArray, List.getElem_cons_succ, List.getElem_cons_zero, List.setIfInBounds_toArray, List.set_cons_zero, List.set_cons_succ]
      refine wpAnyH_take (i := 2) (v := ?_) rfl (by kernel_rfl) (by kernel_rfl) (by kernel_rfl) (fun _ _ _ h => h) (Or.inl ⟨by rfl, ?_⟩) (by assumption) ?_
      rotate_left 1
      · (intro w hSw; (try dsimp only at hSw); go_simp; (try with_reducible rfl))
      try simp only [Act.put, List.getElem_toArray, List.getElem_cons_succ, List.getElem_cons_zero, List.setIfInBounds_toArray, List.set_cons_zero, List.set_cons_succ]
      refine wpAnyH_take (i := 3) (v := ?_) rfl (by kernel_rfl) (by kernel_rfl) (by kernel_rfl) (fun _ _ _ h => h) (Or.inl ⟨by rfl, ?_⟩) (by assumption) ?_
      rotate_left 1
      · (intro w hSw; (try dsimp only at hSw); go_simp; (try with_reducible rfl))
      try simp only [Act.put, List.getElem_toArray, List.getElem_cons_succ, List.getElem_cons_zero, List.setIfInBounds_toArray, List.set_cons_zero, List.set_cons_succ]
      refine wpAnyH_take (i := 4) (v := ?_) rfl (by kernel_rfl) (by kernel_rfl) (by kernel_rfl) (fun _ _ _ h => h) (Or.inl ⟨by rfl, ?_⟩) (by assumption) ?_
      rotate_left 1
      · (intro w hSw; (try dsimp only at hSw); go_simp; (try with_reducible rfl))
      try simp only [Act.put, List.getElem_toArray, List.getElem_cons_succ, List.getElem_cons_zero, List.setIfInBounds_toArray, List.set_cons_zero, List.set_cons_succ]
      refine wpAnyH_take (i := 5) (v := ?_) rfl (by kernel_rfl) (by kernel_rfl) (by kernel_rfl) (fun _ _ _ h => h) (Or.inl ⟨by rfl, ?_⟩) (by assumption) ?_
      rotate_left 1
      · (intro w hSw; (try dsimp only at hSw); go_simp; (try with_reducible rfl))
      try simp only [Act.put, List.getElem_toArray, List.getElem_cons_succ, List.getElem_cons_zero, List.setIfInBounds_toArray, List.set_cons_zero, List.set_cons_succ]
      refine wpAnyH_take (i := 6) (v := ?_) rfl (by kernel_rfl) (by kernel_rfl) (by kernel_rfl) (fun _ _ _ h => h) (Or.inl ⟨by rfl, ?_⟩) (by assumption) ?_
      rotate_left 1
      · (intro w hSw; (try dsimp only at hSw); go_simp; (try with_reducible rfl))
      try simp only [Act.put, List.getElem_toArray, List.getElem_cons_succ, List.getElem_cons_zero, List.setIfInBounds_toArray, List.set_cons_zero, List.set_cons_succ]
      refine wpAnyH_take (i := 7) (v := ?_) rfl (by kernel_rfl) (by kernel_rfl) (by kernel_rfl) (fun _ _ _ h => h) (Or.inl ⟨by rfl, ?_⟩) (by assumption) ?_
      rotate_left 1
      · (intro w hSw; (try dsimp only at hSw); go_simp; (try with_reducible rfl))
      try simp only [Act.put, List.getElem_toArray, List.getElem_cons_succ, List.getElem_cons_zero, List.setIfInBounds_toArray, List.set_cons_zero, List.set_cons_succ]
      refine wpAnyH_ready (rs := [8]) (by kernel_rfl) (by simp) ?_
      refine AllReadyH.cons rfl (fun K hK => ?_) AllReadyH.nil
      try simp only [List.getElem_toArray, List.getElem_cons_succ, List.getElem_cons_zero]
      go_simp
      (go_at_call 108; refine (HT.out _ (by (repeat (first | exact Step.refl _ | refine Step.alloc ?_ _ | refine Step.drew ?_ | refine Step.drewN ?_ _ | refine Step.setCell ?_ (by first | exact Nat.le_refl _ | assumption | omega | (simp; done) | (simp; omega)) _ | assumption | refine Step.trans ?_ (by assumption : Step _ _))))).mono ?_; rintro e w1 ⟨rfl, rfl⟩)
      refine hK.out _ _ ?_ (fun hHeld => ?_)
      · (go_keep)
      clear hK K
      try simp only [Act.put, List.getElem_toArray, List.getElem_cons_succ, List.getElem_cons_zero, List.setIfInBounds_toArray, List.set_cons_zero, List.set_cons_succ]
      refine wpAnyH_take (i := 9) (v := ?_) rfl (by kernel_rfl) (by kernel_rfl) (by kernel_rfl) (fun _ _ _ h => h) (Or.inl ⟨by rfl, ?_⟩) (by assumption) ?_
      rotate_left 1
      · (intro w hSw; (try dsimp only at hSw); go_simp; (try with_reducible rfl))
      try simp only [Act.put, List.getElem_toArray, List.getElem_cons_succ, List.getElem_cons_zero, List.setIfInBounds_toArray, List.set_cons_zero, List.set_cons_succ]
      refine wpAnyH_take (i := 10) (v := ?_) rfl (by kernel_rfl) (by kernel_rfl) (by kernel_rfl) (fun _ _ _ h => h) (Or.inl ⟨by rfl, ?_⟩) (by assumption) ?_
      rotate_left 1
      · (intro w hSw; (try dsimp only at hSw); go_simp; (try with_reducible rfl))
      try simp only [Act.put, List.getElem_toArray, List.getElem_cons_succ, List.getElem_cons_zero, List.setIfInBounds_toArray, List.set_cons_zero, List.set_cons_succ]
      refine wpAnyH_take (i := 11) (v := ?_) rfl (by kernel_rfl) (by kernel_rfl) (by kernel_rfl) (fun _ _ _ h => h) (Or.inl ⟨by rfl, ?_⟩) (by assumption) ?_
      rotate_left 1
      · (intro w hSw; (try dsimp only at hSw); go_simp; (try with_reducible rfl))
      try simp only [Act.put, List.getElem_toArray, List.getElem_cons_succ, List.getElem_cons_zero, List.setIfInBounds_toArray, List.set_cons_zero, List.set_cons_succ]
      refine wpAnyH_take (i := 12) (v := ?_) rfl (by kernel_rfl) (by kernel_rfl) (by kernel_rfl) (fun _ _ _ h => h) (Or.inl ⟨by rfl, ?_⟩) (by assumption) ?_
      rotate_left 1
      · (intro w hSw; (try dsimp only at hSw); go_simp; (try with_reducible rfl))
      try simp only [Act.put, List.getElem_toArray, List.getElem_cons_succ, List.getElem_cons_zero, List.setIfInBounds_toArray, List.set_cons_zero, List.set_cons_succ]
      refine wpAnyH_take (i := 13) (v := ?_) rfl (by kernel_rfl) (by kernel_rfl) (by kernel_rfl) (fun _ _ _ h => h) (Or.inl ⟨by rfl, ?_⟩) (by assumption) ?_
      rotate_left 1
      · (intro w hSw; (try dsimp only at hSw); go_simp; (try with_reducible rfl))
      try simp only [Act.put, List.getElem_toArray, List.getElem_cons_succ, List.getElem_cons_zero, List.setIfInBounds_toArray, List.set_cons_zero, List.set_cons_succ]
      refine wpAnyH_take (i := 14) (v := ?_) rfl (by kernel_rfl) (by kernel_rfl) (by kernel_rfl) (fun _ _ _ h => h) (Or.inl ⟨by rfl, ?_⟩) (by assumption) ?_
      rotate_left 1
      · (intro w hSw; (try dsimp only at hSw); go_simp; (try with_reducible rfl))
      try simp only [Act.put, List.getElem_toArray, List.getElem_cons_succ, List.getElem_cons_zero, List.setIfInBounds_toArray, List.set_cons_zero, List.set_cons_succ]
      refine wpAnyH_take (i := 15) (v := ?_) rfl (by kernel_rfl) (by kernel_rfl) (by kernel_rfl) (fun _ _ _ h => h) (Or.inl ⟨by rfl, ?_⟩) (by assumption) ?_
      rotate_left 1
      · (intro w hSw; (try dsimp only at hSw); go_simp; (try with_reducible rfl))
      try simp only [Act.put, List.getElem_toArray, List.getElem_cons_succ, List.getElem_cons_zero, List.setIfInBounds_toArray, List.set_cons_zero, List.set_cons_succ]
      refine wpAnyH_done (by kernel_rfl) ?_ _
      go_wp2
      go_ret
      exact ⟨rfl, CellsAt.set (w := w.drew) H.out 1 _, ((Turn.refl (· = rb) w).setCell (p := ⟨rb, 1, none⟩) (fun _ => rfl) _).drew⟩
    · rw [if_pos h3] at hS
      subst hS
      have h3' : (t3 == 0) = false := beq_eq_false_iff_ne.2 h3
      go_enter Try.func105, Try.ntmps105
      go_wp2
      refine wp_region_held_drew (S := (fun w' => w'.cell? ⟨rb, 0, none⟩ = some (.slice a xs.length c) ∧ w'.cell? ⟨rb, 1, none⟩ = some (.int .i64 (k : Int)) ∧ w'.cell? ⟨rb, 2, none⟩ = some (.int .i64 0))) (by kernel_rfl) ?_ (fun hHeld => ?_)
      · (go_keep)
      refine wpAnyH_take (i := 0) (v := ?_) rfl (by kernel_rfl) (by kernel_rfl) (by kernel_rfl) (fun _ _ _ h => h) (Or.inl ⟨by rfl, ?_⟩) (by assumption) ?_
      rotate_left 1
      · (intro w hSw; (try dsimp only at hSw); go_simp; (try with_reducible rfl))
      try simp only [Act.put, List.getElem_toArray, List.getElem_cons_succ, List.getElem_cons_zero, List.setIfInBounds_toArray, List.set_cons_zero, List.set_cons_succ]
      refine wpAnyH_take (i := 1) (v := ?_) rfl (by kernel_rfl) (by kernel_rfl) (by kernel_rfl) (fun _ _ _ h => h) (Or.inl ⟨by rfl, ?_⟩) (by assumption) ?_
      rotate_left 1
      · (intro w hSw; (try dsimp only at hSw); go_simp; (try with_reducible rfl))
      try simp only [Act.put, List.getElem_toArray, List.getElem_cons_succ, List.getElem_cons_zero, List.setIfInBounds_toArray, List.set_cons_zero, List.set_cons_succ]
      refine wpAnyH_take (i := 2) (v := ?_) rfl (by kernel_rfl) (by kernel_rfl) (by kernel_rfl) (fun _ _ _ h => h) (Or.inl ⟨by rfl, ?_⟩) (by assumption) ?_
      rotate_left 1
      · (intro w hSw; (try dsimp only at hSw); go_simp; (try with_reducible rfl))
      try simp only [Act.put, List.getElem_toArray, List.getElem_cons_succ, List.getElem_cons_zero, List.setIfInBounds_toArray, List.set_cons_zero, List.set_cons_succ]
      refine wpAnyH_take (i := 3) (v := ?_) rfl (by kernel_rfl) (by kernel_rfl) (by kernel_rfl) (fun _ _ _ h => h) (Or.inl ⟨by rfl, ?_⟩) (by assumption) ?_
      rotate_left 1
      · (intro w hSw; (try dsimp only at hSw); go_simp; (try with_reducible rfl))
      try simp only [Act.put, List.getElem_toArray, List.getElem_cons_succ, List.getElem_cons_zero, List.setIfInBounds_toArray, List.set_cons_zero, List.set_cons_succ]
      refine wpAnyH_take (i := 4) (v := ?_) rfl (by kernel_rfl) (by kernel_rfl) (by kernel_rfl) (fun _ _ _ h => h) (Or.inl ⟨by rfl, ?_⟩) (by assumption) ?_
      rotate_left 1
      · (intro w hSw; (try dsimp only at hSw); go_simp; (try with_reducible rfl))
      try simp only [Act.put, List.getElem_toArray, List.getElem_cons_succ, List.getElem_cons_zero, List.setIfInBounds_toArray, List.set_cons_zero, List.set_cons_succ]
      refine wpAnyH_take (i := 5) (v := ?_) rfl (by kernel_rfl) (by kernel_rfl) (by kernel_rfl) (fun _ _ _ h => h) (Or.inl ⟨by rfl, ?_⟩) (by assumption) ?_
      rotate_left 1
      · (intro w hSw; (try dsimp only at hSw); go_simp; (try with_reducible rfl))
      try simp only [Act.put, List.getElem_toArray, List.getElem_cons_succ, List.getElem_cons_zero, List.setIfInBounds_toArray, List.set_cons_zero, List.set_cons_succ]
      refine wpAnyH_take (i := 6) (v := ?_) rfl (by kernel_rfl) (by kernel_rfl) (by kernel_rfl) (fun _ _ _ h => h) (Or.inl ⟨by rfl, ?_⟩) (by assumption) ?_
      rotate_left 1
      · (intro w hSw; (try dsimp only at hSw); go_simp; (try with_reducible rfl))
      try simp only [Act.put, List.getElem_toArray, List.getElem_cons_succ, List.getElem_cons_zero, List.setIfInBounds_toArray, List.set_cons_zero, List.set_cons_succ]
      refine wpAnyH_take (i := 7) (v := ?_) rfl (by kernel_rfl) (by kernel_rfl) (by kernel_rfl) (fun _ _ _ h => h) (Or.inl ⟨by rfl, ?_⟩) (by assumption) ?_
      rotate_left 1
      · (intro w hSw; (try dsimp only at hSw); go_simp; (try with_reducible rfl))
      try simp only [Act.put, List.getElem_toArray, List.getElem_cons_succ, List.getElem_cons_zero, List.setIfInBounds_toArray, List.set_cons_zero, List.set_cons_succ]
      refine wpAnyH_ready (rs := [8]) (by kernel_rfl) (by simp) ?_
      refine AllReadyH.cons rfl (fun K hK => ?_) AllReadyH.nil
      try simp only [List.getElem_toArray, List.getElem_cons_succ, List.getElem_cons_zero]
      go_simp
      (go_at_call 108; refine (HT.out _ (by (repeat (first | exact Step.refl _ | refine Step.alloc ?_ _ | refine Step.drew ?_ | refine Step.drewN ?_ _ | refine Step.setCell ?_ (by first | exact Nat.le_refl _ | assumption | omega | (simp; done) | (simp; omega)) _ | assumption | refine Step.trans ?_ (by assumption : Step _ _))))).mono ?_; rintro e w1 ⟨rfl, rfl⟩)
      refine hK.out _ _ ?_ (fun hHeld => ?_)
      · (go_keep)
      clear hK K
      try simp only [Act.put, List.getElem_toArray, List.getElem_cons_succ, List.getElem_cons_zero, List.setIfInBounds_toArray, List.set_cons_zero, List.set_cons_succ]
      refine wpAnyH_take (i := 9) (v := ?_) rfl (by kernel_rfl) (by kernel_rfl) (by kernel_rfl) (fun _ _ _ h => h) (Or.inl ⟨by rfl, ?_⟩) (by assumption) ?_
      rotate_left 1
      · (intro w hSw; (try dsimp only at hSw); go_simp; (try with_reducible rfl))
      try simp only [Act.put, List.getElem_toArray, List.getElem_cons_succ, List.getElem_cons_zero, List.setIfInBounds_toArray, List.set_cons_zero, List.set_cons_succ]
      refine wpAnyH_take (i := 10) (v := ?_) rfl (by kernel_rfl) (by kernel_rfl) (by kernel_rfl) (fun _ _ _ h => h) (Or.inl ⟨by rfl, ?_⟩) (by assumption) ?_
      rotate_left 1
      · (intro w hSw; (try dsimp only at hSw); go_simp; (try with_reducible rfl))
      try simp only [Act.put, List.getElem_toArray, List.getElem_cons_succ, List.getElem_cons_zero, List.setIfInBounds_toArray, List.set_cons_zero, List.set_cons_succ]
      refine wpAnyH_take (i := 11) (v := ?_) rfl (by kernel_rfl) (by kernel_rfl) (by kernel_rfl) (fun _ _ _ h => h) (Or.inl ⟨by rfl, ?_⟩) (by assumption) ?_
      rotate_left 1
      · (intro w hSw; (try dsimp only at hSw); go_simp; (try with_reducible rfl))
      try simp only [Act.put, List.getElem_toArray, List.getElem_cons_succ, List.getElem_cons_zero, List.setIfInBounds_toArray, List.set_cons_zero, List.set_cons_succ]
      refine wpAnyH_take (i := 12) (v := ?_) rfl (by kernel_rfl) (by kernel_rfl) (by kernel_rfl) (fun _ _ _ h => h) (Or.inl ⟨by rfl, ?_⟩) (by assumption) ?_
      rotate_left 1
      · (intro w hSw; (try dsimp only at hSw); go_simp; (try with_reducible rfl))
      try simp only [Act.put, List.getElem_toArray, List.getElem_cons_succ, List.getElem_cons_zero, List.setIfInBounds_toArray, List.set_cons_zero, List.set_cons_succ]
      refine wpAnyH_take (i := 13) (v := ?_) rfl (by kernel_rfl) (by kernel_rfl) (by kernel_rfl) (fun _ _ _ h => h) (Or.inl ⟨by rfl, ?_⟩) (by assumption) ?_
      rotate_left 1
      · (intro w hSw; (try dsimp only at hSw); go_simp; (try with_reducible rfl))
      try simp only [Act.put, List.getElem_toArray, List.getElem_cons_succ, List.getElem_cons_zero, List.setIfInBounds_toArray, List.set_cons_zero, List.set_cons_succ]
      refine wpAnyH_take (i := 14) (v := ?_) rfl (by kernel_rfl) (by kernel_rfl) (by kernel_rfl) (fun _ _ _ h => h) (Or.inl ⟨by rfl, ?_⟩) (by assumption) ?_
      rotate_left 1
      · (intro w hSw; (try dsimp only at hSw); go_simp; (try with_reducible rfl))
      try simp only [Act.put, List.getElem_toArray, List.getElem_cons_succ, List.getElem_cons_zero, List.setIfInBounds_toArray, List.set_cons_zero, List.set_cons_succ]
      refine wpAnyH_take (i := 15) (v := ?_) rfl (by kernel_rfl) (by kernel_rfl) (by kernel_rfl) (fun _ _ _ h => h) (Or.inl ⟨by rfl, ?_⟩) (by assumption) ?_
      rotate_left 1
      · (intro w hSw; (try dsimp only at hSw); go_simp; (try with_reducible rfl))
      try simp only [Act.put, List.getElem_toArray, List.getElem_cons_succ, List.getElem_cons_zero, List.setIfInBounds_toArray, List.set_cons_zero, List.set_cons_succ]
      refine wpAnyH_done (by kernel_rfl) ?_ _
      go_wp2
      go_ret
      exact ⟨rfl, CellsAt.set (w := w.drew) H.out 2 _, ((Turn.refl (· = rb) w).setCell (p := ⟨rb, 2, none⟩) (fun _ => rfl) _).drew⟩
  · have hn : numF xs k e = (0, k, e) := if_pos he
    rw [hn]
    have he' : (e == 0) = false := beq_eq_false_iff_ne.2 he
    clear h hr hn
    go_enter Try.func105, Try.ntmps105
    go_wp2
    go_ret
    exact ⟨rfl, H.out, Turn.refl _ _⟩
set_option maxRecDepth 100000 in
theorem rdClose_g {w : World} {rb k : Nat} {a : Option Addr} {n c : Nat} {e : Int} (h : RdAt w rb (.slice a n c) k e) (hk : k ≤ n) (hn : n ≤ 68719476736) :
    Calls Try.prog 107 #[.pointer (some ⟨rb, 0, none⟩)] w fun x w' => x = .returned (.int .i64 (if e ≠ 0 then e else if k < n then 3 else 0)) ∧ ∃ m, w' = w.drewN m := by
  have p2 : w.cell? ⟨rb, 2, none⟩ = some (.int .i64 e) := h.cell 2
  have H := Lib.hid h
  clear h
  obtain ⟨R, hR⟩ : ∃ R : Int, R = if e ≠ 0 then e else if k < n then 3 else 0 := ⟨_, rfl⟩
  rw [← hR]
  by_cases he : e = 0
  · subst he
    rw [if_neg (by simp)] at hR
    by_cases hlt : k < n
    · rw [if_pos hlt] at hR
      subst hR
      have hpos : decide ((0 : Int) < ((n - k : Nat) : Int)) = true := decide_eq_true (by omega)
      have hpos2 : 0 < n - k := by omega
      have HL := Lib.hid (rdLeft_ H.out hk hn)
      generalize n - k = d at *
      go_enter Try.func107, Try.ntmps107
      go_wp2_with (go_at_call 122; refine HL.out.mono ?_; rintro e w1 ⟨rfl, m1, rfl⟩)
      go_ret
      exact ⟨rfl, _, rfl⟩
    · rw [if_neg hlt] at hR
      subst hR
      obtain rfl : k = n := by omega
      have HL := Lib.hid (rdLeft_ H.out hk hn)
      rw [Nat.sub_self] at HL
      go_enter Try.func107, Try.ntmps107
      go_wp2_with (go_at_call 122; refine HL.out.mono ?_; rintro e w1 ⟨rfl, m1, rfl⟩)
      go_ret
      exact ⟨rfl, _, rfl⟩
  · rw [if_pos he] at hR
    subst hR
    have he' : (R == 0) = false := beq_eq_false_iff_ne.2 he
    go_enter Try.func107, Try.ntmps107
    go_wp2
    go_ret
    exact ⟨rfl, 0, rfl⟩
end Go.Proofs.Ythflkfgiclcdiaa

namespace Go.Proofs.Ythflkfgiclcdiaa
open Go.RowKit Go.Gr
set_option linter.unusedSimpArgs false
set_option maxRecDepth 100000 in
set_option maxHeartbeats 4000000 in
theorem rdText_ {w : World} {rb k : Nat} {v : Value} {e : Int} {xs : List UInt8} (h : RdAt w rb v k e) (hr : Ty.bytes.rep w (· = rb) [v] xs) (hk : k ≤ xs.length) :
    Calls Try.prog 106 #[.pointer (some ⟨rb, 0, none⟩)] w fun x w' => ∃ v', x = .returned v' ∧ Own Ty.byte 5 w' (· < w.heap.size) w.heap.size v' (textF xs k e).1 ∧ RdAt w' rb v (textF xs k e).2.1 (textF xs k e).2.2 ∧ Turn (· = rb) w w' := by
  obtain ⟨a, c, rfl, hxc, _, hln⟩ := Ty.slice_val hr
  rw [lim_eq] at hln
  have p0 : w.cell? ⟨rb, 0, none⟩ = some (.slice a xs.length c) := h.cell 0
  have p1 : w.cell? ⟨rb, 1, none⟩ = some (.int .i64 (k : Int)) := h.cell 1
  have HR := Lib.hid hr
  have H := Lib.hid h
  have hrb := h.lt
  have HN := Lib.hid (rdNum_ h hr hk)
  obtain ⟨hq0, hq, hn64⟩ := numF_le (b := xs) (k := k) e hk
  have hpos : (numF xs k e).2.2 = 0 → 0 < xs.length := fun h0 => by
    rcases Nat.eq_zero_or_pos xs.length with hz | hz
    · exfalso
      have hx : xs = [] := List.length_eq_zero_iff.1 hz
      subst hx
      unfold numF takeB at h0
      simp at h0
      split at h0 <;> simp_all
    · exact hz
  have htx : textF xs k e = if (numF xs k e).2.2 ≠ 0 then ([], (numF xs k e).2.1, (numF xs k e).2.2) else if xs.length - (numF xs k e).2.1 < (numF xs k e).1 then ([], k, 5) else ((xs.drop (numF xs k e).2.1).take (numF xs k e).1, (numF xs k e).2.1 + (numF xs k e).1, 0) := rfl
  rw [htx]
  clear htx h hr
  generalize numF xs k e = N at *
  obtain ⟨l, q, e1⟩ := N
  simp only at HN hq0 hq hn64 hpos ⊢
  obtain ⟨R, hR⟩ : ∃ R : List UInt8 × Nat × Int, R = if e1 ≠ 0 then ([], q, e1) else if xs.length - q < l then ([], k, 5) else ((xs.drop q).take l, q + l, 0) := ⟨_, rfl⟩
  rw [← hR]
  by_cases he : e1 = 0
  · subst he
    rw [if_neg (by simp)] at hR
    obtain ⟨b, off, u, rfl, _⟩ := Ty.slice_at1 rfl HR.out (hpos rfl)
    by_cases hend : xs.length - q < l
    · rw [if_pos hend] at hR
      subst hR
      go_enter Try.func106, Try.ntmps106
      go_upto_region 3 with (go_at_call 105; refine HN.out.mono ?_; rintro e w1 ⟨rfl, hC1, hT1⟩; have HC1 := Lib.hid hC1; have HT1 := Lib.hid hT1; clear hC1 hT1)
      have c0 : w1.cell? ⟨rb, 0, none⟩ = some (.slice (some ⟨b, off, none⟩) xs.length c) := HC1.out.cell 0
      have c1 : w1.cell? ⟨rb, 1, none⟩ = some (.int .i64 (q : Int)) := HC1.out.cell 1
      have c2 : w1.cell? ⟨rb, 2, none⟩ = some (.int .i64 0) := HC1.out.cell 2
      have f1 : w1.frozen? ⟨rb, 1, none⟩ = false := HC1.out.frozen 1
      have f2 : w1.frozen? ⟨rb, 2, none⟩ = false := HC1.out.frozen 2
      have HL := Lib.hid (rdLeft_ (k := q) HC1.out hq hln)
      obtain ⟨d, hd⟩ : ∃ d, d = xs.length - q := ⟨_, rfl⟩
      rw [← hd] at HL hend
      have hw : IntKind.u64.wrap (d : Int) = (d : Int) := by simp [IntKind.wrap, IntKind.bits, IntKind.signed]; omega
      have hgt : decide ((d : Int) < (l : Int)) = true := decide_eq_true (by omega)
      have hgt2 : decide (d < l) = true := decide_eq_true hend
      clear hd
      go_wp2_with (go_at_call 122; refine HL.out.mono ?_; rintro e w2 ⟨rfl, m2, rfl⟩)
      go_ret
      refine ⟨_, rfl, Own.nil, ?_, ?_⟩
      · exact CellsAt.set (CellsAt.set (w := w1.drewN m2) HC1.out 2 _) 1 _
      · exact ((HT1.out.then ((Step.refl _).drewN _)).setCell (p := ⟨rb, 2, none⟩) (fun _ => rfl) _).setCell (p := ⟨rb, 1, none⟩) (fun _ => rfl) _
    · rw [if_neg hend] at hR
      subst hR
      have hk2 : q + l ≤ xs.length := by omega
      go_enter Try.func106, Try.ntmps106
      go_upto_region 3 with (go_at_call 105; refine HN.out.mono ?_; rintro e w1 ⟨rfl, hC1, hT1⟩; have HC1 := Lib.hid hC1; have HT1 := Lib.hid hT1; clear hC1 hT1)
      have c0 : w1.cell? ⟨rb, 0, none⟩ = some (.slice (some ⟨b, off, none⟩) xs.length c) := HC1.out.cell 0
      have c1 : w1.cell? ⟨rb, 1, none⟩ = some (.int .i64 (q : Int)) := HC1.out.cell 1
      have c2 : w1.cell? ⟨rb, 2, none⟩ = some (.int .i64 0) := HC1.out.cell 2
      have f1 : w1.frozen? ⟨rb, 1, none⟩ = false := HC1.out.frozen 1
      obtain ⟨d, hd⟩ : ∃ d, d = xs.length - q := ⟨_, rfl⟩
      have HL := Lib.hid (rdLeft_ (k := q) HC1.out hq hln)
      rw [← hd] at HL
      have hdl : ¬ d < l := by omega
      have hw : IntKind.u64.wrap (d : Int) = (d : Int) := by simp [IntKind.wrap, IntKind.bits, IntKind.signed]; omega
      have HD := Lib.hid hd
      clear hd p0 p1
      go_upto_region 7 with (go_at_call 122; refine HL.out.mono ?_; rintro e w2 ⟨rfl, m2, rfl⟩)
      have hwl : IntKind.i64.wrap (l : Int) = (l : Int) := by simp [IntKind.wrap, IntKind.bits, IntKind.signed]; omega
      have d0 : (w1.drewN m2).cell? ⟨rb, 0, none⟩ = some (.slice (some ⟨b, off, none⟩) xs.length c) := by simpa using c0
      have d1 : (w1.drewN m2).cell? ⟨rb, 1, none⟩ = some (.int .i64 ((q : Nat) : Int)) := by simpa using c1
      have g1 : (w1.drewN m2).frozen? ⟨rb, 1, none⟩ = false := by simpa using f1
      have HR1 := Lib.hid (Ty.kept _ HR.out (HT1.out.kept))
      obtain ⟨wd, hwd⟩ : ∃ wd, wd = w1.drewN m2 := ⟨_, rfl⟩
      rw [← hwd] at d0 d1 g1 ⊢
      have HR2 : Hid (Ty.bytes.rep wd (· = rb) [.slice (some ⟨b, off, none⟩) xs.length c] xs) := Lib.hid (by rw [hwd]; exact Ty.step _ HR1.out ((Step.refl _).drewN _))
      have HC2 : Hid (RdAt wd rb (.slice (some ⟨b, off, none⟩) xs.length c) q 0) := Lib.hid (by rw [hwd]; exact HC1.out)
      have HT2 : Hid (Turn (· = rb) w wd) := Lib.hid (by rw [hwd]; exact HT1.out.then ((Step.refl _).drewN _))
      clear hwd c0 c1 c2 f1
      have hz2 := HT2.out.size
      have hwr : IntKind.i64.wrap ((q : Int) + (l : Int)) = (q : Int) + (l : Int) := by rw [IntKind.wrap_i64]; omega
      have e1 : (0 : Int) ≤ (q : Int) + (l : Int) := by omega
      have e2 : (q : Int) + (l : Int) ≤ (c : Int) := by omega
      have e3 : (0 : Int) ≤ (q : Int) := by omega
      have e4 : (q : Int) ≤ max ((q : Int) + (l : Int)) 0 := by omega
      have e6 : (q : Int) ≤ (q : Int) + (l : Int) := by omega
      have e5 : ((q : Int) + (l : Int)).toNat = q + l := by omega
      have hsub : ∃ A, (if c = q then some (⟨b, off, none⟩ : Addr) else some ⟨b, off + q, none⟩) = A ∧ Ty.bytes.rep wd (· = rb) [.slice A l (c - q)] ((xs.drop q).take l) := by
        refine ⟨_, rfl, ?_⟩
        have h1 := bytes_sub HR2.out (lo := q) (hi := q + l) (by omega) hk2
        rw [show q + l - q = l by omega] at h1
        by_cases hc : c = q
        · have hl0 : l = 0 := by omega
          rw [if_pos hc]
          subst hl0
          simp only [List.take_zero]
          exact ⟨_, _, rfl, Nat.zero_le _, by omega, Nat.zero_le _, fun h => by simp at h⟩
        · rw [if_neg hc]
          exact h1
      obtain ⟨A, hA, hAr⟩ := hsub
      have HAr := Lib.hid hAr
      clear hAr
      refine wp_region_held_drew (S := (fun w' => w'.cell? ⟨rb, 0, none⟩ = some (.slice (some ⟨b, off, none⟩) xs.length c) ∧ w'.cell? ⟨rb, 1, none⟩ = some (.int .i64 ((q : Nat) : Int)))) (by kernel_rfl) ?_ (fun hHeld => ?_)
      · (go_keep)
      refine wpAnyH_take (i := 0) (v := ?_) rfl (by kernel_rfl) (by kernel_rfl) (by kernel_rfl) (fun _ _ _ h => h) (Or.inl ⟨by rfl, ?_⟩) (by assumption) ?_
      rotate_left 1
      · (intro w hSw; (try dsimp only at hSw); go_simp; (try with_reducible rfl))
      try simp only [Act.put, List.getElem_toArray, List.getElem_cons_succ, List.getElem_cons_zero, List.setIfInBounds_toArray, List.set_cons_zero, List.set_cons_succ]
      refine wpAnyH_take (i := 1) (v := ?_) rfl (by kernel_rfl) (by kernel_rfl) (by kernel_rfl) (fun _ _ _ h => h) (Or.inl ⟨by rfl, ?_⟩) (by assumption) ?_
      rotate_left 1
      · (intro w hSw; (try dsimp only at hSw); go_simp; (try with_reducible rfl))
      try simp only [Act.put, List.getElem_toArray, List.getElem_cons_succ, List.getElem_cons_zero, List.setIfInBounds_toArray, List.set_cons_zero, List.set_cons_succ]
      refine wpAnyH_take (i := 2) (v := ?_) rfl (by kernel_rfl) (by kernel_rfl) (by kernel_rfl) (fun _ _ _ h => h) (Or.inl ⟨by rfl, ?_⟩) (by assumption) ?_
      rotate_left 1
      · (intro w hSw; (try dsimp only at hSw); go_simp; (try with_reducible rfl))
      try simp only [Act.put, List.getElem_toArray, List.getElem_cons_succ, List.getElem_cons_zero, List.setIfInBounds_toArray, List.set_cons_zero, List.set_cons_succ]
      refine wpAnyH_take (i := 3) (v := ?_) rfl (by kernel_rfl) (by kernel_rfl) (by kernel_rfl) (fun _ _ _ h => h) (Or.inl ⟨by rfl, ?_⟩) (by assumption) ?_
      rotate_left 1
      · (intro w hSw; (try dsimp only at hSw); go_simp; (try with_reducible rfl))
      try simp only [Act.put, List.getElem_toArray, List.getElem_cons_succ, List.getElem_cons_zero, List.setIfInBounds_toArray, List.set_cons_zero, List.set_cons_succ]
      refine wpAnyH_take (i := 4) (v := ?_) rfl (by kernel_rfl) (by kernel_rfl) (by kernel_rfl) (fun _ _ _ h => h) (Or.inl ⟨by rfl, ?_⟩) (by assumption) ?_
      rotate_left 1
      · (intro w hSw; (try dsimp only at hSw); go_simp; (try with_reducible rfl))
      try simp only [Act.put, List.getElem_toArray, List.getElem_cons_succ, List.getElem_cons_zero, List.setIfInBounds_toArray, List.set_cons_zero, List.set_cons_succ]
      refine wpAnyH_take (i := 5) (v := ?_) rfl (by kernel_rfl) (by kernel_rfl) (by kernel_rfl) (fun _ _ _ h => h) (Or.inl ⟨by rfl, ?_⟩) (by assumption) ?_
      rotate_left 1
      · (intro w hSw; (try dsimp only at hSw); go_simp; (try with_reducible rfl))
      try simp only [Act.put, List.getElem_toArray, List.getElem_cons_succ, List.getElem_cons_zero, List.setIfInBounds_toArray, List.set_cons_zero, List.set_cons_succ]
      refine wpAnyH_take (i := 6) (v := ?_) rfl (by kernel_rfl) (by kernel_rfl) (by kernel_rfl) (fun _ _ _ h => h) (Or.inl ⟨by rfl, ?_⟩) (by assumption) ?_
      rotate_left 1
      · (intro w hSw; (try dsimp only at hSw); go_simp; (try with_reducible rfl))
      try simp only [Act.put, List.getElem_toArray, List.getElem_cons_succ, List.getElem_cons_zero, List.setIfInBounds_toArray, List.set_cons_zero, List.set_cons_succ]
      refine wpAnyH_take (i := 7) (v := ?_) rfl (by kernel_rfl) (by kernel_rfl) (by kernel_rfl) (fun _ _ _ h => h) (Or.inl ⟨by rfl, ?_⟩) (by assumption) ?_
      rotate_left 1
      · (intro w hSw; (try dsimp only at hSw); go_simp; (try with_reducible rfl))
      try simp only [Act.put, List.getElem_toArray, List.getElem_cons_succ, List.getElem_cons_zero, List.setIfInBounds_toArray, List.set_cons_zero, List.set_cons_succ]
      refine wpAnyH_take (i := 8) (v := ?_) rfl (by kernel_rfl) (by kernel_rfl) (by kernel_rfl) (fun _ _ _ h => h) (Or.inl ⟨by rfl, ?_⟩) (by assumption) ?_
      rotate_left 1
      · (intro w hSw; (try dsimp only at hSw); go_simp; (try with_reducible rfl))
      try simp only [Act.put, List.getElem_toArray, List.getElem_cons_succ, List.getElem_cons_zero, List.setIfInBounds_toArray, List.set_cons_zero, List.set_cons_succ]
      refine wpAnyH_take (i := 9) (v := ?_) rfl (by kernel_rfl) (by kernel_rfl) (by kernel_rfl) (fun _ _ _ h => h) (Or.inl ⟨by rfl, ?_⟩) (by assumption) ?_
      rotate_left 1
      · (intro w hSw; (try dsimp only at hSw); go_simp; (try with_reducible rfl))
      try simp only [Act.put, List.getElem_toArray, List.getElem_cons_succ, List.getElem_cons_zero, List.setIfInBounds_toArray, List.set_cons_zero, List.set_cons_succ]
      refine wpAnyH_take (i := 10) (v := ?_) rfl (by kernel_rfl) (by kernel_rfl) (by kernel_rfl) (fun _ _ _ h => h) (Or.inl ⟨by rfl, ?_⟩) (by assumption) ?_
      rotate_left 1
      · (intro w hSw; (try dsimp only at hSw); go_simp; (try with_reducible rfl))
      try simp only [Act.put, List.getElem_toArray, List.getElem_cons_succ, List.getElem_cons_zero, List.setIfInBounds_toArray, List.set_cons_zero, List.set_cons_succ]
      refine wpAnyH_take (i := 11) (v := ?_) rfl (by kernel_rfl) (by kernel_rfl) (by kernel_rfl) (fun _ _ _ h => h) (Or.inl ⟨by rfl, ?_⟩) (by assumption) ?_
      rotate_left 1
      · (intro w hSw; (try dsimp only at hSw); go_simp; (try with_reducible rfl))
      try simp only [Act.put, List.getElem_toArray, List.getElem_cons_succ, List.getElem_cons_zero, List.setIfInBounds_toArray, List.set_cons_zero, List.set_cons_succ]
      refine wpAnyH_take (i := 12) (v := ?_) rfl (by kernel_rfl) (by kernel_rfl) (by kernel_rfl) (fun _ _ _ h => h) (Or.inl ⟨by rfl, ?_⟩) (by assumption) ?_
      rotate_left 1
      · (intro w hSw; (try dsimp only at hSw); go_simp; (try with_reducible rfl))
      try simp only [Act.put, List.getElem_toArray, List.getElem_cons_succ, List.getElem_cons_zero, List.setIfInBounds_toArray, List.set_cons_zero, List.set_cons_succ]
      refine wpAnyH_take (i := 13) (v := ?_) rfl (by kernel_rfl) (by kernel_rfl) (by kernel_rfl) (fun _ _ _ h => h) (Or.inl ⟨by rfl, ?_⟩) (by assumption) ?_
      rotate_left 1
      · (intro w hSw; (try dsimp only at hSw); go_simp; (try with_reducible rfl))
      try simp only [Act.put, List.getElem_toArray, List.getElem_cons_succ, List.getElem_cons_zero, List.setIfInBounds_toArray, List.set_cons_zero, List.set_cons_succ]
      refine wpAnyH_take (i := 14) (v := ?_) rfl (by kernel_rfl) (by kernel_rfl) (by kernel_rfl) (fun _ _ _ h => h) (Or.inl ⟨by rfl, ?_⟩) (by assumption) ?_
      rotate_left 1
      · (intro w hSw; (try dsimp only at hSw); go_simp; (try with_reducible rfl))
      try simp only [Act.put, List.getElem_toArray, List.getElem_cons_succ, List.getElem_cons_zero, List.setIfInBounds_toArray, List.set_cons_zero, List.set_cons_succ]
      refine wpAnyH_take (i := 15) (v := ?_) rfl (by kernel_rfl) (by kernel_rfl) (by kernel_rfl) (fun _ _ _ h => h) (Or.inl ⟨by rfl, ?_⟩) (by assumption) ?_
      rotate_left 1
      · (intro w hSw; (try dsimp only at hSw); go_simp; (try with_reducible rfl))
      try simp only [Act.put, List.getElem_toArray, List.getElem_cons_succ, List.getElem_cons_zero, List.setIfInBounds_toArray, List.set_cons_zero, List.set_cons_succ]
      refine wpAnyH_ready (rs := [16]) (by kernel_rfl) (by simp) ?_
      refine AllReadyH.cons rfl (fun K hK => ?_) AllReadyH.nil
      try simp only [List.getElem_toArray, List.getElem_cons_succ, List.getElem_cons_zero]
      go_simp
      (go_at_call 59; refine (Clone_ _ _ _ _ (Ty.step _ HAr.out (by (repeat (first | exact Step.refl _ | refine Step.alloc ?_ _ | refine Step.drew ?_ | refine Step.drewN ?_ _ | refine Step.setCell ?_ (by first | exact Nat.le_refl _ | assumption | omega | (simp; done) | (simp; omega)) _ | assumption | refine Step.trans ?_ (by assumption : Step _ _)))))).mono ?_; rintro e w3 ⟨v3, rfl, hA3, hS3⟩; obtain ⟨b3, n3, m3, hv3, HN3⟩ := hA3.valN; have hS3' : Step wd w3 := (by (repeat (first | exact Step.refl _ | refine Step.alloc ?_ _ | refine Step.drew ?_ | refine Step.drewN ?_ _ | refine Step.setCell ?_ (by first | exact Nat.le_refl _ | assumption | omega | (simp; done) | (simp; omega)) _ | assumption | refine Step.trans ?_ (by assumption : Step _ _)))); have s3 : ∀ j, w3.cell? ⟨rb, j, none⟩ = wd.cell? ⟨rb, j, none⟩ := fun j => hS3'.cell (by omega) j; have g3 : w3.frozen? ⟨rb, 1, none⟩ = wd.frozen? ⟨rb, 1, none⟩ := hS3'.frozen (by omega) 1; subst hv3; have HA3 := Lib.hid hA3; clear hA3)
      refine hK.out _ _ ?_ (fun hHeld => ?_)
      · (go_keep)
      clear hK K
      try simp only [Act.put, List.getElem_toArray, List.getElem_cons_succ, List.getElem_cons_zero, List.setIfInBounds_toArray, List.set_cons_zero, List.set_cons_succ]
      refine wpAnyH_take (i := 17) (v := ?_) rfl (by kernel_rfl) (by kernel_rfl) (by kernel_rfl) (fun _ _ _ h => h) (Or.inl ⟨by rfl, ?_⟩) (by assumption) ?_
      rotate_left 1
      · (intro w hSw; (try dsimp only at hSw); go_simp; (try with_reducible rfl))
      try simp only [Act.put, List.getElem_toArray, List.getElem_cons_succ, List.getElem_cons_zero, List.setIfInBounds_toArray, List.set_cons_zero, List.set_cons_succ]
      refine wpAnyH_done (by kernel_rfl) ?_ _
      go_wp2
      go_ret
      have hz3 := hS3'.size
      refine ⟨_, rfl, Own.flat Ty.flat_byte (Own.set (M := (· = rb)) (Own.flat Ty.flat_byte (Own.base HA3.out (by simp; omega))) rfl hrb _), CellsAt.set (HC2.out.step hS3') 1 _, (HT2.out.then hS3').setCell (p := ⟨rb, 1, none⟩) (fun _ => rfl) _⟩
  · rw [if_pos he] at hR
    subst hR
    have he' : (e1 == 0) = false := beq_eq_false_iff_ne.2 he
    go_enter Try.func106, Try.ntmps106
    go_upto_region 3 with (go_at_call 105; refine HN.out.mono ?_; rintro e w1 ⟨rfl, hC1, hT1⟩; have HC1 := Lib.hid hC1; have HT1 := Lib.hid hT1; clear hC1 hT1)
    have c2 : w1.cell? ⟨rb, 2, none⟩ = some (.int .i64 e1) := HC1.out.cell 2
    go_wp2
    go_ret
    exact ⟨_, rfl, Own.nil, HC1.out, HT1.out⟩
end Go.Proofs.Ythflkfgiclcdiaa

namespace Go.Proofs.Ythflkfgiclcdiaa
open Go.RowKit Go.Gr
set_option linter.unusedSimpArgs false
theorem splitLoop_end {b : List UInt8} {n : Nat} {out : List (List UInt8)} {k : Nat} {e : Int} (h : n = 0 ∨ e ≠ 0) : splitLoop b n out k e = (out, k, e) := by
  rcases n with _ | n
  · rfl
  · unfold splitLoop
    rw [if_neg (h.resolve_left (by omega))]
theorem splitLoop_go {b : List UInt8} {n : Nat} {out : List (List UInt8)} {k : Nat} (h : 0 < n) : splitLoop b n out k 0 = splitLoop b (n - 1) (out ++ [(textF b k 0).1]) (textF b k 0).2.1 (textF b k 0).2.2 := by
  obtain ⟨m, rfl⟩ : ∃ m, n = m + 1 := ⟨n - 1, by omega⟩
  rw [splitLoop, if_pos rfl, Nat.add_sub_cancel]
theorem numF_pos {b : List UInt8} {k : Nat} (h : (numF b k 0).2.2 = 0) : k < (numF b k 0).2.1 := by
  unfold numF at h ⊢
  rw [if_neg (by simp)] at h ⊢
  split at h
  · rename_i h4; simp only at h; exact absurd h (by omega)
  · rename_i h4
    rw [if_neg h4]
    exact (takeB_ok h).1
set_option maxRecDepth 100000 in
set_option maxHeartbeats 4000000 in
theorem pSplit_ {w : World} {M : Nat → Prop} {v : Value} {xs : List UInt8} (h : Ty.bytes.rep w M [v] xs) :
    Calls Try.prog 80 #[v] w fun e w' => ∃ v', e = .returned (.tuple #[v', .int .i64 (splitF xs).2]) ∧ (Ty.slice Ty.bytes).rep w' (· < w.heap.size) [v'] (splitF xs).1 ∧ Step w w' := by
  have hlen := Ty.slice_le h
  rw [lim_eq] at hlen
  have H := Lib.hid h
  clear h
  obtain ⟨hk0, hk1, hn64⟩ := numF_le (b := xs) (k := 0) 0 (Nat.zero_le _)
  have hnp := numF_pos (b := xs) (k := 0)
  obtain ⟨S, hS⟩ : ∃ S, S = splitLoop xs (numF xs 0 0).1 [] (numF xs 0 0).2.1 (numF xs 0 0).2.2 := ⟨_, rfl⟩
  obtain ⟨F, hF⟩ : ∃ F : List (List UInt8) × Int, F = if S.2.2 ≠ 0 then ([], S.2.2) else if S.2.1 < xs.length then ([], 3) else (S.1, 0) := ⟨_, rfl⟩
  have hsp : splitF xs = F := by rw [hF, hS]; rfl
  rw [hsp]
  clear hsp
  have HF := Lib.hid hF
  have HS := Lib.hid hS
  clear hF hS
  have HNF : Hid (∀ W rb v, RdAt W rb v 0 0 → Ty.bytes.rep W (· = rb) [v] xs → Calls Try.prog 105 #[.pointer (some ⟨rb, 0, none⟩)] W fun x w' => x = .returned (.int .u64 ((numF xs 0 0).1 : Int)) ∧ RdAt w' rb v (numF xs 0 0).2.1 (numF xs 0 0).2.2 ∧ Turn (· = rb) W w') := Lib.hid (fun W rb v h1 h2 => rdNum_ h1 h2 (Nat.zero_le _))
  generalize numF xs 0 0 = N at *
  obtain ⟨n0, q0, e0⟩ := N
  simp only at HNF HS hk0 hk1 hn64 hnp
  go_enter Try.func80, Try.ntmps80
  go_wp2_with (first
    | (go_at_call 104; refine (rdRead_ H.out).mono ?_; rintro e w1 ⟨rb, v1, rfl, hC1, hR1, hS1, hrb1⟩; obtain ⟨a1, c1, rfl, _⟩ := Ty.slice_val hR1; have HC1 := Lib.hid hC1; have HR1 := Lib.hid hR1; clear hC1 hR1)
    | (go_at_call 105; refine (HNF.out _ _ _ HC1.out HR1.out).mono ?_; rintro e w2 ⟨rfl, hC2, hT2⟩; have HC2 := Lib.hid hC2; have HT2 := Lib.hid hT2; clear hC2 hT2))
  have hrbl := HC2.out.lt
  have hrbw : w.heap.size ≤ rb := hrb1
  have HR2 := Lib.hid (Ty.kept _ HR1.out HT2.out.kept)
  have hS2 : Step w w2 := Turn.step hS1 HT2.out (fun b hb => by subst hb; exact hrb1)
  clear HC1 HR1 HT2 hS1 hrb1 HNF
  go_loopw [5, 6] (fun o n w' => ∃ (m : Nat) (out : List (List UInt8)) (k : Nat) (e : Int), n = .int .u64 (m : Int) ∧ m < 18446744073709551616 ∧ k ≤ xs.length ∧ (e = 0 → out.length + 1 ≤ k) ∧ Hid (S = splitLoop xs m out k e) ∧ Hid (RdAt w' rb (.slice a1 xs.length c1) k e) ∧ Hid (Own Ty.bytes 42 w' (fun b => b = rb ∨ b < w.heap.size) w2.heap.size o out) ∧ Hid (Turn (· = rb) w2 w')) (fun _ n _ => (Go.RowKit.intOf n).toNat)
  case atStart => exact ⟨n0, [], q0, e0, rfl, hn64, hk1, fun h => by have := hnp h; simp only [List.length_nil]; omega, HS, HC2, Lib.hid Own.nil, Lib.hid (Turn.refl _ _)⟩
  case round =>
    obtain ⟨m, out, k, e, rfl, hm, hk, hol, HSL, HC, HA, HT⟩ := hrel
    have p2 : wr.cell? ⟨rb, 2, none⟩ = some (.int .i64 e) := HC.out.cell 2
    have hrbr := HC.out.lt
    have HR := Lib.hid (Ty.kept _ HR2.out HT.out.kept)
    have hz2 := HT.out.size
    have hzw := hS2.size
    by_cases hgo : 0 < m ∧ e = 0
    · obtain ⟨hm0, rfl⟩ := hgo
      have hol' := hol rfl
      have HX := Lib.hid (rdText_ HC.out HR.out hk)
      have hkl := (textF_le (b := xs) (k := k) 0 hk)
      have hon := textF_on (b := xs) hk
      have HSL2 := Lib.hid (HSL.out.trans (splitLoop_go hm0))
      generalize textF xs k 0 = T at *
      obtain ⟨t, k2, e2⟩ := T
      simp only at HX hkl hon HSL2
      have hpos : decide ((0 : Int) < (m : Int)) = true := decide_eq_true (by omega)
      have hsub : IntKind.u64.wrap ((m : Int) - 1) = ((m - 1 : Nat) : Int) := by rw [wrap_u64]; omega
      clear hol
      go_wp2_with (first
        | (go_at_call 106; refine HX.out.mono ?_; rintro e w3 ⟨v3, rfl, hA3, hC3, hT3⟩; obtain ⟨b3, n3, m3, rfl, HN3⟩ := hA3.valN; have z3 := hT3.size; have HA3 := Lib.hid hA3; have HC3 := Lib.hid hC3; have HT3 := Lib.hid hT3; have HO3 := Lib.hid (Own.kept HA.out (HT3.out.kept.mono (fun b hb => .inl hb)) (fun g hg => hT3.block g (HA.out.lt hg).2 (fun e => absurd (HA.out.lt hg).1 (by omega)))); clear hA3 hC3 hT3)
        | (at_builtin; refine wpList_append_gen (E := Ty.bytes) (B := w2.heap.size) (M := fun b => b = rb ∨ b < w.heap.size) (ys := [t]) rfl (.tmp 23) (.tmp 26) rfl stList (Own.step HO3.out (by (repeat (first | exact Step.refl _ | refine Step.alloc ?_ _ | refine Step.drew ?_ | refine Step.drewN ?_ _ | refine Step.setCell ?_ (by first | exact Nat.le_refl _ | assumption | omega | (simp; done) | (simp; omega)) _ | assumption | refine Step.trans ?_ (by assumption : Step _ _))))) (Src.oneAt (E := Ty.bytes) (y := t) (by simp) (Own.rep' (Own.flat Ty.flat_byte HA3.out) (fun b hb hm => by have h1 := (HA3.out.lt hb).1; (rcases hm with (hm | hm) | hm; (have h3 : b = rb := hm; omega); (have h3 : b < w.heap.size := hm; omega); (have h2 := (HA.out.lt hm).2; omega))))) (by rw [lim_eq]; simp; omega) (by simp; omega) rfl rfl ?_; intro v4 w4 hA4 hG4 _; have HC4 := Lib.hid ((HC3.out.step (by (repeat (first | exact Step.refl _ | refine Step.alloc ?_ _ | refine Step.drew ?_ | refine Step.drewN ?_ _ | refine Step.setCell ?_ (by first | exact Nat.le_refl _ | assumption | omega | (simp; done) | (simp; omega)) _ | assumption | refine Step.trans ?_ (by assumption : Step _ _))))).kept (hG4.block rb (by simp; omega) (fun e => by have h1 := (HA.out.lt e.symm).1; omega))); have HT4 := Lib.hid (Turn.grown ((HT.out.trans HT3.out).then (by (repeat (first | exact Step.refl _ | refine Step.alloc ?_ _ | refine Step.drew ?_ | refine Step.drewN ?_ _ | refine Step.setCell ?_ (by first | exact Nat.le_refl _ | assumption | omega | (simp; done) | (simp; omega)) _ | assumption | refine Step.trans ?_ (by assumption : Step _ _))))) hG4 (fun g hg hlt => by have h1 := (HA.out.lt hg).1; omega)); have HA4 := Lib.hid hA4; clear hA4 hG4))
      go_roundw
      case rel => exact ⟨m - 1, out ++ [t], k2, e2, by first | rfl | rw [hsub], by omega, hkl.2, fun h => by have := hon h; simp; omega, HSL2, HC4, HA4, HT4⟩
      case measure => simp [Go.RowKit.intOf]; omega
    · have hor : m = 0 ∨ e ≠ 0 := by
        rcases Nat.eq_zero_or_pos m with h0 | h0
        · exact .inl h0
        · exact .inr fun he => hgo ⟨h0, he⟩
      have hSE : S = (out, k, e) := HSL.out.trans (splitLoop_end hor)
      have hFE := HF.out
      rw [hSE] at hFE
      simp only at hFE
      have HCL := Lib.hid (rdClose_g HC.out hk hlen)
      obtain ⟨oa, on, oc, rfl, HON⟩ := HA.out.valN
      have hfin : ∀ mm, Step w (wr.drewN mm) := fun mm => (Turn.step hS2 HT.out (fun b hb => by subst hb; exact hrbw)).drewN mm
      have HFIN := Lib.hid hfin
      have HAO := Lib.hid (Own.rep' (HA.out.less (M' := (· < w.heap.size)) (fun _ _ h => .inr h)) (fun b hb h => by have h1 := (HA.out.lt hb).1; have h2 : b < w.heap.size := h; have h3 := hS2.size; omega))
      have hnn : Step wr wr := Step.refl _
      clear hol hfin HSL hSE hgo
      have close : ∀ R : Int, R = (if e ≠ 0 then e else if k < xs.length then 3 else 0) → (R ≠ 0 → F = ([], R)) ∧ (R = 0 → F = (out, 0)) := by
        intro R hR
        by_cases he : e = 0
        · subst he
          rw [if_neg (by simp)] at hR hFE
          by_cases hl : k < xs.length
          · rw [if_pos hl] at hR hFE
            subst hR
            exact ⟨fun _ => hFE, fun h => absurd h (by decide)⟩
          · rw [if_neg hl] at hR hFE
            subst hR
            exact ⟨fun h => absurd rfl h, fun _ => hFE⟩
        · rw [if_pos he] at hR hFE
          subst hR
          exact ⟨fun _ => hFE, fun h => absurd h he⟩
      have HCLO := Lib.hid close
      clear close hFE
      generalize hRR : (if e ≠ 0 then e else if k < xs.length then (3 : Int) else 0) = R at *
      have hcl := HCLO.out R rfl
      clear HCLO hRR
      have hcond : (m = 0) ∨ (0 < m ∧ (e == 0) = false) := by
        rcases Nat.eq_zero_or_pos m with h0 | h0
        · exact .inl h0
        · exact .inr ⟨h0, beq_eq_false_iff_ne.2 (hor.resolve_left (by omega))⟩
      by_cases hR0 : R = 0
      · have hF2 := hcl.2 hR0
        subst hR0
        subst hF2
        rcases hcond with rfl | ⟨h0, h1⟩
        · go_wp2_with (go_at_call 107; refine HCL.out.mono ?_; rintro e w5 ⟨rfl, m5, rfl⟩)
          go_ret2
          exact ⟨_, rfl, Ty.step _ HAO.out ((Step.refl _).drewN _), HFIN.out _⟩
        · have hpos : decide ((0 : Int) < (m : Int)) = true := decide_eq_true (by omega)
          go_wp2_with (go_at_call 107; refine HCL.out.mono ?_; rintro e w5 ⟨rfl, m5, rfl⟩)
          go_ret2
          exact ⟨_, rfl, Ty.step _ HAO.out ((Step.refl _).drewN _), HFIN.out _⟩
      · have hF2 := hcl.1 hR0
        subst hF2
        have hRb : (R == 0) = false := beq_eq_false_iff_ne.2 hR0
        rcases hcond with rfl | ⟨h0, h1⟩
        · go_wp2_with (go_at_call 107; refine HCL.out.mono ?_; rintro e w5 ⟨rfl, m5, rfl⟩)
          go_ret2
          exact ⟨_, rfl, ⟨none, 0, rfl, by simp, by simp [maxLen], by simp [lim_eq], fun h => by simp at h⟩, HFIN.out _⟩
        · have hpos : decide ((0 : Int) < (m : Int)) = true := decide_eq_true (by omega)
          go_wp2_with (go_at_call 107; refine HCL.out.mono ?_; rintro e w5 ⟨rfl, m5, rfl⟩)
          go_ret2
          exact ⟨_, rfl, ⟨none, 0, rfl, by simp, by simp [maxLen], by simp [lim_eq], fun h => by simp at h⟩, HFIN.out _⟩
end Go.Proofs.Ythflkfgiclcdiaa

namespace Go.Proofs.Ythflkfgiclcdiaa
open Go.RowKit Go.Gr
set_option linter.unusedSimpArgs false
/-- A part as a number. -/
def numberF (b : List UInt8) : Int × Int := (wrap64 ((takeB b 0).1 : Int), if (takeB b 0).2.2 = 0 ∧ (takeB b 0).2.1 < b.length then 3 else (takeB b 0).2.2)
set_option maxRecDepth 100000 in
theorem bNumber_ {w : World} {M : Nat → Prop} {v : Value} {xs : List UInt8} (h : Ty.bytes.rep w M [v] xs) :
    Calls Try.prog 81 #[v] w fun e w' => e = .returned (.tuple #[.int .i64 (numberF xs).1, .int .i64 (numberF xs).2]) ∧ w' = w := by
  obtain ⟨a, c, rfl, _, _, hl⟩ := Ty.slice_val h
  rw [lim_eq] at hl
  have HT := Lib.hid (Take_ h (Nat.zero_le _))
  have hok := takeB_ok (b := xs) (k := 0)
  unfold numberF
  clear h
  generalize takeB xs 0 = T at *
  obtain ⟨t1, t2, t3⟩ := T
  simp only at HT hok ⊢
  obtain ⟨R, hR⟩ : ∃ R : Int, R = if t3 = 0 ∧ t2 < xs.length then 3 else t3 := ⟨_, rfl⟩
  obtain ⟨V, hV⟩ : ∃ V : Int, V = wrap64 (t1 : Int) := ⟨_, rfl⟩
  rw [← hR, ← hV]
  by_cases h3 : t3 = 0
  · subst h3
    have hb := hok rfl
    by_cases hlt : t2 < xs.length
    · rw [if_pos ⟨rfl, hlt⟩] at hR
      subst hR
      have hd : decide ((t2 : Int) < (xs.length : Int)) = true := decide_eq_true (by omega)
      generalize xs.length = N at *
      have HV := Lib.hid hV
      clear hb hok hV
      go_enter Try.func81, Try.ntmps81
      go_wp2_with (go_at_call 108; refine HT.out.mono ?_; rintro e w1 ⟨rfl, rfl⟩)
      go_ret2
      rw [HV.out]
      exact ⟨rfl, rfl⟩
    · rw [if_neg (fun h => hlt h.2)] at hR
      subst hR
      have hd : decide ((t2 : Int) < (xs.length : Int)) = false := decide_eq_false (by omega)
      generalize xs.length = N at *
      have HV := Lib.hid hV
      clear hb hok hV
      go_enter Try.func81, Try.ntmps81
      go_wp2_with (go_at_call 108; refine HT.out.mono ?_; rintro e w1 ⟨rfl, rfl⟩)
      go_ret2
      rw [HV.out]; exact ⟨rfl, rfl⟩
  · rw [if_neg (fun h => h3 h.1)] at hR
    subst hR
    have h3' : (R == 0) = false := beq_eq_false_iff_ne.2 h3
    have HV := Lib.hid hV
    clear hV
    clear hok
    go_enter Try.func81, Try.ntmps81
    go_wp2_with (go_at_call 108; refine HT.out.mono ?_; rintro e w1 ⟨rfl, rfl⟩)
    go_ret2
    rw [HV.out]; exact ⟨rfl, rfl⟩
/-- Block rb is a reader of parts v, with an error. -/
def RcAt (w : World) (rb : Nat) (v : Value) (e : Int) : Prop := CellsAt w rb #[v, .int .i64 e] 180
def nextF (ps : List (List UInt8)) (e : Int) : List UInt8 × List (List UInt8) × Int :=
  if e ≠ 0 then ([], ps, e) else match ps with
    | [] => ([], [], 3)
    | p :: r => (p, r, 0)
theorem list_tail {w : World} {M : Nat → Prop} {b off n c : Nat} {p : List UInt8} {ps : List (List UInt8)} {A : Option Addr} (h : (Ty.slice Ty.bytes).rep w M [.slice (some ⟨b, off, none⟩) n c] (p :: ps)) (hA : A = if c = 1 then some ⟨b, off, none⟩ else some ⟨b, off + 1, none⟩) :
    (Ty.slice Ty.bytes).rep w M [.slice A ps.length (c - 1)] ps := by
  obtain ⟨a', c', hv, h3, h4, h5, hs⟩ := h
  simp only [List.cons.injEq, Value.slice.injEq, and_true] at hv
  obtain ⟨rfl, rfl, rfl⟩ := hv
  simp only [List.length_cons] at h3 h5 hs
  refine ⟨A, c - 1, rfl, by omega, by omega, by omega, fun hp => ?_⟩
  obtain ⟨b', off', ha, hb, hM, hc⟩ := hs (by omega)
  simp only [Option.some.injEq, Addr.mk.injEq, and_true] at ha
  obtain ⟨rfl, rfl⟩ := ha
  rw [if_neg (by omega)] at hA
  refine ⟨b, off + 1, hA, hb, hM, fun i hi => ?_⟩
  obtain ⟨es, he, hce⟩ := hc (i + 1) (by simpa using hi)
  refine ⟨es, by simpa using he, fun j u hu => ?_⟩
  have := hce j u hu
  simp only [show (Ty.bytes).n = 1 from rfl, Nat.mul_one] at this ⊢
  rw [show off + 1 + i + j = off + (i + 1) + j by omega]
  exact this
set_option maxRecDepth 100000 in
set_option maxHeartbeats 2000000 in
theorem rcNext_ {w : World} {M : Nat → Prop} {rb : Nat} {v : Value} {e : Int} {ps : List (List UInt8)} (h : RcAt w rb v e) (hr : (Ty.slice Ty.bytes).rep w M [v] ps) (hM : M rb) :
    Calls Try.prog 109 #[.pointer (some ⟨rb, 0, none⟩)] w fun x w' => ∃ p' v', x = .returned p' ∧ Ty.bytes.rep w' M [p'] (nextF ps e).1 ∧ RcAt w' rb v' (nextF ps e).2.2 ∧ (Ty.slice Ty.bytes).rep w' M [v'] (nextF ps e).2.1 ∧ Turn (· = rb) w w' := by
  obtain ⟨a, c, rfl, hxc, _, hln⟩ := Ty.slice_val hr
  have p0 : w.cell? ⟨rb, 0, none⟩ = some (.slice a ps.length c) := h.cell 0
  have p1 : w.cell? ⟨rb, 1, none⟩ = some (.int .i64 e) := h.cell 1
  have f0 : w.frozen? ⟨rb, 0, none⟩ = false := h.frozen 0
  have f1 : w.frozen? ⟨rb, 1, none⟩ = false := h.frozen 1
  have H := Lib.hid h
  have HR := Lib.hid hr
  clear h hr
  by_cases he : e = 0
  · subst he
    rcases ps with _ | ⟨p, ps⟩
    · have hn : nextF [] 0 = ([], [], 3) := by simp [nextF]
      rw [hn]
      simp only [List.length_nil] at p0 HR
      go_enter Try.func109, Try.ntmps109
      go_wp2
      go_ret
      refine ⟨_, _, rfl, nil_rep, CellsAt.set H.out 1 _, Ty.kept _ HR.out (Kept.setCell _ _ _ hM), (Turn.refl (· = rb) w).setCell (p := ⟨rb, 1, none⟩) (fun _ => rfl) _⟩
    · have hn : nextF (p :: ps) 0 = (p, ps, 0) := by simp [nextF]
      rw [hn]
      obtain ⟨b, off, u, rfl, hbb, hbn, hu, hc⟩ := Ty.slice_at1 rfl HR.out (k := 0) (by simp)
      simp only [List.getElem_cons_zero, Nat.add_zero] at hu hc
      obtain ⟨ua, uc, rfl, _⟩ := Ty.slice_val hu
      have HU := Lib.hid hu
      obtain ⟨A, hA⟩ : ∃ A, A = (if c = 1 then some (⟨b, off, none⟩ : Addr) else some ⟨b, off + 1, none⟩) := ⟨_, rfl⟩
      have HTL := Lib.hid (list_tail HR.out hA)
      have hA' : (if c = 1 then some (⟨b, off, none⟩ : Addr) else some ⟨b, off + 1, none⟩) = A := hA.symm
      simp only [List.length_cons] at p0 hxc
      have hz : (((ps.length + 1 : Nat) : Int) == 0) = false := beq_eq_false_iff_ne.2 (by omega)
      have hcc : (1 : Int) ≤ (c : Int) := by omega
      clear hu hA
      generalize ps.length = N at *
      go_enter Try.func109, Try.ntmps109
      go_wp2
      go_ret
      exact ⟨_, _, rfl, Ty.kept _ HU.out (Kept.setCell _ _ _ hM), CellsAt.set H.out 0 _, Ty.kept _ HTL.out (Kept.setCell _ _ _ hM), (Turn.refl (· = rb) w).setCell (p := ⟨rb, 0, none⟩) (fun _ => rfl) _⟩
  · have hn : nextF ps e = ([], ps, e) := if_pos he
    rw [hn]
    have he' : (e == 0) = false := beq_eq_false_iff_ne.2 he
    go_enter Try.func109, Try.ntmps109
    go_wp2
    go_ret
    exact ⟨_, _, rfl, nil_rep, H.out, HR.out, Turn.refl _ _⟩
end Go.Proofs.Ythflkfgiclcdiaa
