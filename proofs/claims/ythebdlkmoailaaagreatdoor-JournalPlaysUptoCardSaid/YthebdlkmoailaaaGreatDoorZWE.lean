/-
  Walks: Cmp and Equal alone (cut out of W3).
-/
import Derived.Test.YthebdlkmoailaaaGreatDoorZW1
import Derived.Test.YthebdlkmoailaaaGreatDoorZP3
import Derived.WalkSpells
set_option linter.unusedVariables false
set_option linter.unusedSimpArgs false
namespace Go.Proofs.YthebdlkmoailaaaGreatDoor
open Go.RowKit Go.Gr

theorem cmp_lt_fact {xs ys : List UInt8} {k : Nat} (hag : ∀ j, j < k → xs[j]? = ys[j]?) (h1 : k < xs.length) (h2 : k < ys.length) : cmpB xs ys = if xs[k] < ys[k] then -1 else if ys[k] < xs[k] then 1 else cmpB (xs.drop (k + 1)) (ys.drop (k + 1)) := by
  rw [cmpB_drop k hag, List.drop_eq_getElem_cons h1, List.drop_eq_getElem_cons h2]
  rfl

set_option maxHeartbeats 1000000 in
theorem Cmp_ {w : World} {M M' : Nat → Prop} {u v : Value} {xs ys : List UInt8} (hx : Ty.bytes.rep w M [u] xs) (hy : Ty.bytes.rep w M' [v] ys) :
    Calls Tryz.prog 55 #[u, v] w fun e w' => e = .returned (.int .i64 (cmpB xs ys)) ∧ ∃ n, w' = w.drewN n := by
  obtain ⟨a, c, rfl, hc, hm, hl⟩ := Ty.slice_val hx
  obtain ⟨b, d, rfl, hd, hm', hl2⟩ := Ty.slice_val hy
  rw [lim_eq] at hl hl2
  have HX := Lib.hid hx
  have HY := Lib.hid hy
  clear hx hy hc hd hm hm'
  go_enter Tryz.func55, Tryz.ntmps55
  go_wp2
  go_loopw [5] (fun i w' => ∃ k : Nat, i = .int .i64 k ∧ k ≤ xs.length ∧ k ≤ ys.length ∧ Hid (∀ j, j < k → xs[j]? = ys[j]?) ∧ ∃ q, w' = w.drewN q) (fun i _ => xs.length - (intOf i).toNat)
  case atStart => exact ⟨0, rfl, by omega, by omega, Lib.hid (fun j hj => by omega), 0, rfl⟩
  case round =>
    obtain ⟨k, rfl, hk, hk2, hag, q, rfl⟩ := hrel
    by_cases hlt : k < xs.length
    · by_cases hlt2 : k < ys.length
      · obtain ⟨b1, o1, u1, rfl, _, _, hu1, hc1⟩ := Ty.slice_at1 rfl HX.out hlt
        obtain ⟨b2, o2, u2, rfl, _, _, hu2, hc2⟩ := Ty.slice_at1 rfl HY.out hlt2
        obtain rfl : u1 = .int .u8 (xs[k].toNat : Int) := by simpa using (show [u1] = _ from hu1)
        obtain rfl : u2 = .int .u8 (ys[k].toNat : Int) := by simpa using (show [u2] = _ from hu2)
        have hcc : Hid (cmpB xs ys = if xs[k] < ys[k] then -1 else if ys[k] < xs[k] then 1 else cmpB (xs.drop (k + 1)) (ys.drop (k + 1))) := Lib.hid (cmp_lt_fact hag.out hlt hlt2)
        clear hu1 hu2
        have e1 : (0 : Int) ≤ (k : Int) := by omega
        have e2 : (k : Int) < (xs.length : Int) := by omega
        have e3 : (k : Int) < (ys.length : Int) := by omega
        by_cases h1 : (xs[k].toNat : Int) < (ys[k].toNat : Int)
        · go_wp2
          go_quiet (fail)
          go_wp2
          go_ret
          refine ⟨?_, (by first | exact ⟨_, rfl⟩ | (simp only [World.drewN_drewN]; exact ⟨_, rfl⟩))⟩
          rw [hcc.out, if_pos (UInt8.lt_iff_toNat_lt.2 (by omega))]
          rfl
        · have h1' : decide ((xs[k].toNat : Int) < (ys[k].toNat : Int)) = false := decide_eq_false h1
          by_cases h2 : (ys[k].toNat : Int) < (xs[k].toNat : Int)
          · go_wp2
            go_quiet (fail)
            go_wp2
            go_quiet (fail)
            go_wp2
            go_ret
            refine ⟨?_, (by first | exact ⟨_, rfl⟩ | (simp only [World.drewN_drewN]; exact ⟨_, rfl⟩))⟩
            rw [hcc.out, if_neg (by rw [UInt8.lt_iff_toNat_lt]; omega), if_pos (UInt8.lt_iff_toNat_lt.2 (by omega))]
            rfl
          · have h2' : decide ((ys[k].toNat : Int) < (xs[k].toNat : Int)) = false := decide_eq_false h2
            go_wp2
            go_quiet (fail)
            go_wp2
            go_quiet (fail)
            go_wp2
            go_roundw
            case rel =>
              refine ⟨k + 1, by go_num, by omega, by omega, Lib.hid (fun j hj => ?_), (by first | exact ⟨_, rfl⟩ | (simp only [World.drewN_drewN]; exact ⟨_, rfl⟩))⟩
              rcases Nat.lt_or_ge j k with hj' | hj'
              · exact hag.out j hj'
              · obtain rfl : j = k := by omega
                rw [List.getElem?_eq_getElem hlt, List.getElem?_eq_getElem hlt2]
                exact congrArg some (UInt8.toNat_inj.1 (by omega))
            case measure => simp [intOf]; omega
      · obtain rfl : k = ys.length := by omega
        have hcc : Hid (cmpB xs ys = 1) := Lib.hid (by
          rw [cmpB_drop _ hag.out, List.drop_length, List.drop_eq_getElem_cons hlt]
          rfl)
        go_wp2
        go_ret
        exact ⟨by rw [hcc.out]; rfl, _, rfl⟩
    · obtain rfl : k = xs.length := by omega
      rcases Nat.lt_or_ge xs.length ys.length with h | h
      · have hcc : Hid (cmpB xs ys = -1) := Lib.hid (by
          rw [cmpB_drop _ hag.out, List.drop_length, List.drop_eq_getElem_cons h]
          rfl)
        go_wp2
        go_ret
        exact ⟨by rw [hcc.out]; rfl, _, rfl⟩
      · have hcc : Hid (cmpB xs ys = 0) := Lib.hid (by
          rw [cmpB_drop _ hag.out, List.drop_length, List.drop_of_length_le h]
          rfl)
        go_wp2
        go_ret
        exact ⟨by rw [hcc.out]; rfl, _, rfl⟩
theorem Equal_ {w : World} {M M' : Nat → Prop} {u v : Value} {xs ys : List UInt8} (hx : Ty.bytes.rep w M [u] xs) (hy : Ty.bytes.rep w M' [v] ys) :
    Calls Tryz.prog 22 #[u, v] w fun e w' => e = .returned (.bool (decide (xs = ys))) ∧ ∃ n, w' = w.drewN n := by
  have HX := Lib.hid hx
  have HY := Lib.hid hy
  have he : Hid ((cmpB xs ys == 0) = decide (xs = ys)) := Lib.hid (by
    rw [Bool.eq_iff_iff, beq_iff_eq, decide_eq_true_iff]
    exact cmpB_iff)
  clear hx hy
  go_enter Tryz.func22, Tryz.ntmps22
  go_wp2_with (go_at_call 55; refine (Cmp_ HX.out HY.out).mono ?_; rintro e w' ⟨rfl, n, rfl⟩)
  go_ret
  exact ⟨by rw [← he.out]; rfl, _, rfl⟩
end Go.Proofs.YthebdlkmoailaaaGreatDoor
