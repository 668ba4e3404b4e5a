/-
  Walk: the error of splits (Splits).
-/
import Derived.Test.YthflkfgiclcdiaaZP4
import Derived.BigQuiet
import Derived.Shelf.Abstract
import Derived.Deep.QuietTactic
set_option linter.unusedVariables false
set_option linter.unusedSimpArgs false
namespace Go.Proofs.Ythflkfgiclcdiaa
open Go.RowKit Go.Gr
set_option linter.unusedSimpArgs false
set_option linter.unusedVariables false
theorem brSplits1_ {w : World} {M : Nat → Prop} {v : Value} {xs : List UInt8} (h : Ty.bytes.rep w M [v] xs) :
    Calls Try.prog 73 #[v] w fun e w' => e = .returned (.bool (decide (64 < xs.length))) ∧ w' = w := by
  obtain ⟨a, c, rfl, hc, hm, hl⟩ := Ty.slice_val h
  rw [lim_eq] at hl
  clear h hc hm
  have e : decide ((64 : Int) < (xs.length : Int)) = decide (64 < xs.length) := by rw [decide_eq_decide]; omega
  go_enter Try.func73, Try.ntmps73
  go_wp2
  go_ret
  exact ⟨rfl, rfl⟩
def anyLong (xs : List (List UInt8)) : Bool := xs.any fun x => decide (64 < x.length)
/-- What IndexFunc answers. -/
def IdxRet (w : World) (b : Bool) (e : Ending) (w' : World) : Prop := ∃ r : Int, e = .returned (.int .i64 r) ∧ decide (0 ≤ r) = b ∧ w' = w
theorem ixFunc_ {w : World} {M : Nat → Prop} {v : Value} {xs : List (List UInt8)} (h : (Ty.slice Ty.bytes).rep w M [v] xs) :
    Calls Try.prog 102 #[v, .func (.func 73) #[] #[]] w (IdxRet w (anyLong xs)) := by
  obtain ⟨a, c, rfl, hc, hm, hl⟩ := Ty.slice_val h
  have H := Lib.hid h
  rw [lim_eq] at hl
  clear h hc hm
  have eg : ∀ args w, (callFunc 73 args).run Try.prog w = .ok (.enter 73 args) w := enters_of Try.func73 (by kernel_rfl) rfl
  go_enter Try.func102, Try.ntmps102
  go_wp2
  go_loop [8] (fun i => ∃ k : Nat, i = .int .i64 k ∧ k ≤ xs.length ∧ Hid (∀ j (hj : j < xs.length), j < k → xs[j].length ≤ 64)) (fun i => xs.length - (intOf i).toNat)
  case atStart => exact ⟨0, rfl, by omega, Lib.hid (fun j _ h => absurd h (by omega))⟩
  case round =>
    obtain ⟨k, rfl, hk, hag⟩ := hrel
    by_cases hlt : k < xs.length
    · obtain ⟨b1, o1, u1, rfl, hb1, _, hu1, hc1⟩ := Ty.slice_at1 rfl H.out hlt
      have HU := Lib.hid hu1
      clear hu1
      by_cases hbig : 64 < xs[k].length
      · have hr : Hid (anyLong xs = true) := Lib.hid (any_of_at hlt (by simpa using hbig))
        have hd : Hid (decide (64 < xs[k].length) = true) := Lib.hid (decide_eq_true hbig)
        clear hbig
        go_wp2_with (go_at_call 73; refine (brSplits1_ HU.out).mono ?_; rintro e w' ⟨rfl, rfl⟩; rw [hd.out])
        go_ret
        exact ⟨_, rfl, by rw [hr.out]; exact decide_eq_true (by omega), rfl⟩
      · have hd : Hid (decide (64 < xs[k].length) = false) := Lib.hid (decide_eq_false hbig)
        have hle : xs[k].length ≤ 64 := by omega
        clear hbig
        go_wp2_with (go_at_call 73; refine (brSplits1_ HU.out).mono ?_; rintro e w' ⟨rfl, rfl⟩; rw [hd.out])
        go_round
        case rel =>
          refine ⟨k + 1, by go_num, by omega, Lib.hid (fun j hj hlt' => ?_)⟩
          rcases Nat.lt_or_ge j k with h' | h'
          · exact hag.out j hj h'
          · obtain rfl : j = k := by omega
            omega
        case measure => simp [intOf]; omega
    · obtain rfl : k = xs.length := by omega
      have hno : Hid (anyLong xs = false) := Lib.hid (any_not fun j hj => by have := hag.out j hj hj; simp; omega)
      clear hag
      go_wp2
      go_ret
      exact ⟨_, rfl, by rw [hno.out]; rfl, rfl⟩
theorem ctFunc_ {w : World} {M : Nat → Prop} {v : Value} {xs : List (List UInt8)} (h : (Ty.slice Ty.bytes).rep w M [v] xs) :
    Calls Try.prog 74 #[v, .func (.func 73) #[] #[]] w fun e w' => e = .returned (.bool (anyLong xs)) ∧ w' = w := by
  obtain ⟨a, c, rfl, hc, hm, hl⟩ := Ty.slice_val h
  have H := Lib.hid h
  clear h hc hm
  obtain ⟨b, hb⟩ : ∃ b, anyLong xs = b := ⟨_, rfl⟩
  rw [hb]
  have HB := Lib.hid hb
  clear hb
  go_enter Try.func74, Try.ntmps74
  go_wp2_with (go_at_call 102; refine (ixFunc_ H.out).mono ?_; rintro e w' ⟨r, rfl, hr, rfl⟩; rw [HB.out] at hr; have HR := Lib.hid hr; clear hr)
  go_ret
  exact ⟨by rw [← HR.out]; rfl, rfl⟩
set_option maxRecDepth 100000 in
set_option maxHeartbeats 2000000 in
theorem brSplits_ {w : World} {M : Nat → Prop} {v : Value} {xs : List (List UInt8)} (h : (Ty.slice Ty.bytes).rep w M [v] xs) :
    Calls Try.prog 36 #[v] w fun e w' => e = .returned (.int .i64 (splitsB xs)) ∧ w' = w := by
  obtain ⟨a, c, rfl, hc, hm, hl⟩ := Ty.slice_val h
  have H := Lib.hid h
  rw [lim_eq] at hl
  clear h hc hm
  by_cases h3 : 3 < xs.length
  · have hr : Hid (splitsB xs = 2) := Lib.hid (if_pos h3)
    have hd : decide ((4 : Int) ≤ (xs.length : Int)) = true := decide_eq_true (by omega)
    go_enter Try.func36, Try.ntmps36
    go_wp2
    go_ret
    exact ⟨by rw [hr.out]; rfl, rfl⟩
  · have hd : decide ((4 : Int) ≤ (xs.length : Int)) = false := decide_eq_false (by omega)
    cases hal : anyLong xs with
    | true =>
      have hr : Hid (splitsB xs = 2) := Lib.hid (by
        unfold splitsB
        unfold anyLong at hal
        rw [if_neg h3, if_pos hal])
      have HAL := Lib.hid hal
      clear hal
      go_enter Try.func36, Try.ntmps36
      go_wp2_with (go_at_call 74; refine (ctFunc_ H.out).mono ?_; rintro e w' ⟨rfl, rfl⟩; rw [HAL.out])
      go_ret
      exact ⟨by rw [hr.out]; rfl, rfl⟩
    | false =>
      have HAL := Lib.hid hal
      clear hal
      go_enter Try.func36, Try.ntmps36
      go_wp2_with (go_at_call 74; refine (ctFunc_ H.out).mono ?_; rintro e w' ⟨rfl, rfl⟩; rw [HAL.out])
      go_loop [16] (fun i => ∃ k : Nat, i = .int .i64 k ∧ k ≤ xs.length ∧ Hid (∀ j, j < k → badSplit xs j = false)) (fun i => xs.length - (intOf i).toNat)
      case atStart => exact ⟨0, rfl, by omega, Lib.hid (fun j h => absurd h (by omega))⟩
      case round =>
        obtain ⟨k, rfl, hk, hag⟩ := hrel
        by_cases hlt : k < xs.length
        · obtain ⟨b1, o1, u1, rfl, hb1, _, hu1, hc1⟩ := Ty.slice_at1 rfl H.out hlt
          obtain ⟨a2, n2, rfl, _, _, hl2⟩ := Ty.slice_val hu1
          have HU := Lib.hid hu1
          clear hu1
          have hgk : Hid (xs[k]?.getD [] = xs[k]) := Lib.hid (by simp [hlt])
          have hres3 : ∀ (_ : badSplit xs k = true), splitsB xs = 3 := fun hb => by
            unfold splitsB
            have hal := HAL.out
            unfold anyLong at hal
            rw [if_neg h3, hal, if_neg (by simp), if_pos]
            exact any_of_at (l := List.range xs.length) (by simpa using hlt) (by simpa using hb)
          have HR3 := Lib.hid hres3
          clear hres3
          have hnext : ∀ (_ : badSplit xs k = false), ∀ j, j < k + 1 → badSplit xs j = false := fun hb j hj => by
            rcases Nat.lt_or_ge j k with h' | h'
            · exact hag.out j h'
            · obtain rfl : j = k := by omega
              exact hb
          have HNX := Lib.hid hnext
          clear hnext
          have e1 : (0 : Int) ≤ (k : Int) := by omega
          have e2 : (k : Int) < (xs.length : Int) := by omega
          by_cases hz : xs[k].length = 0
          · have hzb : ((xs[k].length : Int) == 0) = true := beq_iff_eq.2 (by omega)
            have hbad : Hid (badSplit xs k = true) := Lib.hid (by simp [badSplit, hgk.out, hz])
            go_wp2
            go_ret
            exact ⟨by rw [HR3.out hbad.out]; rfl, rfl⟩
          · have hzb : ((xs[k].length : Int) == 0) = false := beq_eq_false_iff_ne.2 (by omega)
            rcases k with _ | k
            · have hbad : Hid (badSplit xs 0 = false) := Lib.hid (by simp [badSplit, hgk.out, hz])
              have hd0 : decide ((0 : Int) < ((0 : Nat) : Int)) = false := rfl
              rw [Nat.add_zero] at hc1
              go_wp2
              go_round
              case rel => exact ⟨1, by go_num, by omega, Lib.hid (HNX.out hbad.out)⟩
              case measure => simp [intOf]; omega
            · have hlt' : k < xs.length := by omega
              obtain ⟨b3, o3, u3, hb3, hb3', _, hu3, hc3⟩ := Ty.slice_at1 rfl H.out hlt'
              simp only [Option.some.injEq, Addr.mk.injEq, and_true] at hb3
              obtain ⟨rfl, rfl⟩ := hb3
              have HV := Lib.hid hu3
              clear hu3
              have e3 : (0 : Int) ≤ (k : Int) := by omega
              have e4 : (k : Int) < (xs.length : Int) := by omega
              have e5 : (0 : Int) < (k : Int) + 1 := by omega
              have e6 : (k : Int) + 1 < (xs.length : Int) := by omega
              have e7 : (0 : Int) ≤ (k : Int) + 1 := by omega
              have e8 : ((k : Int) + 1).toNat = k + 1 := by omega
              have e9 : IntKind.i64.wrap (k : Int) = (k : Int) := IntWalk.i64_in _ (by omega)
              have hd0 : decide ((0 : Int) < (k : Int) + 1) = true := decide_eq_true e5
              have hbs : Hid (badSplit xs (k + 1) = decide (0 ≤ cmpB xs[k] xs[k + 1])) := Lib.hid (by simp [badSplit, hgk.out, hz, hlt'])
              obtain ⟨c, hcc⟩ : ∃ c, cmpB xs[k] xs[k + 1] = c := ⟨_, rfl⟩
              rw [hcc] at hbs
              have HC := Lib.hid hcc
              clear hcc
              by_cases hcmp : 0 ≤ c
              · have hbad : Hid (badSplit xs (k + 1) = true) := Lib.hid (by rw [hbs.out]; exact decide_eq_true hcmp)
                go_wp2_with (go_at_call 75; refine (Compare_ HV.out HU.out).mono ?_; rintro e w' ⟨rfl, rfl⟩; rw [HC.out])
                go_ret
                exact ⟨by rw [HR3.out hbad.out]; rfl, rfl⟩
              · have hbad : Hid (badSplit xs (k + 1) = false) := Lib.hid (by rw [hbs.out]; exact decide_eq_false hcmp)
                go_wp2_with (go_at_call 75; refine (Compare_ HV.out HU.out).mono ?_; rintro e w' ⟨rfl, rfl⟩; rw [HC.out])
                go_round
                case rel => exact ⟨k + 1 + 1, by go_num, by omega, Lib.hid (HNX.out hbad.out)⟩
                case measure => simp [intOf]; omega
        · obtain rfl : k = xs.length := by omega
          have hr : Hid (splitsB xs = 0) := Lib.hid (by
            have hal := HAL.out
            unfold anyLong at hal
            unfold splitsB
            rw [if_neg h3, hal, if_neg (by simp), if_neg]
            simp only [Bool.not_eq_true]
            exact any_not fun j hj => by
              simp only [List.getElem_range]
              exact hag.out j (by simpa using hj))
          clear hag
          go_wp2
          go_ret
          exact ⟨by rw [hr.out]; rfl, rfl⟩
end Go.Proofs.Ythflkfgiclcdiaa
