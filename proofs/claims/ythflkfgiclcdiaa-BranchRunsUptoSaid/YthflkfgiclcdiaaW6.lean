/-
  Walks: at most n operations; the document's errors of splits and of requests (Few, refSplits, refCheck).
-/
import Derived.Test.YthflkfgiclcdiaaW3
import Derived.Test.YthflkfgiclcdiaaW2
namespace Go.Proofs.Ythflkfgiclcdiaa
open Go.RowKit Go.Gr
set_option linter.unusedSimpArgs false

theorem Few_ {w : World} {M : Nat → Prop} {v : Value} {xs : List DOp} {n : Nat} (h : (Ty.slice tOp).rep w M [v] xs) (hn : n ≤ 100) :
    Calls Try.prog 10 #[v, .int .i64 (n : Int)] w fun e w' => ∃ v', e = .returned v' ∧ (Ty.slice tOp).rep w M [v'] (xs.take n) ∧ w' = w := by
  obtain ⟨a, c, rfl, hc, hm, hl⟩ := Ty.slice_val h
  have H := Lib.hid h
  have hl' := hl
  rw [lim_eq] at hl'
  unfold maxLen at hm
  by_cases hx : n < xs.length
  · obtain ⟨b, off, es, rfl, _⟩ := Ty.slice_at h (by omega : 0 < xs.length)
    have hT : Hid ((Ty.slice tOp).rep w M [.slice (some ⟨b, off, none⟩) n c] (xs.take n)) := Lib.hid (Ty.slice_take h (by omega))
    clear h
    have hcc : ¬ c = 0 := by omega
    go_enter Try.func10, Try.ntmps10
    go_wp2
    go_ret
    exact ⟨_, rfl, hT.out, rfl⟩
  · clear h
    have hT : Hid (xs.take n = xs) := Lib.hid (List.take_of_length_le (by omega))
    go_enter Try.func10, Try.ntmps10
    go_wp2
    go_ret
    exact ⟨_, rfl, by rw [hT.out]; exact H.out, rfl⟩

/-- The document's error of splits. -/
def badSplit (l : List (List UInt8)) (i : Nat) : Bool := decide ((l[i]?.getD []).length = 0) || (decide (0 < i) && decide (0 ≤ cmpB (l[i - 1]?.getD []) (l[i]?.getD [])))
def splitsB (l : List (List UInt8)) : Int :=
  if 3 < l.length then 2 else if l.any (fun x => decide (64 < x.length)) then 2 else if (List.range l.length).any (badSplit l) then 3 else 0
theorem any_of_at {α : Type} {l : List α} {p : α → Bool} {k : Nat} (hk : k < l.length) (h : p l[k] = true) : l.any p = true := List.any_eq_true.2 ⟨l[k], List.getElem_mem hk, h⟩
theorem any_not {α : Type} {l : List α} {p : α → Bool} (h : ∀ j (hj : j < l.length), p l[j] = false) : l.any p = false := by
  rw [List.any_eq_false]
  intro x hx
  obtain ⟨j, hj, rfl⟩ := List.mem_iff_getElem.1 hx
  simp [h j hj]

set_option maxRecDepth 100000 in
set_option maxHeartbeats 2000000 in
theorem refSplits_ {w : World} {M : Nat → Prop} {v : Value} {xs : List (List UInt8)} (h : (Ty.slice Ty.bytes).rep w M [v] xs) :
    Calls Try.prog 11 #[v] w fun e w' => e = .returned (.int .i64 (splitsB xs)) ∧ ∃ n, w' = w.drewN n := by
  obtain ⟨a, c, rfl, hc, hm, hl⟩ := Ty.slice_val h
  have H := Lib.hid h
  rw [lim_eq] at hl
  clear h hc hm
  by_cases h3 : 3 < xs.length
  · have hr : Hid (splitsB xs = 2) := Lib.hid (if_pos h3)
    go_enter Try.func11, Try.ntmps11
    go_wp2
    go_ret
    exact ⟨by rw [hr.out]; rfl, 0, rfl⟩
  · go_enter Try.func11, Try.ntmps11
    go_wp2
    go_loop [3] (fun i => ∃ k : Nat, i = .int .i64 k ∧ k ≤ xs.length ∧ Hid (∀ j (hj : j < xs.length), j < k → xs[j].length ≤ 64)) (fun i => xs.length - (intOf i).toNat)
    case atStart => exact ⟨0, rfl, by omega, Lib.hid (fun j _ h => absurd h (by omega))⟩
    case round =>
      obtain ⟨k, rfl, hk, hag⟩ := hrel
      by_cases hlt : k < xs.length
      · obtain ⟨b1, o1, u1, rfl, hb1, _, hu1, hc1⟩ := Ty.slice_at1 rfl H.out hlt
        obtain ⟨a2, n2, rfl, _, _, hl2⟩ := Ty.slice_val hu1
        rw [lim_eq] at hl2
        clear hu1
        by_cases hbig : 64 < xs[k].length
        · have hr : Hid (splitsB xs = 2) := Lib.hid (by
            unfold splitsB
            rw [if_neg h3, if_pos (any_of_at hlt (by simpa using hbig))])
          go_wp2
          go_ret
          exact ⟨by rw [hr.out]; rfl, 0, rfl⟩
        · go_wp2
          go_round
          case rel =>
            refine ⟨k + 1, by go_num, by omega, Lib.hid (fun j hj hlt' => ?_)⟩
            rcases Nat.lt_or_ge j k with h' | h'
            · exact hag.out j hj h'
            · obtain rfl : j = k := by omega
              omega
          case measure => simp [intOf]; omega
      · obtain rfl : k = xs.length := by omega
        have hno : Hid (xs.any (fun x => decide (64 < x.length)) = false) := Lib.hid (any_not fun j hj => by have := hag.out j hj hj; simp; omega)
        clear hag
        go_wp2
        go_loopw [4] (fun i w' => ∃ k : Nat, i = .int .i64 k ∧ k ≤ xs.length ∧ Hid (∀ j, j < k → badSplit xs j = false) ∧ ∃ q, w' = w.drewN q) (fun i _ => xs.length - (intOf i).toNat)
        case atStart => exact ⟨0, rfl, by omega, Lib.hid (fun j h => absurd h (by omega)), 0, rfl⟩
        case round =>
          rename_i wr _
          obtain ⟨k, rfl, hk, hag, q, hq⟩ := hrel
          have hS : Step w wr := hq ▸ (Step.refl w).drewN q
          have HQ := Lib.hid hq
          clear hq
          by_cases hlt : k < xs.length
          · obtain ⟨b1, o1, u1, rfl, hb1, _, hu1, hc0⟩ := Ty.slice_at1 rfl H.out hlt
            have hc1 := (hS.cell hb1 _).trans hc0
            clear hc0
            obtain ⟨a2, n2, rfl, _, _, hl2⟩ := Ty.slice_val hu1
            have HU := Lib.hid hu1
            clear hu1
            have e1 : (0 : Int) ≤ (k : Int) := by omega
            have e2 : (k : Int) < (xs.length : Int) := by omega
            have hgk : Hid (xs[k]?.getD [] = xs[k]) := Lib.hid (by simp [hlt])
            have hres3 : ∀ (_ : badSplit xs k = true), splitsB xs = 3 := fun hb => by
              unfold splitsB
              rw [if_neg h3, hno.out, if_neg (by simp), if_pos]
              exact any_of_at (l := List.range xs.length) (by simpa using hlt) (by simpa using hb)
            have HR3 := Lib.hid hres3
            clear hres3
            have hnext : ∀ (_ : badSplit xs k = false), ∀ j, j < k + 1 → badSplit xs j = false := fun hb j hj => by
              rcases Nat.lt_or_ge j k with h' | h'
              · exact hag.out j h'
              · obtain rfl : j = k := by omega
                exact hb
            have HNX := Lib.hid hnext
            clear hnext
            by_cases hz : xs[k].length = 0
            · have hzb : ((xs[k].length : Int) == 0) = true := beq_iff_eq.2 (by omega)
              have hbad : Hid (badSplit xs k = true) := Lib.hid (by simp [badSplit, hgk.out, hz])
              go_wp2
              go_quiet (fail)
              go_wp2
              go_ret
              exact ⟨by rw [HR3.out hbad.out]; rfl, (by rw [HQ.out]; exact (by first | exact ⟨_, rfl⟩ | (simp only [World.drewN_drewN]; exact ⟨_, rfl⟩)))⟩
            · have hzb : ((xs[k].length : Int) == 0) = false := beq_eq_false_iff_ne.2 (by omega)
              rcases k with _ | k
              · have hbad : Hid (badSplit xs 0 = false) := Lib.hid (by simp [badSplit, hgk.out, hz])
                have hd0 : decide ((0 : Int) < ((0 : Nat) : Int)) = false := rfl
                rw [Nat.add_zero] at hc1
                go_wp2
                go_quiet (fail)
                go_wp2
                go_roundw
                case rel => exact ⟨1, by go_num, by omega, Lib.hid (HNX.out hbad.out), (by rw [HQ.out]; exact (by first | exact ⟨_, rfl⟩ | (simp only [World.drewN_drewN]; exact ⟨_, rfl⟩)))⟩
                case measure => simp [intOf]; omega
              · have hlt' : k < xs.length := by omega
                obtain ⟨b3, o3, u3, hb3, hb3', _, hu3, hc0⟩ := Ty.slice_at1 rfl H.out hlt'
                have hc3 := (hS.cell hb3' _).trans hc0
                clear hc0
                simp only [Option.some.injEq, Addr.mk.injEq, and_true] at hb3
                obtain ⟨rfl, rfl⟩ := hb3
                have HV := Lib.hid hu3
                clear hu3
                have e3 : (0 : Int) ≤ (k : Int) := by omega
                have e4 : (k : Int) < (xs.length : Int) := by omega
                have e5 : (0 : Int) < (k : Int) + 1 := by omega
                have e6 : (k : Int) + 1 < (xs.length : Int) := by omega
                have e7 : (0 : Int) ≤ (k : Int) + 1 := by omega
                have e8 : ((k : Int) + 1).toNat = k + 1 := by omega
                have e9 : IntKind.i64.wrap (k : Int) = (k : Int) := IntWalk.i64_in _ (by omega)
                have hd0 : decide ((0 : Int) < (k : Int) + 1) = true := decide_eq_true e5
                have hbs : Hid (badSplit xs (k + 1) = decide (0 ≤ cmpB xs[k] xs[k + 1])) := Lib.hid (by simp [badSplit, hgk.out, hz, hlt'])
                by_cases hcmp : 0 ≤ cmpB xs[k] xs[k + 1]
                · have hbad : Hid (badSplit xs (k + 1) = true) := Lib.hid (by rw [hbs.out]; exact decide_eq_true hcmp)
                  go_wp2
                  go_quiet ((go_at_call 45; refine Calls.quiet_of (Cmp_ (Ty.step _ HV.out (by (repeat (first | exact Step.refl _ | refine Step.alloc ?_ _ | refine Step.drew ?_ | refine Step.drewN ?_ _ | refine Step.setCell ?_ (by first | exact Nat.le_refl _ | assumption | omega | (simp; done) | (simp; omega)) _ | assumption | refine Step.trans ?_ (by assumption : Step _ _))))) (Ty.step _ HU.out (by (repeat (first | exact Step.refl _ | refine Step.alloc ?_ _ | refine Step.drew ?_ | refine Step.drewN ?_ _ | refine Step.setCell ?_ (by first | exact Nat.le_refl _ | assumption | omega | (simp; done) | (simp; omega)) _ | assumption | refine Step.trans ?_ (by assumption : Step _ _))))))))
                  go_wp2
                  go_ret
                  exact ⟨by rw [HR3.out hbad.out]; rfl, (by rw [HQ.out]; exact (by first | exact ⟨_, rfl⟩ | (simp only [World.drewN_drewN]; exact ⟨_, rfl⟩)))⟩
                · have hbad : Hid (badSplit xs (k + 1) = false) := Lib.hid (by rw [hbs.out]; exact decide_eq_false hcmp)
                  go_wp2
                  go_quiet ((go_at_call 45; refine Calls.quiet_of (Cmp_ (Ty.step _ HV.out (by (repeat (first | exact Step.refl _ | refine Step.alloc ?_ _ | refine Step.drew ?_ | refine Step.drewN ?_ _ | refine Step.setCell ?_ (by first | exact Nat.le_refl _ | assumption | omega | (simp; done) | (simp; omega)) _ | assumption | refine Step.trans ?_ (by assumption : Step _ _))))) (Ty.step _ HU.out (by (repeat (first | exact Step.refl _ | refine Step.alloc ?_ _ | refine Step.drew ?_ | refine Step.drewN ?_ _ | refine Step.setCell ?_ (by first | exact Nat.le_refl _ | assumption | omega | (simp; done) | (simp; omega)) _ | assumption | refine Step.trans ?_ (by assumption : Step _ _))))))))
                  go_wp2
                  go_roundw
                  case rel => exact ⟨k + 1 + 1, by go_num, by omega, Lib.hid (HNX.out hbad.out), (by rw [HQ.out]; exact (by first | exact ⟨_, rfl⟩ | (simp only [World.drewN_drewN]; exact ⟨_, rfl⟩)))⟩
                  case measure => simp [intOf]; omega
          · obtain rfl : k = xs.length := by omega
            have hr : Hid (splitsB xs = 0) := Lib.hid (by
              unfold splitsB
              rw [if_neg h3, hno.out, if_neg (by simp), if_neg]
              simp only [Bool.not_eq_true]
              exact any_not fun j hj => by
                simp only [List.getElem_range]
                exact hag.out j (by simpa using hj))
            go_wp2
            go_ret
            exact ⟨by rw [hr.out]; rfl, (by rw [HQ.out]; exact (by first | exact ⟨_, rfl⟩ | (simp only [World.drewN_drewN]; exact ⟨_, rfl⟩)))⟩
end Go.Proofs.Ythflkfgiclcdiaa
