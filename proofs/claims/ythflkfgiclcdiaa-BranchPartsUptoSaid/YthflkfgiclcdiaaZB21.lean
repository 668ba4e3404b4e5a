/-
  Walk: the shard of a key (Route).
-/
import Derived.Test.YthflkfgiclcdiaaZB13
set_option linter.unusedVariables false
set_option linter.unusedSimpArgs false
namespace Go.Proofs.Ythflkfgiclcdiaa
open Go.RowKit Go.Gr
set_option linter.unusedSimpArgs false
/-- The shard of a key. -/
def routeB (sp : List (List UInt8)) (key : List UInt8) : Nat := sp.findIdx fun s => decide (cmpB key s < 0)
theorem routeB_at {sp : List (List UInt8)} {key : List UInt8} {k : Nat} (hk : k < sp.length) (hno : ∀ j (hj : j < sp.length), j < k → ¬ cmpB key sp[j] < 0) (he : cmpB key sp[k] < 0) : routeB sp key = k := by
  unfold routeB
  rw [List.findIdx_eq hk]
  exact ⟨decide_eq_true he, fun j hj => decide_eq_false (hno j (by omega) hj)⟩
theorem routeB_out {sp : List (List UInt8)} {key : List UInt8} (hno : ∀ j (hj : j < sp.length), ¬ cmpB key sp[j] < 0) : routeB sp key = sp.length := by
  unfold routeB
  rw [List.findIdx_eq_length]
  intro x hx
  obtain ⟨j, hj, rfl⟩ := List.getElem_of_mem hx
  exact decide_eq_false (hno j hj)
set_option maxRecDepth 100000 in
set_option maxHeartbeats 2000000 in
theorem refRoute_ {w : World} {M M' : Nat → Prop} {v kv : Value} {sp : List (List UInt8)} {key : List UInt8} (h : (Ty.slice Ty.bytes).rep w M [v] sp) (hk : Ty.bytes.rep w M' [kv] key) :
    Calls Try.prog 37 #[v, kv] w fun e w' => e = .returned (.int .i64 (routeB sp key : Int)) ∧ ∃ n, w' = w.drewN n := by
  obtain ⟨a, c, rfl, _, _, hl⟩ := Ty.slice_val h
  obtain ⟨ka, kc, rfl, _⟩ := Ty.slice_val hk
  rw [lim_eq] at hl
  have H := Lib.hid h
  have HK := Lib.hid hk
  obtain ⟨G, hG⟩ : ∃ G, routeB sp key = G := ⟨_, rfl⟩
  rw [hG]
  have HG := Lib.hid hG
  clear h hk hG
  go_enter Try.func37, Try.ntmps37
  go_wp2
  go_loopw [5] (fun i w' => ∃ k : Nat, i = .int .i64 k ∧ k ≤ sp.length ∧ Hid (∀ j (hj : j < sp.length), j < k → ¬ cmpB key sp[j] < 0) ∧ ∃ n, w' = w.drewN n) (fun i _ => sp.length - (Go.RowKit.intOf i).toNat)
  case atStart => exact ⟨0, rfl, by omega, Lib.hid (fun j _ h => absurd h (by omega)), 0, rfl⟩
  case round =>
    obtain ⟨k, rfl, hk, hag, n, hn⟩ := hrel
    have hB : Step w wr := hn ▸ (Step.refl w).drewN n
    have HN := Lib.hid hn
    clear hn
    by_cases hlt : k < sp.length
    · obtain ⟨pb, po, pu, rfl, hpb, _, hpu, hpc⟩ := Ty.slice_at1 rfl H.out hlt
      obtain ⟨pa, pn, rfl, _⟩ := Ty.slice_val hpu
      have hp := (hB.cell hpb _).trans hpc
      have HCM := Lib.hid (fun (X : World) (hX : Step wr X) => Cmp_ (Ty.step _ (Ty.step _ HK.out hB) hX) (Ty.step _ (Ty.step _ hpu hB) hX))
      clear hpu hpc
      by_cases he : cmpB key sp[k] < 0
      · obtain rfl : k = G := (routeB_at hlt hag.out he).symm.trans HG.out
        have hd : decide (cmpB key sp[k] < 0) = true := decide_eq_true he
        go_wp2_with (go_at_call 45; refine (HCM.out _ (by (repeat (first | exact Step.refl _ | refine Step.alloc ?_ _ | refine Step.drew ?_ | refine Step.drewN ?_ _ | refine Step.setCell ?_ (by first | exact Nat.le_refl _ | assumption | omega | (simp; done) | (simp; omega)) _ | assumption | refine Step.trans ?_ (by assumption : Step _ _))))).mono ?_; rintro e w2 ⟨rfl, n2, rfl⟩)
        go_ret
        exact ⟨rfl, by rw [HN.out]; exact (by first | exact ⟨_, rfl⟩ | (simp only [World.drewN_drewN]; exact ⟨_, rfl⟩))⟩
      · have hd : decide (cmpB key sp[k] < 0) = false := decide_eq_false he
        have HE := Lib.hid he
        have he' : 0 ≤ cmpB key sp[k] := by omega
        clear he
        go_wp2_with (go_at_call 45; refine (HCM.out _ (by (repeat (first | exact Step.refl _ | refine Step.alloc ?_ _ | refine Step.drew ?_ | refine Step.drewN ?_ _ | refine Step.setCell ?_ (by first | exact Nat.le_refl _ | assumption | omega | (simp; done) | (simp; omega)) _ | assumption | refine Step.trans ?_ (by assumption : Step _ _))))).mono ?_; rintro e w2 ⟨rfl, n2, rfl⟩)
        go_roundw
        case rel =>
          refine ⟨k + 1, by go_num, by omega, Lib.hid (fun j hj hlt' => ?_), by rw [HN.out]; exact (by first | exact ⟨_, rfl⟩ | (simp only [World.drewN_drewN]; exact ⟨_, rfl⟩))⟩
          rcases Nat.lt_or_ge j k with h' | h'
          · have h9 := hag.out j hj h'
            omega
          · obtain rfl : j = k := by omega
            have h9 := HE.out
            omega
        case measure => ((try simp [Go.RowKit.intOf]); omega)
    · obtain rfl : k = sp.length := by omega
      have hG : sp.length = G := (routeB_out (fun j hj => hag.out j hj hj)).symm.trans HG.out
      have HGL := Lib.hid hG
      clear hG hag
      go_wp2
      go_ret
      exact ⟨by rw [← HGL.out]; rfl, by rw [HN.out]; exact (by first | exact ⟨_, rfl⟩ | (simp only [World.drewN_drewN]; exact ⟨_, rfl⟩))⟩
end Go.Proofs.Ythflkfgiclcdiaa
