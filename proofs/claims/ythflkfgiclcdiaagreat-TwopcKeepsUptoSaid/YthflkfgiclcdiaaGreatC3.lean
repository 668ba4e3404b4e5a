/-
  Walk: Retry.
-/
import Derived.Test.YthflkfgiclcdiaaGreatC2
import Derived.Test.YthflkfgiclcdiaaGreatW10
namespace Go.Proofs.YthflkfgiclcdiaaGreat
open Go.Gr Go.RowKit
set_option linter.unusedSimpArgs false
theorem stSends : SliceTy Tryz.prog 34 41 tSend.n := .mk' (z := .agg #[.int .i64 0, .int .i64 0, .int .u64 0, .int .u64 0, .int .u64 0, .int .u64 0, .int .u64 0, .int .u64 0, .slice none 0 0, .bool false, .slice none 0 0, .int .u64 0, .string ⟨#[]⟩]) (by_ := 144) Tryz.underlying34 (by kernel_rfl) rfl (by decide) (by omega)
/-- What is sent: asks by rising shards. -/
def sendsOf (o : Option (List (Int × DAsk))) : List DSend := (o.getD []).map fun p => ⟨p.1, p.2⟩
set_option maxRecDepth 100000 in
set_option maxHeartbeats 4000000 in
theorem Retry_ {w : World} {B cb : Nat} {c : DCoord} (h : CoordRep w B cb c) :
    Calls Tryz.prog 11 #[.pointer (some ⟨cb, 0, none⟩)] w fun e w' => ∃ v', e = .returned v' ∧ Own tSend 41 w' (· < w.heap.size) w.heap.size v' (sendsOf c.out) ∧ Step w w' := by
  obtain ⟨vo, vp, mo, mu, vs, vr, h⟩ := h
  have hcb := h.lt
  have p8 : w.cell? ⟨cb, 8, none⟩ = some mu := h.cells.cell 8
  have hmu := h.out
  generalize coM B cb mo mu = M at hmu
  clear h
  generalize c.out = o at *
  have hov := hmu.val
  generalize mapBlock mu = ob at hov
  subst hov
  have HU := Lib.hid hmu
  clear hmu
  go_enter Tryz.func11, Tryz.ntmps11
  go_wp2_with (first
    | (go_at_call 53; refine (mkeys_ _ _).mono ?_; rintro e w1 ⟨rfl, rfl⟩)
    | (go_at_call 52; refine (sortedKeysV_ HU.out).mono ?_; rintro e w1 ⟨v1, rfl, hA1, hS1⟩; obtain ⟨a1, c1, rfl⟩ := hA1.val; have HA1 := Lib.hid hA1; clear hA1))
  have hol : Hid (∀ l, o = some l → l.length ≤ 1048576) := Lib.hid (fun l hl => by subst hl; obtain ⟨b, _, _, _, h, _⟩ := HU.out; exact h)
  have hln : (sendsOf o).length ≤ 1048576 := by
    rcases o with _ | l
    · simp [sendsOf]
    · simpa [sendsOf] using hol.out l rfl
  have hkl : (o.getD []).length = (sendsOf o).length := by simp [sendsOf]
  have HKL := Lib.hid hkl
  clear hkl
  go_loopw [3, 14] (fun out i w' => ∃ k : Nat, i = .int .i64 k ∧ k ≤ (o.getD []).length ∧ Own tSend 41 w' (· < w1.heap.size) w1.heap.size out ((sendsOf o).take k) ∧ Step w1 w') (fun _ i _ => (o.getD []).length - (intOf i).toNat)
  case atStart => exact ⟨0, rfl, by omega, Own.nil, Step.refl _⟩
  case round =>
    obtain ⟨k, rfl, hk, hA, hB1⟩ := hrel
    have hB := hS1.trans hB1
    have HA := Lib.hid hA
    clear hA
    have hsz := hB.size
    have hsz1 := hS1.size
    have hsz2 := hB1.size
    by_cases hlt : k < (o.getD []).length
    · rcases o with _ | l
      · simp at hlt
      simp only [Option.getD_some] at *
      obtain ⟨b, hb, hm, hM, hl, hx⟩ := HU.out
      obtain rfl : ob = some b := by simpa using hb
      have hx1 := hx _ (List.getElem_mem hlt)
      obtain ⟨⟨L⟩, hrep, hrun⟩ := (hm.step hB).at (t := 123) Tryz.underlying3 Tryz.underlying123 (Tryz.zeroValue39 wr) false hlt hx1
      have hll : l.length ≤ 1048576 := hl
      have HX1 := Lib.hid hx1
      obtain ⟨ac7, ac9, hcs, ah⟩ := hrep
      simp only at hcs
      subst hcs
      obtain ⟨ah0, ah1, ah2, ah3, ah4, ah5, ah6, ah7, ah8, ah9, ah10⟩ := ah
      obtain ⟨aa7, an7, rfl, _⟩ := Ty.slice_val ah7
      obtain ⟨aa9, an9, rfl, _⟩ := Ty.slice_val ah8
      have AH := Lib.hid (And.intro ah0 (And.intro ah1 (And.intro ah2 (And.intro ah3 (And.intro ah4 (And.intro ah5 (And.intro ah6 (And.intro ah9 ah10))))))))
      have AH7 := Lib.hid ah7
      have AH8 := Lib.hid ah8
      clear ah0 ah1 ah2 ah3 ah4 ah5 ah6 ah7 ah8 ah9 ah10 hm hM hl hx hb hx1
      have p8' : wr.cell? ⟨cb, 8, none⟩ = some (.map (some b)) := (hB.cell hcb 8).trans p8
      obtain ⟨kb, ko, ku, hkk, hkb, _, hku, hkc⟩ := Ty.slice_at1 rfl (Own.rep HA1.out (fun _ h => h.elim)) (k := k) (by simpa using hlt)
      subst hkk
      obtain ⟨hku1, _⟩ := hku
      obtain rfl : ku = .int .i64 l[k].1 := by simpa using hku1
      have hkc' := (hB1.cell hkb _).trans hkc
      clear hku1 hkc
      have htk : Hid ((sendsOf (some l)).take (k + 1) = (sendsOf (some l)).take k ++ [⟨l[k].1, l[k].2⟩]) := Lib.hid (by rw [List.take_succ_eq_append_getElem (by simpa [sendsOf] using hlt)]; simp [sendsOf])
      go_wp2
      refine wp_region_cut (S := (fun w' => w'.cell? ⟨wr.heap.size, 7, none⟩ = some (.slice aa7 l[k].2.ops.length an7) ∧ w'.cell? ⟨wr.heap.size, 9, none⟩ = some (.slice aa9 l[k].2.reply.length an9))) 7 (by kernel_rfl) ?_ (fun hHeld => ?_)
      · (go_keep)
      refine wpAnyC_take (i := 0) (v := ?_) rfl (by kernel_rfl) (by kernel_rfl) (by kernel_rfl) (by decide) [1, 2, 5, 6, 7, 8, 9] (by kernel_rfl) (fun _ _ _ h => h) (Or.inl ⟨by rfl, ?_⟩) (by assumption) ?_
      rotate_left 1
      · (intro w hSw; (try dsimp only at hSw); go_simp; (try with_reducible rfl))
      try simp only [Act.put, List.getElem_toArray, List.getElem_cons_succ, List.getElem_cons_zero, List.setIfInBounds_toArray, List.set_cons_zero, List.set_cons_succ]
      refine wpAnyC_take (i := 1) (v := ?_) rfl (by kernel_rfl) (by kernel_rfl) (by kernel_rfl) (by decide) [2, 5, 6, 7, 8, 9] (by kernel_rfl) (fun _ _ _ h => h) (Or.inl ⟨by rfl, ?_⟩) (by assumption) ?_
      rotate_left 1
      · (intro w hSw; (try dsimp only at hSw); go_simp; (try with_reducible rfl))
      try simp only [Act.put, List.getElem_toArray, List.getElem_cons_succ, List.getElem_cons_zero, List.setIfInBounds_toArray, List.set_cons_zero, List.set_cons_succ]
      refine wpAnyC_take (i := 3) (v := ?_) rfl (by kernel_rfl) (by kernel_rfl) (by kernel_rfl) (by decide) [4, 5, 6, 7, 8, 9] (by kernel_rfl) (fun _ _ _ h => h) (Or.inl ⟨by rfl, ?_⟩) (by assumption) ?_
      rotate_left 1
      · (intro w hSw; (try dsimp only at hSw); go_simp; (try with_reducible rfl))
      try simp only [Act.put, List.getElem_toArray, List.getElem_cons_succ, List.getElem_cons_zero, List.setIfInBounds_toArray, List.set_cons_zero, List.set_cons_succ]
      refine wpAnyC_take (i := 4) (v := ?_) rfl (by kernel_rfl) (by kernel_rfl) (by kernel_rfl) (by decide) [5, 6, 7, 8, 9] (by kernel_rfl) (fun _ _ _ h => h) (Or.inl ⟨by rfl, ?_⟩) (by assumption) ?_
      rotate_left 1
      · (intro w hSw; (try dsimp only at hSw); go_simp; (try with_reducible rfl))
      try simp only [Act.put, List.getElem_toArray, List.getElem_cons_succ, List.getElem_cons_zero, List.setIfInBounds_toArray, List.set_cons_zero, List.set_cons_succ]
      refine wpAnyC_ready (rs := [2]) (by kernel_rfl) (by simp) ?_
      refine AllReadyC.cons rfl (by decide) (fun K hK => ?_) AllReadyC.nil
      try simp only [List.getElem_toArray, List.getElem_cons_succ, List.getElem_cons_zero]
      go_simp
      (go_at_call 43; refine (twin_ _ _ _ _ (by refine Ty.step _ (Hid.out (by assumption)) ?_; (repeat (first | exact Step.refl _ | refine Step.alloc ?_ _ | refine Step.drew ?_ | refine Step.drewN ?_ _ | refine Step.setCell ?_ (by first | exact Nat.le_refl _ | assumption | omega | (simp; done) | (simp; omega)) _ | assumption | refine Step.trans ?_ (by assumption : Step _ _))))).mono ?_; rintro e2 w2 ⟨v2, rfl, hA2, hS2⟩; obtain ⟨b2, m2, rfl⟩ := hA2.val; have f2_0 : ∀ j, w2.frozen? ⟨wr.heap.size, j, none⟩ = _ := fun j => hS2.frozen (by first | assumption | omega | (simp; done) | (simp; omega)) j; have s2_0 : ∀ j, w2.cell? ⟨wr.heap.size, j, none⟩ = _ := fun j => hS2.cell (by first | assumption | omega | (simp; done) | (simp; omega)) j; have z2_0 : wr.heap.size < w2.heap.size := Nat.lt_of_lt_of_le (by first | assumption | omega | (simp; done) | (simp; omega)) hS2.size; have HA2 := Lib.hid hA2; clear hA2)
      refine hK.out _ _ ?_ (fun hHeld => ?_)
      · (go_keep)
      clear hK K
      try simp only [Act.put, List.getElem_toArray, List.getElem_cons_succ, List.getElem_cons_zero, List.setIfInBounds_toArray, List.set_cons_zero, List.set_cons_succ]
      refine wpAnyC_take (i := 6) (v := ?_) rfl (by kernel_rfl) (by kernel_rfl) (by kernel_rfl) (by decide) [7, 8, 9] (by kernel_rfl) (fun _ _ _ h => h) (Or.inl ⟨by rfl, ?_⟩) (by assumption) ?_
      rotate_left 1
      · (intro w hSw; (try dsimp only at hSw); go_simp; (try with_reducible rfl))
      try simp only [Act.put, List.getElem_toArray, List.getElem_cons_succ, List.getElem_cons_zero, List.setIfInBounds_toArray, List.set_cons_zero, List.set_cons_succ]
      refine wpAnyC_ready (rs := [5]) (by kernel_rfl) (by simp) ?_
      refine AllReadyC.cons rfl (by decide) (fun K hK => ?_) AllReadyC.nil
      try simp only [List.getElem_toArray, List.getElem_cons_succ, List.getElem_cons_zero]
      go_simp
      (go_at_call 54; refine (Clone_ _ _ _ _ (by refine Ty.step _ (Hid.out (by assumption)) ?_; (repeat (first | exact Step.refl _ | refine Step.alloc ?_ _ | refine Step.drew ?_ | refine Step.drewN ?_ _ | refine Step.setCell ?_ (by first | exact Nat.le_refl _ | assumption | omega | (simp; done) | (simp; omega)) _ | assumption | refine Step.trans ?_ (by assumption : Step _ _))))).mono ?_; rintro e3 w3 ⟨v3, rfl, hA3, hS3⟩; obtain ⟨b3, m3, rfl⟩ := hA3.val; have f3_0 : ∀ j, w3.frozen? ⟨wr.heap.size, j, none⟩ = _ := fun j => hS3.frozen (by first | assumption | omega | (simp; done) | (simp; omega)) j; have s3_0 : ∀ j, w3.cell? ⟨wr.heap.size, j, none⟩ = _ := fun j => hS3.cell (by first | assumption | omega | (simp; done) | (simp; omega)) j; have z3_0 : wr.heap.size < w3.heap.size := Nat.lt_of_lt_of_le (by first | assumption | omega | (simp; done) | (simp; omega)) hS3.size; have HA3 := Lib.hid hA3; clear hA3)
      refine hK.out _ _ ?_ (fun hHeld => ?_)
      · (go_keep)
      clear hK K
      try simp only [Act.put, List.getElem_toArray, List.getElem_cons_succ, List.getElem_cons_zero, List.setIfInBounds_toArray, List.set_cons_zero, List.set_cons_succ]
      refine wpAnyC_ready (rs := [7]) (by kernel_rfl) (by simp) ?_
      refine AllReadyC.cut rfl (fun K hK => ?_)
      try simp only [List.getElem_toArray, List.getElem_cons_succ, List.getElem_cons_zero]
      go_simp
      refine hK.out _ _ trivial (fun hHeld => ?_)
      clear hK K
      try simp only [Act.put, List.getElem_toArray, List.getElem_cons_succ, List.getElem_cons_zero, List.setIfInBounds_toArray, List.set_cons_zero, List.set_cons_succ]
      have hTrue : True := trivial
      refine wpAnyH_take (i := 8) (v := ?_) rfl (by kernel_rfl) (by kernel_rfl) (by kernel_rfl) (fun _ _ _ h => h) (Or.inl ⟨by rfl, ?_⟩) (by assumption) ?_
      rotate_left 1
      · (intro w hSw; (try dsimp only at hSw); go_simp; (try with_reducible rfl))
      try simp only [Act.put, List.getElem_toArray, List.getElem_cons_succ, List.getElem_cons_zero, List.setIfInBounds_toArray, List.set_cons_zero, List.set_cons_succ]
      refine wpAnyH_ready (rs := [9]) (by kernel_rfl) (by simp) ?_
      refine AllReadyH.cons rfl (fun K hK => ?_) AllReadyH.nil
      try simp only [List.getElem_toArray, List.getElem_cons_succ, List.getElem_cons_zero]
      go_simp
      refine hK.out _ _ trivial (fun hHeld => ?_)
      clear hK K
      try simp only [Act.put, List.getElem_toArray, List.getElem_cons_succ, List.getElem_cons_zero, List.setIfInBounds_toArray, List.set_cons_zero, List.set_cons_succ]
      refine wpAnyH_done (by kernel_rfl) ?_ _
      go_wp2_with (at_builtin; refine wpList_append_acc (ys := [⟨l[k].1, l[k].2⟩]) rfl (.tmp 32) (.tmp 36) rfl stSends (by (repeat (first | exact Step.refl _ | refine Step.alloc ?_ _ | refine Step.drew ?_ | refine Step.drewN ?_ _ | refine Step.setCell ?_ (by first | exact Nat.le_refl _ | assumption | omega | (simp; done) | (simp; omega)) _ | assumption | refine Step.trans ?_ (by assumption : Step _ _)))) (Own.step HA.out (by (repeat (first | exact Step.refl _ | refine Step.alloc ?_ _ | refine Step.drew ?_ | refine Step.drewN ?_ _ | refine Step.setCell ?_ (by first | exact Nat.le_refl _ | assumption | omega | (simp; done) | (simp; omega)) _ | assumption | refine Step.trans ?_ (by assumption : Step _ _))))) (Src.oneAt (E := tSend) (y := ⟨l[k].1, l[k].2⟩) (by simp) ⟨_, _, rfl, HX1.out, AH.out.1, AH.out.2.1, AH.out.2.2.1, AH.out.2.2.2.1, AH.out.2.2.2.2.1, AH.out.2.2.2.2.2.1, AH.out.2.2.2.2.2.2.1, Own.fresh (Own.set (Own.set (by refine Own.step (Hid.out (by assumption)) ?_; (repeat (first | exact Step.refl _ | refine Step.alloc ?_ _ | refine Step.drew ?_ | refine Step.drewN ?_ _ | refine Step.setCell ?_ (by first | exact Nat.le_refl _ | assumption | omega | (simp; done) | (simp; omega)) _ | assumption | refine Step.trans ?_ (by assumption : Step _ _)))) (by first | assumption | omega | (simp; done) | (simp; omega)) (by first | assumption | omega | (simp; done) | (simp; omega)) _) (by first | assumption | omega | (simp; done) | (simp; omega)) (by first | assumption | omega | (simp; done) | (simp; omega)) _) (fun b hb => Nat.lt_trans (HA.out.old (by (repeat (first | exact Step.refl _ | refine Step.alloc ?_ _ | refine Step.drew ?_ | refine Step.drewN ?_ _ | refine Step.setCell ?_ (by first | exact Nat.le_refl _ | assumption | omega | (simp; done) | (simp; omega)) _ | assumption | refine Step.trans ?_ (by assumption : Step _ _)))) b hb) (by first | assumption | omega | (simp; done) | (simp; omega))), Own.fresh (Own.set (Own.set (by refine Own.step (Hid.out (by assumption)) ?_; (repeat (first | exact Step.refl _ | refine Step.alloc ?_ _ | refine Step.drew ?_ | refine Step.drewN ?_ _ | refine Step.setCell ?_ (by first | exact Nat.le_refl _ | assumption | omega | (simp; done) | (simp; omega)) _ | assumption | refine Step.trans ?_ (by assumption : Step _ _)))) (by first | assumption | omega | (simp; done) | (simp; omega)) (by first | assumption | omega | (simp; done) | (simp; omega)) _) (by first | assumption | omega | (simp; done) | (simp; omega)) (by first | assumption | omega | (simp; done) | (simp; omega)) _) (fun b hb => Nat.lt_trans (HA.out.old (by (repeat (first | exact Step.refl _ | refine Step.alloc ?_ _ | refine Step.drew ?_ | refine Step.drewN ?_ _ | refine Step.setCell ?_ (by first | exact Nat.le_refl _ | assumption | omega | (simp; done) | (simp; omega)) _ | assumption | refine Step.trans ?_ (by assumption : Step _ _)))) b hb) (by first | assumption | omega | (simp; done) | (simp; omega))), AH.out.2.2.2.2.2.2.2⟩) (by rw [List.length_take, lim_eq]; simp; omega) rfl rfl ?_; intro v5 w5 hA5 hB5 _ _; have HA5 := Lib.hid hA5; clear hA5)
      go_roundw
      case rel => exact ⟨k + 1, by go_num, hlt, by rw [htk.out]; exact HA5.out, hB5⟩
      case measure => simp [intOf]; omega
    · go_wp2
      go_ret
      obtain rfl : k = (o.getD []).length := by omega
      refine ⟨_, rfl, ?_, hB⟩
      have h9 := HA.out
      rw [HKL.out, List.take_length] at h9
      exact (Own.base h9 hS1.size).less (fun b _ hb => Nat.lt_of_lt_of_le hb hS1.size)
end Go.Proofs.YthflkfgiclcdiaaGreat
