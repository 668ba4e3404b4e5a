/-
  Walks: Coord.worked where others are still to answer; a clone of ints.
-/
import Derived.Test.YthflkfgiclcdiaaGreatC11
import Derived.Test.YthflkfgiclcdiaaGreatMapsB
namespace Go.Proofs.YthflkfgiclcdiaaGreat
open Go.Gr Go.RowKit
set_option linter.unusedSimpArgs false
set_option maxHeartbeats 400000 in
theorem CloneInts_ (w : World) (M M' : Nat → Prop) (v : Value) (xs : List Int) (h : (Ty.slice Ty.int).rep w M [v] xs) (hM : ∀ b, b < w.heap.size → M' b → M b) :
    Calls Tryz.prog 63 #[v] w fun e w' => ∃ v', e = .returned v' ∧ Own Ty.int 3 w' M' w.heap.size v' xs ∧ Step w w' := by
  obtain ⟨a, c, rfl, hc, hm, hl⟩ := Ty.slice_val h
  have H := Lib.hid h
  have HM := Lib.hid hM
  clear hM
  have hnil := Lib.run_eql_slice_nil (P := Tryz.prog) w 61 3 a xs.length c 0 0 Tryz.underlying61
  rcases a with _ | a
  · have h0 : xs = [] := Ty.slice_none h
    subst h0
    simp only [List.length_nil] at hnil ⊢
    clear hc hl
    clear h
    go_enter Tryz.func63, Tryz.ntmps63
    go_wp2
    go_ret
    exact ⟨_, rfl, Own.nil, Step.refl _⟩
  · clear h
    go_enter Tryz.func63, Tryz.ntmps63
    go_wp2_with (at_builtin; refine wpList_append_acc (xs := []) (ys := xs) rfl (.tmp 5) (.tmp 6) rfl stInts ((Step.refl w).alloc _) (M := M') (Own.lit rfl (by simp) (Nat.le_refl _) rfl (by simp)) (Src.later H.out (by (repeat (first | exact Step.refl _ | refine Step.alloc ?_ _ | refine Step.drew ?_ | refine Step.drewN ?_ _ | refine Step.setCell ?_ (by first | exact Nat.le_refl _ | assumption | omega | (simp; done) | (simp; omega)) _ | assumption | refine Step.trans ?_ (by assumption : Step _ _)))) (fun b hb h => HM.out b hb (h.resolve_right (old_ne hb)))) (by simpa using hl) rfl rfl ?_; intro v' w' ha hb hg hp)
    go_ret
    exact ⟨v', rfl, by simpa using ha, hb⟩
theorem CoordIn.grownOuts {w w' : World} {B cb ob : Nat} {c : DCoord} {l l' : List (Int × DOutcome)} {vo vp mu vs vr : Value} (h : CoordIn w B cb { c with outs := some l } vo vp (.map (some ob)) mu vs vr) (hg : w.grownBy w' (some ob))
    (hm : MapT Tryz.prog 3 tOutcome w' (coM B cb (.map (some ob)) mu) ob l') (hl : l'.length ≤ 1048576) (hk : ∀ p ∈ l', I64 p.1) : CoordIn w' B cb { c with outs := some l' } vo vp (.map (some ob)) mu vs vr := by
  have hK : Kept (coM B cb (.map (some ob)) mu) w w' := Kept.grown hg (fun b hb => .inr (.inr (.inl hb)))
  have hcn : cb ≠ ob := fun e => h.mo_ne (b := ob) rfl e.symm
  refine ⟨h.cells.kept (hg.block cb h.lt (fun e => hcn (by injection e))), h.base, h.txn, Ty.kept _ h.ops hK, Ty.kept _ h.parts hK, Ty.kept _ h.shards hK, Ty.kept _ h.reply hK, ⟨ob, rfl, hm, .inr (.inr (.inl rfl)), hl, hk⟩, ?_, h.omo, h.omu, h.apart, h.few, h.patience⟩
  exact h.out.keep (fun b hb => ⟨hg.block b (h.out.lt hb) (fun e => h.apart ob rfl (by injection e with e; rw [hb, e])), .inr (.inr (.inr hb))⟩) fun b h1 h2 => ⟨hK b h1 h2, h2⟩
theorem filter_i64 {α : Type} {l : List (Int × α)} {s : Int} (h : ∀ p ∈ l, I64 p.1) : ∀ p ∈ l.filter (fun p => p.1 != s), I64 p.1 := fun p hp => h p (List.mem_filter.1 hp).1
theorem filter_le {α : Type} {l : List (Int × α)} {s : Int} {n : Nat} (h : l.length ≤ n) : (l.filter (fun p => p.1 != s)).length ≤ n := Nat.le_trans (List.length_filter_le _ _) h
set_option maxRecDepth 100000 in
set_option maxHeartbeats 4000000 in
theorem worked_ {w : World} {B cb ob nb : Nat} {c : DCoord} {l : List (Int × DAsk)} {vo vp vs vr v3 : Value} {at_ : Int} {x : DAnswer} (h : CoordIn w B cb { c with outs := some [], out := some l } vo vp (.map (some ob)) (.map (some nb)) vs vr) (hat : I64 at_)
    (hx : x.err = 0) (hne : l.filter (fun p => p.1 != at_) ≠ []) :
    Calls Tryz.prog 57 #[.pointer (some ⟨cb, 0, none⟩), .int .i64 at_, .agg (ansCells x 0 0 (.slice none 0 0) (.slice none 0 0) v3)] w fun e w' => e = .returned (.slice none 0 0) ∧
      CoordIn w' B cb { c with outs := some [(at_, ⟨0, 0, [], []⟩)], out := some (l.filter (fun p => p.1 != at_)) } vo vp (.map (some ob)) (.map (some nb)) vs vr ∧ Turn (fun b => b = ob ∨ b = nb) w w' := by
  have hcb := h.lt
  have p5 : w.cell? ⟨cb, 5, none⟩ = some (.map (some ob)) := h.cells.cell 5
  have p8 : w.cell? ⟨cb, 8, none⟩ = some (.map (some nb)) := h.cells.cell 8
  have hob := h.outs.lt (b := ob) rfl
  have hnb := h.out.lt (b := nb) rfl
  have hoc : ob ≠ cb := h.mo_ne rfl
  have HMO : Hid (MapT Tryz.prog 3 tOutcome w (coM B cb (.map (some ob)) (.map (some nb))) ob []) := Lib.hid (by
    obtain ⟨b', hb', hm, _⟩ := h.outs
    obtain rfl : ob = b' := by simpa using hb'
    exact hm)
  have H := Lib.hid h
  have HNE := Lib.hid hne
  have HAT := Lib.hid hat
  clear h hne
  unfold ansCells
  rw [hx]
  go_enter Tryz.func57, Tryz.ntmps57
  go_upto_region 4 with fail
  refine wp_region_cut (S := (fun w' => w'.cell? ⟨cb, 5, none⟩ = some (.map (some ob)) ∧ w'.cell? ⟨w.heap.size + 1, 0, none⟩ = some (.int .i64 0) ∧ w'.cell? ⟨w.heap.size + 1, 1, none⟩ = some (.int .i64 0) ∧ w'.cell? ⟨w.heap.size + 1, 2, none⟩ = some (.slice none 0 0) ∧ w'.cell? ⟨w.heap.size + 1, 3, none⟩ = some (.slice none 0 0))) 6 (by kernel_rfl) ?_ (fun hHeld => ?_)
  · (go_keep)
  refine wpAnyC_take (i := 0) (v := ?_) rfl (by kernel_rfl) (by kernel_rfl) (by kernel_rfl) (by decide) [1, 2, 3, 6] (by kernel_rfl) (fun _ _ _ h => h) (Or.inl ⟨by rfl, ?_⟩) (by assumption) ?_
  rotate_left 1
  · (intro w hSw; (try dsimp only at hSw); go_simp; (try with_reducible rfl))
  try simp only [Act.put, List.getElem_toArray, List.getElem_cons_succ, List.getElem_cons_zero, List.setIfInBounds_toArray, List.set_cons_zero, List.set_cons_succ]
  refine wpAnyC_take (i := 1) (v := ?_) rfl (by kernel_rfl) (by kernel_rfl) (by kernel_rfl) (by decide) [2, 3, 6] (by kernel_rfl) (fun _ _ _ h => h) (Or.inl ⟨by rfl, ?_⟩) (by assumption) ?_
  rotate_left 1
  · (intro w hSw; (try dsimp only at hSw); go_simp; (try with_reducible rfl))
  try simp only [Act.put, List.getElem_toArray, List.getElem_cons_succ, List.getElem_cons_zero, List.setIfInBounds_toArray, List.set_cons_zero, List.set_cons_succ]
  refine wpAnyC_take (i := 2) (v := ?_) rfl (by kernel_rfl) (by kernel_rfl) (by kernel_rfl) (by decide) [3, 6] (by kernel_rfl) (fun _ _ _ h => h) (Or.inl ⟨by rfl, ?_⟩) (by assumption) ?_
  rotate_left 1
  · (intro w hSw; (try dsimp only at hSw); go_simp; (try with_reducible rfl))
  try simp only [Act.put, List.getElem_toArray, List.getElem_cons_succ, List.getElem_cons_zero, List.setIfInBounds_toArray, List.set_cons_zero, List.set_cons_succ]
  refine wpAnyC_take (i := 3) (v := ?_) rfl (by kernel_rfl) (by kernel_rfl) (by kernel_rfl) (by decide) [6] (by kernel_rfl) (fun _ _ _ h => h) (Or.inl ⟨by rfl, ?_⟩) (by assumption) ?_
  rotate_left 1
  · (intro w hSw; (try dsimp only at hSw); go_simp; (try with_reducible rfl))
  try simp only [Act.put, List.getElem_toArray, List.getElem_cons_succ, List.getElem_cons_zero, List.setIfInBounds_toArray, List.set_cons_zero, List.set_cons_succ]
  refine wpAnyC_take (i := 4) (v := ?_) rfl (by kernel_rfl) (by kernel_rfl) (by kernel_rfl) (by decide) [6] (by kernel_rfl) (fun _ _ _ h => h) (Or.inl ⟨by rfl, ?_⟩) (by assumption) ?_
  rotate_left 1
  · (intro w hSw; (try dsimp only at hSw); go_simp; (try with_reducible rfl))
  try simp only [Act.put, List.getElem_toArray, List.getElem_cons_succ, List.getElem_cons_zero, List.setIfInBounds_toArray, List.set_cons_zero, List.set_cons_succ]
  refine wpAnyC_take (i := 5) (v := ?_) rfl (by kernel_rfl) (by kernel_rfl) (by kernel_rfl) (by decide) [6] (by kernel_rfl) (fun _ _ _ h => h) (Or.inl ⟨by rfl, ?_⟩) (by assumption) ?_
  rotate_left 1
  · (intro w hSw; (try dsimp only at hSw); go_simp; (try with_reducible rfl))
  try simp only [Act.put, List.getElem_toArray, List.getElem_cons_succ, List.getElem_cons_zero, List.setIfInBounds_toArray, List.set_cons_zero, List.set_cons_succ]
  refine wpAnyC_ready (rs := [6]) (by kernel_rfl) (by simp) ?_
  refine AllReadyC.cut rfl (fun K hK => ?_)
  try simp only [List.getElem_toArray, List.getElem_cons_succ, List.getElem_cons_zero]
  refine ite_then rfl ?_; refine wp_mapUpdate_T (E := tOutcome) (M := coM B cb (.map (some ob)) (.map (some nb))) (s := at_) (xs := []) (y := ⟨0, 0, [], []⟩) (.tmp 30) (.tmp 31) (.tmp 32) rfl (HMO.out.step (by (repeat (first | exact Step.refl _ | refine Step.alloc ?_ _ | refine Step.drew ?_ | refine Step.drewN ?_ _ | refine Step.setCell ?_ (by first | exact Nat.le_refl _ | assumption | omega | (simp; done) | (simp; omega)) _ | assumption | refine Step.trans ?_ (by assumption : Step _ _))))) Tryz.underlying3 Tryz.underlying122 (by decide) HAT.out (by simp) ?_ (.inr (.inr (.inl rfl))) rfl rfl rfl ?_; exact ⟨_, _, rfl, by (simp [I64]), by (simp [I64]), ⟨none, 0, rfl, by simp, by simp [maxLen], by simp [lim], fun h => by simp at h⟩, ⟨none, 0, rfl, by simp, by simp [maxLen], by simp [lim], fun h => by simp at h⟩⟩; intro w4 hm4 hg4; have HC4 := Lib.hid (CoordIn.grownOuts (c := { c with outs := some [], out := some l }) (H.out.keep (fun b h1 _ => Step.heap (by (repeat (first | exact Step.refl _ | refine Step.alloc ?_ _ | refine Step.drew ?_ | refine Step.drewN ?_ _ | refine Step.setCell ?_ (by first | exact Nat.le_refl _ | assumption | omega | (simp; done) | (simp; omega)) _ | assumption | refine Step.trans ?_ (by assumption : Step _ _))) : Step w _) h1)) hg4 hm4 (by simp) (fun p hp => by (obtain rfl := List.mem_singleton.1 hp; exact HAT.out))); have HT4 := Lib.hid (Turn.grown (M := fun b => b = ob ∨ b = nb) (Turn.of (by (repeat (first | exact Step.refl _ | refine Step.alloc ?_ _ | refine Step.drew ?_ | refine Step.drewN ?_ _ | refine Step.setCell ?_ (by first | exact Nat.le_refl _ | assumption | omega | (simp; done) | (simp; omega)) _ | assumption | refine Step.trans ?_ (by assumption : Step _ _))) : Step w _)) hg4 (fun g hg h => by (obtain rfl := Option.some.inj hg; exact .inl rfl))); clear hm4 hg4
  refine hK.out _ _ trivial (fun hHeld => ?_)
  clear hK K
  try simp only [Act.put, List.getElem_toArray, List.getElem_cons_succ, List.getElem_cons_zero, List.setIfInBounds_toArray, List.set_cons_zero, List.set_cons_succ]
  have hTrue : True := trivial
  refine wpAnyH_done (by kernel_rfl) ?_ _
  have hnb4 : nb < w4.heap.size := Nat.lt_of_lt_of_le hnb HT4.out.size
  have HC4 : Hid (CoordIn w4 B cb { c with outs := some [(at_, ⟨0, 0, [], []⟩)], out := some l } vo vp (.map (some ob)) (.map (some nb)) vs vr) := Lib.hid HC4.out
  have q8 : w4.cell? ⟨cb, 8, none⟩ = some (.map (some nb)) := HC4.out.cells.cell 8
  obtain ⟨b', hb', hm, hMb, hlen, hkeys⟩ := HC4.out.out
  obtain rfl : nb = b' := by simpa using hb'
  have HM4 := Lib.hid hm
  have HMb := Lib.hid hMb
  have HLN := Lib.hid hlen
  have HKY := Lib.hid hkeys
  clear hm hMb hlen hkeys hb'
  have hln : ∀ W, MapT Tryz.prog 3 tAsk W (coM B cb (.map (some ob)) (.map (some nb))) nb (l.filter (fun p => p.1 != at_)) → ∀ ty, (Builtin.len_ #[123] ty #[.map (some nb)]).run Tryz.prog W = .ok (.int .i64 ((l.filter (fun p => p.1 != at_)).length : Int)) W := fun W hW ty => hW.len Tryz.underlying123 ty
  generalize hq : (l.filter (fun p => p.1 != at_)) = l' at *
  have HQ := Lib.hid hq
  clear hq
  go_upto_region 6 with (refine wpList_delete_T (s := at_) rfl (.tmp 36) (.tmp 37) rfl HM4.out Tryz.underlying3 Tryz.underlying123 HAT.out HMb.out rfl rfl ?_; intro w5 hm5 hg5; rw [HQ.out] at hm5; have hl5 := hln _ hm5; have HM5 := Lib.hid hm5; have HC5 : Hid (CoordIn _ B cb { c with outs := some [(at_, ⟨0, 0, [], []⟩)], out := some l' } vo vp (.map (some ob)) (.map (some nb)) vs vr) := Lib.hid (CoordIn.grownOut (c := { c with outs := some [(at_, ⟨0, 0, [], []⟩)] }) HC4.out hg5 hm5 (by have := filter_le (s := at_) HLN.out; rwa [HQ.out] at this) (fun p hp => by (rw [← HQ.out] at hp; exact filter_i64 HKY.out p hp))); have HT5 := Lib.hid (Turn.grown HT4.out hg5 (fun g hg h => by (obtain rfl := Option.some.inj hg; exact .inr rfl))); clear hm5 hg5)
  have r8 : w5.cell? ⟨cb, 8, none⟩ = some (.map (some nb)) := HC5.out.cells.cell 8
  have hpos : l'.length > 0 := List.length_pos_iff.2 HNE.out
  go_wp2
  go_ret
  exact ⟨rfl, by rw [HQ.out]; exact HC5.out, HT5.out⟩
end Go.Proofs.YthflkfgiclcdiaaGreat
