/-
  Walks: the errors of operations and requests (fault, Check).
  Walks: a request parted among shards (bounds, piece, Parts).
  Walks: the document's error of a request (refCheck), and that the program's own is the same.
-/
import Derived.Test.YthflkfgiclcdiaaZP4
import Derived.BigGuardPart
set_option linter.unusedVariables false
set_option linter.unusedSimpArgs false
namespace Go.Proofs.Ythflkfgiclcdiaa
open Go.RowKit Go.Gr
def faultB (o : DOp) : Int :=
  if 64 < o.key.length ∨ (o.kind = 4 ∧ 64 < o.value.length) ∨ ((o.kind = 2 ∨ o.kind = 5) ∧ 128 < o.value.length) then
    if o.kind = 4 ∧ (o.most < 1 ∨ 32 < o.most) then 1 else 2
  else if o.kind < 1 ∨ 6 < o.kind then 3
  else if o.kind = 4 ∧ (o.most < 1 ∨ 32 < o.most) then 1 else 0
set_option maxRecDepth 100000 in
set_option maxHeartbeats 4000000 in
theorem fault_ {w : World} {M : Nat → Prop} {cs : List Value} {o : DOp} (h : tOp.rep w M cs o) :
    Calls Try.prog 68 #[.agg cs.toArray] w fun e w' => e = .returned (.int .i64 (faultB o)) ∧ Step w w' := by
  obtain ⟨c1, c2, rfl, h0, h1, h2, h3⟩ := h
  obtain ⟨a1, n1, rfl, _, _, hl1⟩ := Ty.slice_val h1
  obtain ⟨a2, n2, rfl, _, _, hl2⟩ := Ty.slice_val h2
  obtain ⟨k, key, value, most⟩ := o
  clear h1 h2
  rcases (by omega : k = 2 ∨ k = 5 ∨ k = 4 ∨ (k ≠ 2 ∧ k ≠ 5 ∧ k ≠ 4)) with rfl | rfl | rfl | ⟨_, _, _⟩
  all_goals go_enter Try.func68, Try.ntmps68
  all_goals go_wp2
  all_goals go_ret
  all_goals refine ⟨congrArg (fun x => Ending.returned (.int .i64 x)) ?_, by (repeat (first | exact Step.refl _ | refine Step.alloc ?_ _ | refine Step.drew ?_ | refine Step.drewN ?_ _ | refine Step.setCell ?_ (by first | exact Nat.le_refl _ | assumption | omega | (simp; done) | (simp; omega)) _ | assumption | refine Step.trans ?_ (by assumption : Step _ _)))⟩
  all_goals (unfold faultB; dsimp only; (repeat' split) <;> first | rfl | (exfalso; omega))

theorem faultB_range (o : DOp) : 0 ≤ faultB o ∧ faultB o ≤ 3 := by
  unfold faultB
  (repeat' split) <;> omega
def checkStep (out : Int) (o : DOp) : Int := if faultB o ≠ 0 ∧ (out = 0 ∨ faultB o < out) then faultB o else out
def checkAll (ops : List DOp) : Int := ops.foldl checkStep 0
theorem checkAll_range (ops : List DOp) : 0 ≤ checkAll ops ∧ checkAll ops ≤ 3 := by
  have : ∀ (l : List DOp) (c : Int), 0 ≤ c ∧ c ≤ 3 → 0 ≤ l.foldl checkStep c ∧ l.foldl checkStep c ≤ 3 := by
    intro l
    induction l with
    | nil => intro c h; exact h
    | cons o l ih =>
      intro c h
      refine ih _ ?_
      unfold checkStep
      have := faultB_range o
      split <;> omega
  exact this ops 0 (by omega)
theorem checkAll_snoc (ops : List DOp) (o : DOp) : checkAll (ops ++ [o]) = checkStep (checkAll ops) o := by simp [checkAll]
def checkB (ops : List DOp) : Int := if 16 < ops.length ∧ (checkAll ops = 0 ∨ 2 < checkAll ops) then 2 else checkAll ops

theorem step_yes {c f : Int} {o : DOp} (hf : f = faultB o) (h1 : f ≠ 0) (h2 : c = 0 ∨ f < c) : checkStep c o = f := by subst hf; exact if_pos ⟨h1, h2⟩
theorem step_no {c f : Int} {o : DOp} (hf : f = faultB o) (h : f = 0 ∨ (c ≠ 0 ∧ c ≤ f)) : checkStep c o = c := by subst hf; exact if_neg (by omega)

set_option maxRecDepth 100000 in
set_option maxHeartbeats 2000000 in
theorem Check_ {w : World} {M : Nat → Prop} {v : Value} {xs : List DOp} (h : (Ty.slice tOp).rep w M [v] xs) :
    Calls Try.prog 27 #[v] w fun e w' => e = .returned (.int .i64 (checkB xs)) ∧ Step w w' := by
  obtain ⟨a, c, rfl, hc, hm, hl⟩ := Ty.slice_val h
  have H := Lib.hid h
  clear h
  have hl' := hl
  rw [lim_eq] at hl'
  go_enter Try.func27, Try.ntmps27
  go_wp2
  go_loopw [3, 5, 6, 9] (fun o _ _ i w' => ∃ k : Nat, i = .int .i64 k ∧ k ≤ xs.length ∧ o = .int .i64 (checkAll (xs.take k)) ∧ Step w w') (fun _ _ _ i _ => xs.length - (intOf i).toNat)
  case atStart => exact ⟨0, rfl, by omega, rfl, Step.refl _⟩
  case round =>
    rename_i wr _
    obtain ⟨k, rfl, hk, rfl, hB⟩ := hrel
    by_cases hlt : k < xs.length
    · obtain ⟨ob, oo, oes, rfl, ohb, _, ou, ocu⟩ := Ty.slice_at H.out hlt
      obtain ⟨oc1, oc2, rfl, oh0, oh1, oh2, oh3⟩ := ou
      have oq0 := (Step.cell (w' := wr) (by (repeat (first | exact Step.refl _ | refine Step.alloc ?_ _ | refine Step.drew ?_ | refine Step.drewN ?_ _ | refine Step.setCell ?_ (by first | exact Nat.le_refl _ | assumption | omega | (simp; done) | (simp; omega)) _ | assumption | refine Step.trans ?_ (by assumption : Step _ _)))) ohb _).trans (ocu 0 _ rfl)
      have oq1 := (Step.cell (w' := wr) (by (repeat (first | exact Step.refl _ | refine Step.alloc ?_ _ | refine Step.drew ?_ | refine Step.drewN ?_ _ | refine Step.setCell ?_ (by first | exact Nat.le_refl _ | assumption | omega | (simp; done) | (simp; omega)) _ | assumption | refine Step.trans ?_ (by assumption : Step _ _)))) ohb _).trans (ocu 1 _ rfl)
      have oq2 := (Step.cell (w' := wr) (by (repeat (first | exact Step.refl _ | refine Step.alloc ?_ _ | refine Step.drew ?_ | refine Step.drewN ?_ _ | refine Step.setCell ?_ (by first | exact Nat.le_refl _ | assumption | omega | (simp; done) | (simp; omega)) _ | assumption | refine Step.trans ?_ (by assumption : Step _ _)))) ohb _).trans (ocu 2 _ rfl)
      have oq3 := (Step.cell (w' := wr) (by (repeat (first | exact Step.refl _ | refine Step.alloc ?_ _ | refine Step.drew ?_ | refine Step.drewN ?_ _ | refine Step.setCell ?_ (by first | exact Nat.le_refl _ | assumption | omega | (simp; done) | (simp; omega)) _ | assumption | refine Step.trans ?_ (by assumption : Step _ _)))) ohb _).trans (ocu 3 _ rfl)
      simp only [show tOp.n = 4 from rfl, Nat.add_zero] at oq0 oq1 oq2 oq3
      obtain ⟨oa1, on1, rfl, _⟩ := Ty.slice_val oh1
      obtain ⟨oa2, on2, rfl, _⟩ := Ty.slice_val oh2
      have oH0 := Lib.hid oh0
      have oH1 := Lib.hid oh1
      have oH2 := Lib.hid oh2
      have oH3 := Lib.hid oh3
      clear ocu oh0 oh1 oh2 oh3
      have hR : Hid (tOp.rep wr M [.int .i64 xs[k].kind, .slice oa1 xs[k].key.length on1, .slice oa2 xs[k].value.length on2, .int .i64 xs[k].most] xs[k]) := Lib.hid ⟨_, _, rfl, oH0.out, Ty.step _ oH1.out hB, Ty.step _ oH2.out hB, oH3.out⟩
      have hsn : Hid (checkAll (xs.take (k + 1)) = checkStep (checkAll (xs.take k)) xs[k]) := Lib.hid (by rw [List.take_succ_eq_append_getElem hlt, checkAll_snoc])
      have hr1 := checkAll_range (xs.take k)
      have hr2 := faultB_range xs[k]
      generalize hf : faultB xs[k] = f at hr2
      generalize checkAll (xs.take k) = c at hr1 hsn ⊢
      have HF := Lib.hid hf
      clear hf
      go_wp2_with (go_at_call 68; refine (fault_ (Ty.step _ hR.out (by (repeat (first | exact Step.refl _ | refine Step.alloc ?_ _ | refine Step.drew ?_ | refine Step.drewN ?_ _ | refine Step.setCell ?_ (by first | exact Nat.le_refl _ | assumption | omega | (simp; done) | (simp; omega)) _ | assumption | refine Step.trans ?_ (by assumption : Step _ _)))))).mono ?_; rintro e w1 ⟨rfl, hS1⟩; rw [HF.out])
      all_goals refine ⟨⟨k + 1, by go_num, by omega, ?_, by (repeat (first | exact Step.refl _ | refine Step.alloc ?_ _ | refine Step.drew ?_ | refine Step.drewN ?_ _ | refine Step.setCell ?_ (by first | exact Nat.le_refl _ | assumption | omega | (simp; done) | (simp; omega)) _ | assumption | refine Step.trans ?_ (by assumption : Step _ _)))⟩, by simp [intOf]; omega⟩
      all_goals (rw [hsn.out]; first | rw [step_yes HF.out.symm (by omega) (by omega)] | rw [step_no HF.out.symm (by omega)])
    · obtain rfl : k = xs.length := by omega
      have hr1 := checkAll_range xs
      have hb : Hid (checkB xs = if 16 < xs.length ∧ (checkAll xs = 0 ∨ 2 < checkAll xs) then 2 else checkAll xs) := Lib.hid rfl
      rw [List.take_length]
      generalize checkAll xs = c at hr1 hb ⊢
      go_wp2
      all_goals go_ret
      all_goals refine ⟨congrArg (fun x => Ending.returned (.int .i64 x)) ?_, by (repeat (first | exact Step.refl _ | refine Step.alloc ?_ _ | refine Step.drew ?_ | refine Step.drewN ?_ _ | refine Step.setCell ?_ (by first | exact Nat.le_refl _ | assumption | omega | (simp; done) | (simp; omega)) _ | assumption | refine Step.trans ?_ (by assumption : Step _ _)))⟩
      all_goals (rw [hb.out]; first | rw [if_pos (by omega)] | rw [if_neg (by omega)])
end Go.Proofs.Ythflkfgiclcdiaa

namespace Go.Proofs.Ythflkfgiclcdiaa
open Go.RowKit Go.Gr
set_option linter.unusedSimpArgs false
/-- From where on, and up to where, a shard has keys. -/
def loB (sp : List (List UInt8)) (s : Nat) : List UInt8 := if s = 0 then [] else sp[s - 1]?.getD []
def hiB (sp : List (List UInt8)) (s : Nat) : List UInt8 := sp[s]?.getD []
theorem nil_rep {w : World} {M : Nat → Prop} : Ty.bytes.rep w M [.slice none 0 0] [] := ⟨none, 0, rfl, Nat.le_refl _, by simp [maxLen], by simp [lim_eq], fun h => absurd h (by simp)⟩
theorem bounds_ {w w0 : World} {M : Nat → Prop} {v : Value} {sp : List (List UInt8)} {s : Nat} (h : (Ty.slice Ty.bytes).rep w0 M [v] sp) (hw : Step w0 w) (hs : s ≤ sp.length) :
    Calls Try.prog 99 #[v, .int .i64 (s : Int)] w fun e w' => ∃ a b, e = .returned (.tuple #[a, b]) ∧ Ty.bytes.rep w0 M [a] (loB sp s) ∧ Ty.bytes.rep w0 M [b] (hiB sp s) ∧ w' = w := by
  obtain ⟨a, c, rfl, hc, hm, hl⟩ := Ty.slice_val h
  have H := Lib.hid h
  clear h hc hm
  rw [lim_eq] at hl
  by_cases h0 : s = 0
  · subst h0
    have e0 : (0 : Int) < (sp.length : Int) ↔ 0 < sp.length := by omega
    by_cases h1 : 0 < sp.length
    · obtain ⟨b1, o1, u1, rfl, hb1, _, hu1, hc0⟩ := Ty.slice_at1 rfl H.out h1
      have hc1 := (hw.cell hb1 _).trans hc0
      clear hc0
      have HU := Lib.hid hu1
      have hc1' : w.cell? ⟨b1, o1, none⟩ = some u1 := by simpa using hc1
      clear hu1 hc1
      have hhi : Hid (hiB sp 0 = sp[0]) := Lib.hid (by simp [hiB, h1])
      go_enter Try.func99, Try.ntmps99
      go_wp2
      go_ret2
      exact ⟨_, _, rfl, nil_rep, by rw [hhi.out]; exact HU.out, rfl⟩
    · have hhi : Hid (hiB sp 0 = []) := Lib.hid (by simp [hiB, h1])
      go_enter Try.func99, Try.ntmps99
      go_wp2
      go_ret2
      exact ⟨_, _, rfl, nil_rep, by rw [hhi.out]; exact nil_rep, rfl⟩
  · obtain ⟨s, rfl⟩ : ∃ k, s = k + 1 := ⟨s - 1, by omega⟩
    have hlt : s < sp.length := by omega
    obtain ⟨b1, o1, u1, rfl, hb1, _, hu1, hc0⟩ := Ty.slice_at1 rfl H.out hlt
    have hc1 := (hw.cell hb1 _).trans hc0
    clear hc0
    have hlo : Hid (loB sp (s + 1) = sp[s]) := Lib.hid (by simp [loB, hlt])
    have HU := Lib.hid hu1
    clear hu1
    by_cases h1 : s + 1 < sp.length
    · obtain ⟨b2, o2, u2, hb2, hb3, _, hu2, hc0⟩ := Ty.slice_at1 rfl H.out h1
      have hc2 := (hw.cell hb3 _).trans hc0
      clear hc0
      simp only [Option.some.injEq, Addr.mk.injEq, and_true] at hb2
      obtain ⟨rfl, rfl⟩ := hb2
      have hhi : Hid (hiB sp (s + 1) = sp[s + 1]) := Lib.hid (by simp [hiB, h1])
      have HV := Lib.hid hu2
      clear hu2
      go_enter Try.func99, Try.ntmps99
      go_wp2
      go_ret2
      exact ⟨_, _, rfl, by rw [hlo.out]; exact HU.out, by rw [hhi.out]; exact HV.out, rfl⟩
    · have hhi : Hid (hiB sp (s + 1) = []) := Lib.hid (by simp [hiB, List.getElem?_eq_none (show sp.length ≤ s + 1 by omega)])
      go_enter Try.func99, Try.ntmps99
      go_wp2
      go_ret2
      exact ⟨_, _, rfl, by rw [hlo.out]; exact HU.out, by rw [hhi.out]; exact nil_rep, rfl⟩

def inB (lo hi key : List UInt8) : Bool := decide (cmpB lo key ≤ 0) && (decide (hi = []) || decide (cmpB key hi < 0))
theorem inB_some {lo hi key : List UInt8} (h1 : cmpB lo key ≤ 0) (h2 : hi ≠ []) : inB lo hi key = decide (cmpB key hi < 0) := by simp [inB, h1, h2]
theorem hi_cases (hi value : List UInt8) : hi = [] ∨ (hi ≠ [] ∧ value = []) ∨ (hi ≠ [] ∧ value ≠ [] ∧ cmpB hi value < 0) ∨ (hi ≠ [] ∧ value ≠ [] ∧ ¬ cmpB hi value < 0) := by
  by_cases h1 : hi = []
  · exact .inl h1
  · by_cases h2 : value = []
    · exact .inr (.inl ⟨h1, h2⟩)
    · by_cases h3 : cmpB hi value < 0
      · exact .inr (.inr (.inl ⟨h1, h2, h3⟩))
      · exact .inr (.inr (.inr ⟨h1, h2, h3⟩))
def pieceB (sp : List (List UInt8)) (s : Nat) (o : DOp) : DOp × Bool :=
  if o.kind ≠ 4 then (o, inB (loB sp s) (hiB sp s) o.key)
  else
    let key := if 0 < cmpB (loB sp s) o.key then loB sp s else o.key
    let value := if hiB sp s ≠ [] ∧ (o.value = [] ∨ cmpB (hiB sp s) o.value < 0) then hiB sp s else o.value
    ({ o with key, value }, !emptyB key value)

theorem bounds_at {w w0 : World} {M : Nat → Prop} {v : Value} {sp : List (List UInt8)} {s : Nat} {lo hi : List UInt8} (h : (Ty.slice Ty.bytes).rep w0 M [v] sp) (hw : Step w0 w) (hs : s ≤ sp.length) (hlo : loB sp s = lo) (hhi : hiB sp s = hi) :
    Calls Try.prog 99 #[v, .int .i64 (s : Int)] w fun e w' => ∃ a b, e = .returned (.tuple #[a, b]) ∧ Ty.bytes.rep w0 M [a] lo ∧ Ty.bytes.rep w0 M [b] hi ∧ w' = w := by
  subst hlo hhi
  exact bounds_ h hw hs
/-- How the two results of piece lie. -/
def PieceRet (w : World) (M : Nat → Prop) (r : DOp × Bool) (e : Ending) (w' : World) : Prop :=
  ∃ ds : List Value, e = .returned (.tuple #[.agg ds.toArray, .bool r.2]) ∧ tOp.rep w' M ds r.1 ∧ Step w w'
set_option maxRecDepth 100000 in
set_option maxHeartbeats 2000000 in
theorem piece_point {w : World} {M : Nat → Prop} {v : Value} {sp : List (List UInt8)} {s : Nat} {cs : List Value} {o : DOp} (h : (Ty.slice Ty.bytes).rep w M [v] sp) (ho : tOp.rep w M cs o) (hs : s ≤ sp.length) (hk : o.kind ≠ 4) :
    Calls Try.prog 71 #[v, .int .i64 (s : Int), .agg cs.toArray] w (PieceRet w M (pieceB sp s o)) := by
  have HP : Hid (pieceB sp s o = (o, inB (loB sp s) (hiB sp s) o.key)) := Lib.hid (by unfold pieceB; exact if_pos hk)
  have HO := Lib.hid ho
  obtain ⟨c1, c2, rfl, h0, h1, h2, h3⟩ := ho
  obtain ⟨a1, n1, rfl, _, _, hl1⟩ := Ty.slice_val h1
  obtain ⟨a2, n2, rfl, _, _, hl2⟩ := Ty.slice_val h2
  have H := Lib.hid h
  have H1 := Lib.hid h1
  clear h h0 h1 h2 h3
  obtain ⟨k, key, value, most⟩ := o
  dsimp only at *
  have hk' : (k == 4) = false := by simpa using hk
  generalize hlo : loB sp s = lo at HP
  generalize hhi : hiB sp s = hi at HP
  have HLO := Lib.hid hlo
  have HHI := Lib.hid hhi
  rw [HP.out]
  clear hlo hhi HP hk
  by_cases hc1 : cmpB lo key ≤ 0
  · by_cases hz : hi.length = 0
    · obtain rfl : hi = [] := List.eq_nil_of_length_eq_zero hz
      have hin : Hid (inB lo [] key = true) := Lib.hid (by simp [inB, hc1])
      clear hz
      go_enter Try.func71, Try.ntmps71
      go_wp2_with (go_at_call 99; refine (bounds_at H.out (by (repeat (first | exact Step.refl _ | refine Step.alloc ?_ _ | refine Step.drew ?_ | refine Step.drewN ?_ _ | refine Step.setCell ?_ (by first | exact Nat.le_refl _ | assumption | omega | (simp; done) | (simp; omega)) _ | assumption | refine Step.trans ?_ (by assumption : Step _ _)))) hs HLO.out HHI.out).mono ?_; rintro e w1 ⟨u1, u2, rfl, hu1, hu2, rfl⟩; obtain ⟨b1, m1, rfl, _⟩ := Ty.slice_val hu1; obtain ⟨b2, m2, rfl, _⟩ := Ty.slice_val hu2; have U1 := Lib.hid hu1; have U2 := Lib.hid hu2; clear hu1 hu2)
      refine wp_region_held_drew (S := (fun w' => w'.cell? ⟨w.heap.size, 0, none⟩ = some (.int .i64 k) ∧ w'.cell? ⟨w.heap.size, 1, none⟩ = some (.slice a1 key.length n1) ∧ w'.cell? ⟨w.heap.size, 2, none⟩ = some (.slice a2 value.length n2) ∧ w'.cell? ⟨w.heap.size, 3, none⟩ = some (.int .i64 most))) (by kernel_rfl) ?_ (fun hHeld => ?_)
      · (go_keep)
      refine wpAnyH_take (i := 0) (v := ?_) rfl (by kernel_rfl) (by kernel_rfl) (by kernel_rfl) (fun _ _ _ h => h) (Or.inl ⟨by rfl, ?_⟩) (by assumption) ?_
      rotate_left 1
      · (intro w hSw; (try dsimp only at hSw); go_simp; (try with_reducible rfl))
      try simp only [Act.put, List.getElem_toArray, List.getElem_cons_succ, List.getElem_cons_zero, List.setIfInBounds_toArray, List.set_cons_zero, List.set_cons_succ]
      refine wpAnyH_take (i := 1) (v := ?_) rfl (by kernel_rfl) (by kernel_rfl) (by kernel_rfl) (fun _ _ _ h => h) (Or.inl ⟨by rfl, ?_⟩) (by assumption) ?_
      rotate_left 1
      · (intro w hSw; (try dsimp only at hSw); go_simp; (try with_reducible rfl))
      try simp only [Act.put, List.getElem_toArray, List.getElem_cons_succ, List.getElem_cons_zero, List.setIfInBounds_toArray, List.set_cons_zero, List.set_cons_succ]
      refine wpAnyH_take (i := 2) (v := ?_) rfl (by kernel_rfl) (by kernel_rfl) (by kernel_rfl) (fun _ _ _ h => h) (Or.inl ⟨by rfl, ?_⟩) (by assumption) ?_
      rotate_left 1
      · (intro w hSw; (try dsimp only at hSw); go_simp; (try with_reducible rfl))
      try simp only [Act.put, List.getElem_toArray, List.getElem_cons_succ, List.getElem_cons_zero, List.setIfInBounds_toArray, List.set_cons_zero, List.set_cons_succ]
      refine wpAnyH_take (i := 3) (v := ?_) rfl (by kernel_rfl) (by kernel_rfl) (by kernel_rfl) (fun _ _ _ h => h) (Or.inl ⟨by rfl, ?_⟩) (by assumption) ?_
      rotate_left 1
      · (intro w hSw; (try dsimp only at hSw); go_simp; (try with_reducible rfl))
      try simp only [Act.put, List.getElem_toArray, List.getElem_cons_succ, List.getElem_cons_zero, List.setIfInBounds_toArray, List.set_cons_zero, List.set_cons_succ]
      refine wpAnyH_ready (rs := [4]) (by kernel_rfl) (by simp) ?_
      refine AllReadyH.cons rfl (fun K hK => ?_) AllReadyH.nil
      try simp only [List.getElem_toArray, List.getElem_cons_succ, List.getElem_cons_zero]
      go_simp
      refine (Compare_ (Ty.step _ U1.out (by (repeat (first | exact Step.refl _ | refine Step.alloc ?_ _ | refine Step.drew ?_ | refine Step.drewN ?_ _ | refine Step.setCell ?_ (by first | exact Nat.le_refl _ | assumption | omega | (simp; done) | (simp; omega)) _ | assumption | refine Step.trans ?_ (by assumption : Step _ _))))) (Ty.step _ H1.out (by (repeat (first | exact Step.refl _ | refine Step.alloc ?_ _ | refine Step.drew ?_ | refine Step.drewN ?_ _ | refine Step.setCell ?_ (by first | exact Nat.le_refl _ | assumption | omega | (simp; done) | (simp; omega)) _ | assumption | refine Step.trans ?_ (by assumption : Step _ _)))))).mono ?_; rintro e w' ⟨rfl, rfl⟩
      refine hK.out _ _ ?_ (fun hHeld => ?_)
      · (go_keep)
      clear hK K
      try simp only [Act.put, List.getElem_toArray, List.getElem_cons_succ, List.getElem_cons_zero, List.setIfInBounds_toArray, List.set_cons_zero, List.set_cons_succ]
      refine wpAnyH_take (i := 5) (v := ?_) rfl (by kernel_rfl) (by kernel_rfl) (by kernel_rfl) (fun _ _ _ h => h) (Or.inl ⟨by rfl, ?_⟩) (by assumption) ?_
      rotate_left 1
      · (intro w hSw; (try dsimp only at hSw); go_simp; (try with_reducible rfl))
      try simp only [Act.put, List.getElem_toArray, List.getElem_cons_succ, List.getElem_cons_zero, List.setIfInBounds_toArray, List.set_cons_zero, List.set_cons_succ]
      refine wpAnyH_take (i := 6) (v := ?_) rfl (by kernel_rfl) (by kernel_rfl) (by kernel_rfl) (fun _ _ _ h => h) (Or.inl ⟨by rfl, ?_⟩) (by assumption) ?_
      rotate_left 1
      · (intro w hSw; (try dsimp only at hSw); go_simp; (try with_reducible rfl))
      try simp only [Act.put, List.getElem_toArray, List.getElem_cons_succ, List.getElem_cons_zero, List.setIfInBounds_toArray, List.set_cons_zero, List.set_cons_succ]
      refine wpAnyH_take (i := 7) (v := ?_) rfl (by kernel_rfl) (by kernel_rfl) (by kernel_rfl) (fun _ _ _ h => h) (Or.inl ⟨by rfl, ?_⟩) (by assumption) ?_
      rotate_left 1
      · (intro w hSw; (try dsimp only at hSw); go_simp; (try with_reducible rfl))
      try simp only [Act.put, List.getElem_toArray, List.getElem_cons_succ, List.getElem_cons_zero, List.setIfInBounds_toArray, List.set_cons_zero, List.set_cons_succ]
      refine wpAnyH_take (i := 8) (v := ?_) rfl (by kernel_rfl) (by kernel_rfl) (by kernel_rfl) (fun _ _ _ h => h) (Or.inl ⟨by rfl, ?_⟩) (by assumption) ?_
      rotate_left 1
      · (intro w hSw; (try dsimp only at hSw); go_simp; (try with_reducible rfl))
      try simp only [Act.put, List.getElem_toArray, List.getElem_cons_succ, List.getElem_cons_zero, List.setIfInBounds_toArray, List.set_cons_zero, List.set_cons_succ]
      refine wpAnyH_take (i := 9) (v := ?_) rfl (by kernel_rfl) (by kernel_rfl) (by kernel_rfl) (fun _ _ _ h => h) (Or.inl ⟨by rfl, ?_⟩) (by assumption) ?_
      rotate_left 1
      · (intro w hSw; (try dsimp only at hSw); go_simp; (try with_reducible rfl))
      try simp only [Act.put, List.getElem_toArray, List.getElem_cons_succ, List.getElem_cons_zero, List.setIfInBounds_toArray, List.set_cons_zero, List.set_cons_succ]
      refine wpAnyH_take (i := 10) (v := ?_) rfl (by kernel_rfl) (by kernel_rfl) (by kernel_rfl) (fun _ _ _ h => h) (Or.inl ⟨by rfl, ?_⟩) (by assumption) ?_
      rotate_left 1
      · (intro w hSw; (try dsimp only at hSw); go_simp; (try with_reducible rfl))
      try simp only [Act.put, List.getElem_toArray, List.getElem_cons_succ, List.getElem_cons_zero, List.setIfInBounds_toArray, List.set_cons_zero, List.set_cons_succ]
      refine wpAnyH_take (i := 11) (v := undef) rfl (by kernel_rfl) (by kernel_rfl) (by kernel_rfl) (fun _ _ _ h => h) (Or.inr ⟨by rfl, rfl⟩) (by assumption) ?_
      try simp only [Act.put, List.getElem_toArray, List.getElem_cons_succ, List.getElem_cons_zero, List.setIfInBounds_toArray, List.set_cons_zero, List.set_cons_succ]
      refine wpAnyH_take (i := 12) (v := undef) rfl (by kernel_rfl) (by kernel_rfl) (by kernel_rfl) (fun _ _ _ h => h) (Or.inr ⟨by rfl, rfl⟩) (by assumption) ?_
      try simp only [Act.put, List.getElem_toArray, List.getElem_cons_succ, List.getElem_cons_zero, List.setIfInBounds_toArray, List.set_cons_zero, List.set_cons_succ]
      refine wpAnyH_take (i := 13) (v := undef) rfl (by kernel_rfl) (by kernel_rfl) (by kernel_rfl) (fun _ _ _ h => h) (Or.inr ⟨by rfl, rfl⟩) (by assumption) ?_
      try simp only [Act.put, List.getElem_toArray, List.getElem_cons_succ, List.getElem_cons_zero, List.setIfInBounds_toArray, List.set_cons_zero, List.set_cons_succ]
      refine wpAnyH_take (i := 14) (v := undef) rfl (by kernel_rfl) (by kernel_rfl) (by kernel_rfl) (fun _ _ _ h => h) (Or.inr ⟨by rfl, rfl⟩) (by assumption) ?_
      try simp only [Act.put, List.getElem_toArray, List.getElem_cons_succ, List.getElem_cons_zero, List.setIfInBounds_toArray, List.set_cons_zero, List.set_cons_succ]
      refine wpAnyH_take (i := 15) (v := undef) rfl (by kernel_rfl) (by kernel_rfl) (by kernel_rfl) (fun _ _ _ h => h) (Or.inr ⟨by rfl, rfl⟩) (by assumption) ?_
      try simp only [Act.put, List.getElem_toArray, List.getElem_cons_succ, List.getElem_cons_zero, List.setIfInBounds_toArray, List.set_cons_zero, List.set_cons_succ]
      refine wpAnyH_take (i := 16) (v := ?_) rfl (by kernel_rfl) (by kernel_rfl) (by kernel_rfl) (fun _ _ _ h => h) (Or.inl ⟨by rfl, ?_⟩) (by assumption) ?_
      rotate_left 1
      · (intro w hSw; (try dsimp only at hSw); go_simp; (try with_reducible rfl))
      try simp only [Act.put, List.getElem_toArray, List.getElem_cons_succ, List.getElem_cons_zero, List.setIfInBounds_toArray, List.set_cons_zero, List.set_cons_succ]
      refine wpAnyH_take (i := 17) (v := ?_) rfl (by kernel_rfl) (by kernel_rfl) (by kernel_rfl) (fun _ _ _ h => h) (Or.inl ⟨by rfl, ?_⟩) (by assumption) ?_
      rotate_left 1
      · (intro w hSw; (try dsimp only at hSw); go_simp; (try with_reducible rfl))
      try simp only [Act.put, List.getElem_toArray, List.getElem_cons_succ, List.getElem_cons_zero, List.setIfInBounds_toArray, List.set_cons_zero, List.set_cons_succ]
      refine wpAnyH_ready (rs := [18]) (by kernel_rfl) (by simp) ?_
      refine AllReadyH.cons rfl (fun K hK => ?_) AllReadyH.nil
      try simp only [List.getElem_toArray, List.getElem_cons_succ, List.getElem_cons_zero]
      go_simp
      refine hK.out _ _ ?_ (fun hHeld => ?_)
      · (go_keep)
      clear hK K
      try simp only [Act.put, List.getElem_toArray, List.getElem_cons_succ, List.getElem_cons_zero, List.setIfInBounds_toArray, List.set_cons_zero, List.set_cons_succ]
      refine wpAnyH_take (i := 19) (v := ?_) rfl (by kernel_rfl) (by kernel_rfl) (by kernel_rfl) (fun _ _ _ h => h) (Or.inl ⟨by rfl, ?_⟩) (by assumption) ?_
      rotate_left 1
      · (intro w hSw; (try dsimp only at hSw); go_simp; (try with_reducible rfl))
      try simp only [Act.put, List.getElem_toArray, List.getElem_cons_succ, List.getElem_cons_zero, List.setIfInBounds_toArray, List.set_cons_zero, List.set_cons_succ]
      refine wpAnyH_done (by kernel_rfl) ?_ _
      go_wp2
      exact bodyPost_ret (v := .tuple #[.agg #[.int .i64 k, .slice a1 key.length n1, .slice a2 value.length n2, .int .i64 most], .bool (inB lo [] key)]) (by simp [results, Try.results71, go_sem, hin.out]) rfl ⟨_, rfl, Ty.step _ HO.out (by (repeat (first | exact Step.refl _ | refine Step.alloc ?_ _ | refine Step.drew ?_ | refine Step.drewN ?_ _ | refine Step.setCell ?_ (by first | exact Nat.le_refl _ | assumption | omega | (simp; done) | (simp; omega)) _ | assumption | refine Step.trans ?_ (by assumption : Step _ _)))), by (repeat (first | exact Step.refl _ | refine Step.alloc ?_ _ | refine Step.drew ?_ | refine Step.drewN ?_ _ | refine Step.setCell ?_ (by first | exact Nat.le_refl _ | assumption | omega | (simp; done) | (simp; omega)) _ | assumption | refine Step.trans ?_ (by assumption : Step _ _)))⟩
    · have hzb : ((hi.length : Int) == 0) = false := beq_eq_false_iff_ne.2 (by omega)
      have hin : Hid (inB lo hi key = decide (cmpB key hi < 0)) := Lib.hid (inB_some hc1 (fun e => hz (by rw [e]; rfl)))
      go_enter Try.func71, Try.ntmps71
      go_wp2_with (go_at_call 99; refine (bounds_at H.out (by (repeat (first | exact Step.refl _ | refine Step.alloc ?_ _ | refine Step.drew ?_ | refine Step.drewN ?_ _ | refine Step.setCell ?_ (by first | exact Nat.le_refl _ | assumption | omega | (simp; done) | (simp; omega)) _ | assumption | refine Step.trans ?_ (by assumption : Step _ _)))) hs HLO.out HHI.out).mono ?_; rintro e w1 ⟨u1, u2, rfl, hu1, hu2, rfl⟩; obtain ⟨b1, m1, rfl, _⟩ := Ty.slice_val hu1; obtain ⟨b2, m2, rfl, _⟩ := Ty.slice_val hu2; have U1 := Lib.hid hu1; have U2 := Lib.hid hu2; clear hu1 hu2)
      refine wp_region_held_drew (S := (fun w' => w'.cell? ⟨w.heap.size, 0, none⟩ = some (.int .i64 k) ∧ w'.cell? ⟨w.heap.size, 1, none⟩ = some (.slice a1 key.length n1) ∧ w'.cell? ⟨w.heap.size, 2, none⟩ = some (.slice a2 value.length n2) ∧ w'.cell? ⟨w.heap.size, 3, none⟩ = some (.int .i64 most))) (by kernel_rfl) ?_ (fun hHeld => ?_)
      · (go_keep)
      refine wpAnyH_take (i := 0) (v := ?_) rfl (by kernel_rfl) (by kernel_rfl) (by kernel_rfl) (fun _ _ _ h => h) (Or.inl ⟨by rfl, ?_⟩) (by assumption) ?_
      rotate_left 1
      · (intro w hSw; (try dsimp only at hSw); go_simp; (try with_reducible rfl))
      try simp only [Act.put, List.getElem_toArray, List.getElem_cons_succ, List.getElem_cons_zero, List.setIfInBounds_toArray, List.set_cons_zero, List.set_cons_succ]
      refine wpAnyH_take (i := 1) (v := ?_) rfl (by kernel_rfl) (by kernel_rfl) (by kernel_rfl) (fun _ _ _ h => h) (Or.inl ⟨by rfl, ?_⟩) (by assumption) ?_
      rotate_left 1
      · (intro w hSw; (try dsimp only at hSw); go_simp; (try with_reducible rfl))
      try simp only [Act.put, List.getElem_toArray, List.getElem_cons_succ, List.getElem_cons_zero, List.setIfInBounds_toArray, List.set_cons_zero, List.set_cons_succ]
      refine wpAnyH_take (i := 2) (v := ?_) rfl (by kernel_rfl) (by kernel_rfl) (by kernel_rfl) (fun _ _ _ h => h) (Or.inl ⟨by rfl, ?_⟩) (by assumption) ?_
      rotate_left 1
      · (intro w hSw; (try dsimp only at hSw); go_simp; (try with_reducible rfl))
      try simp only [Act.put, List.getElem_toArray, List.getElem_cons_succ, List.getElem_cons_zero, List.setIfInBounds_toArray, List.set_cons_zero, List.set_cons_succ]
      refine wpAnyH_take (i := 3) (v := ?_) rfl (by kernel_rfl) (by kernel_rfl) (by kernel_rfl) (fun _ _ _ h => h) (Or.inl ⟨by rfl, ?_⟩) (by assumption) ?_
      rotate_left 1
      · (intro w hSw; (try dsimp only at hSw); go_simp; (try with_reducible rfl))
      try simp only [Act.put, List.getElem_toArray, List.getElem_cons_succ, List.getElem_cons_zero, List.setIfInBounds_toArray, List.set_cons_zero, List.set_cons_succ]
      refine wpAnyH_ready (rs := [4]) (by kernel_rfl) (by simp) ?_
      refine AllReadyH.cons rfl (fun K hK => ?_) AllReadyH.nil
      try simp only [List.getElem_toArray, List.getElem_cons_succ, List.getElem_cons_zero]
      go_simp
      refine (Compare_ (Ty.step _ U1.out (by (repeat (first | exact Step.refl _ | refine Step.alloc ?_ _ | refine Step.drew ?_ | refine Step.drewN ?_ _ | refine Step.setCell ?_ (by first | exact Nat.le_refl _ | assumption | omega | (simp; done) | (simp; omega)) _ | assumption | refine Step.trans ?_ (by assumption : Step _ _))))) (Ty.step _ H1.out (by (repeat (first | exact Step.refl _ | refine Step.alloc ?_ _ | refine Step.drew ?_ | refine Step.drewN ?_ _ | refine Step.setCell ?_ (by first | exact Nat.le_refl _ | assumption | omega | (simp; done) | (simp; omega)) _ | assumption | refine Step.trans ?_ (by assumption : Step _ _)))))).mono ?_; rintro e w' ⟨rfl, rfl⟩
      refine hK.out _ _ ?_ (fun hHeld => ?_)
      · (go_keep)
      clear hK K
      try simp only [Act.put, List.getElem_toArray, List.getElem_cons_succ, List.getElem_cons_zero, List.setIfInBounds_toArray, List.set_cons_zero, List.set_cons_succ]
      refine wpAnyH_take (i := 5) (v := ?_) rfl (by kernel_rfl) (by kernel_rfl) (by kernel_rfl) (fun _ _ _ h => h) (Or.inl ⟨by rfl, ?_⟩) (by assumption) ?_
      rotate_left 1
      · (intro w hSw; (try dsimp only at hSw); go_simp; (try with_reducible rfl))
      try simp only [Act.put, List.getElem_toArray, List.getElem_cons_succ, List.getElem_cons_zero, List.setIfInBounds_toArray, List.set_cons_zero, List.set_cons_succ]
      refine wpAnyH_take (i := 6) (v := ?_) rfl (by kernel_rfl) (by kernel_rfl) (by kernel_rfl) (fun _ _ _ h => h) (Or.inl ⟨by rfl, ?_⟩) (by assumption) ?_
      rotate_left 1
      · (intro w hSw; (try dsimp only at hSw); go_simp; (try with_reducible rfl))
      try simp only [Act.put, List.getElem_toArray, List.getElem_cons_succ, List.getElem_cons_zero, List.setIfInBounds_toArray, List.set_cons_zero, List.set_cons_succ]
      refine wpAnyH_take (i := 7) (v := ?_) rfl (by kernel_rfl) (by kernel_rfl) (by kernel_rfl) (fun _ _ _ h => h) (Or.inl ⟨by rfl, ?_⟩) (by assumption) ?_
      rotate_left 1
      · (intro w hSw; (try dsimp only at hSw); go_simp; (try with_reducible rfl))
      try simp only [Act.put, List.getElem_toArray, List.getElem_cons_succ, List.getElem_cons_zero, List.setIfInBounds_toArray, List.set_cons_zero, List.set_cons_succ]
      refine wpAnyH_take (i := 8) (v := ?_) rfl (by kernel_rfl) (by kernel_rfl) (by kernel_rfl) (fun _ _ _ h => h) (Or.inl ⟨by rfl, ?_⟩) (by assumption) ?_
      rotate_left 1
      · (intro w hSw; (try dsimp only at hSw); go_simp; (try with_reducible rfl))
      try simp only [Act.put, List.getElem_toArray, List.getElem_cons_succ, List.getElem_cons_zero, List.setIfInBounds_toArray, List.set_cons_zero, List.set_cons_succ]
      refine wpAnyH_take (i := 9) (v := ?_) rfl (by kernel_rfl) (by kernel_rfl) (by kernel_rfl) (fun _ _ _ h => h) (Or.inl ⟨by rfl, ?_⟩) (by assumption) ?_
      rotate_left 1
      · (intro w hSw; (try dsimp only at hSw); go_simp; (try with_reducible rfl))
      try simp only [Act.put, List.getElem_toArray, List.getElem_cons_succ, List.getElem_cons_zero, List.setIfInBounds_toArray, List.set_cons_zero, List.set_cons_succ]
      refine wpAnyH_take (i := 10) (v := ?_) rfl (by kernel_rfl) (by kernel_rfl) (by kernel_rfl) (fun _ _ _ h => h) (Or.inl ⟨by rfl, ?_⟩) (by assumption) ?_
      rotate_left 1
      · (intro w hSw; (try dsimp only at hSw); go_simp; (try with_reducible rfl))
      try simp only [Act.put, List.getElem_toArray, List.getElem_cons_succ, List.getElem_cons_zero, List.setIfInBounds_toArray, List.set_cons_zero, List.set_cons_succ]
      refine wpAnyH_take (i := 11) (v := ?_) rfl (by kernel_rfl) (by kernel_rfl) (by kernel_rfl) (fun _ _ _ h => h) (Or.inl ⟨by rfl, ?_⟩) (by assumption) ?_
      rotate_left 1
      · (intro w hSw; (try dsimp only at hSw); go_simp; (try with_reducible rfl))
      try simp only [Act.put, List.getElem_toArray, List.getElem_cons_succ, List.getElem_cons_zero, List.setIfInBounds_toArray, List.set_cons_zero, List.set_cons_succ]
      refine wpAnyH_take (i := 12) (v := ?_) rfl (by kernel_rfl) (by kernel_rfl) (by kernel_rfl) (fun _ _ _ h => h) (Or.inl ⟨by rfl, ?_⟩) (by assumption) ?_
      rotate_left 1
      · (intro w hSw; (try dsimp only at hSw); go_simp; (try with_reducible rfl))
      try simp only [Act.put, List.getElem_toArray, List.getElem_cons_succ, List.getElem_cons_zero, List.setIfInBounds_toArray, List.set_cons_zero, List.set_cons_succ]
      refine wpAnyH_take (i := 13) (v := ?_) rfl (by kernel_rfl) (by kernel_rfl) (by kernel_rfl) (fun _ _ _ h => h) (Or.inl ⟨by rfl, ?_⟩) (by assumption) ?_
      rotate_left 1
      · (intro w hSw; (try dsimp only at hSw); go_simp; (try with_reducible rfl))
      try simp only [Act.put, List.getElem_toArray, List.getElem_cons_succ, List.getElem_cons_zero, List.setIfInBounds_toArray, List.set_cons_zero, List.set_cons_succ]
      refine wpAnyH_ready (rs := [14]) (by kernel_rfl) (by simp) ?_
      refine AllReadyH.cons rfl (fun K hK => ?_) AllReadyH.nil
      try simp only [List.getElem_toArray, List.getElem_cons_succ, List.getElem_cons_zero]
      go_simp
      refine (Compare_ (Ty.step _ H1.out (by (repeat (first | exact Step.refl _ | refine Step.alloc ?_ _ | refine Step.drew ?_ | refine Step.drewN ?_ _ | refine Step.setCell ?_ (by first | exact Nat.le_refl _ | assumption | omega | (simp; done) | (simp; omega)) _ | assumption | refine Step.trans ?_ (by assumption : Step _ _))))) (Ty.step _ U2.out (by (repeat (first | exact Step.refl _ | refine Step.alloc ?_ _ | refine Step.drew ?_ | refine Step.drewN ?_ _ | refine Step.setCell ?_ (by first | exact Nat.le_refl _ | assumption | omega | (simp; done) | (simp; omega)) _ | assumption | refine Step.trans ?_ (by assumption : Step _ _)))))).mono ?_; rintro e w' ⟨rfl, rfl⟩
      refine hK.out _ _ ?_ (fun hHeld => ?_)
      · (go_keep)
      clear hK K
      try simp only [Act.put, List.getElem_toArray, List.getElem_cons_succ, List.getElem_cons_zero, List.setIfInBounds_toArray, List.set_cons_zero, List.set_cons_succ]
      refine wpAnyH_take (i := 15) (v := ?_) rfl (by kernel_rfl) (by kernel_rfl) (by kernel_rfl) (fun _ _ _ h => h) (Or.inl ⟨by rfl, ?_⟩) (by assumption) ?_
      rotate_left 1
      · (intro w hSw; (try dsimp only at hSw); go_simp; (try with_reducible rfl))
      try simp only [Act.put, List.getElem_toArray, List.getElem_cons_succ, List.getElem_cons_zero, List.setIfInBounds_toArray, List.set_cons_zero, List.set_cons_succ]
      refine wpAnyH_take (i := 16) (v := ?_) rfl (by kernel_rfl) (by kernel_rfl) (by kernel_rfl) (fun _ _ _ h => h) (Or.inl ⟨by rfl, ?_⟩) (by assumption) ?_
      rotate_left 1
      · (intro w hSw; (try dsimp only at hSw); go_simp; (try with_reducible rfl))
      try simp only [Act.put, List.getElem_toArray, List.getElem_cons_succ, List.getElem_cons_zero, List.setIfInBounds_toArray, List.set_cons_zero, List.set_cons_succ]
      refine wpAnyH_take (i := 17) (v := ?_) rfl (by kernel_rfl) (by kernel_rfl) (by kernel_rfl) (fun _ _ _ h => h) (Or.inl ⟨by rfl, ?_⟩) (by assumption) ?_
      rotate_left 1
      · (intro w hSw; (try dsimp only at hSw); go_simp; (try with_reducible rfl))
      try simp only [Act.put, List.getElem_toArray, List.getElem_cons_succ, List.getElem_cons_zero, List.setIfInBounds_toArray, List.set_cons_zero, List.set_cons_succ]
      refine wpAnyH_ready (rs := [18]) (by kernel_rfl) (by simp) ?_
      refine AllReadyH.cons rfl (fun K hK => ?_) AllReadyH.nil
      try simp only [List.getElem_toArray, List.getElem_cons_succ, List.getElem_cons_zero]
      go_simp
      refine hK.out _ _ ?_ (fun hHeld => ?_)
      · (go_keep)
      clear hK K
      try simp only [Act.put, List.getElem_toArray, List.getElem_cons_succ, List.getElem_cons_zero, List.setIfInBounds_toArray, List.set_cons_zero, List.set_cons_succ]
      refine wpAnyH_take (i := 19) (v := ?_) rfl (by kernel_rfl) (by kernel_rfl) (by kernel_rfl) (fun _ _ _ h => h) (Or.inl ⟨by rfl, ?_⟩) (by assumption) ?_
      rotate_left 1
      · (intro w hSw; (try dsimp only at hSw); go_simp; (try with_reducible rfl))
      try simp only [Act.put, List.getElem_toArray, List.getElem_cons_succ, List.getElem_cons_zero, List.setIfInBounds_toArray, List.set_cons_zero, List.set_cons_succ]
      refine wpAnyH_done (by kernel_rfl) ?_ _
      go_wp2
      exact bodyPost_ret (v := .tuple #[.agg #[.int .i64 k, .slice a1 key.length n1, .slice a2 value.length n2, .int .i64 most], .bool (inB lo hi key)]) (by simp [results, Try.results71, go_sem, hin.out]) rfl ⟨_, rfl, Ty.step _ HO.out (by (repeat (first | exact Step.refl _ | refine Step.alloc ?_ _ | refine Step.drew ?_ | refine Step.drewN ?_ _ | refine Step.setCell ?_ (by first | exact Nat.le_refl _ | assumption | omega | (simp; done) | (simp; omega)) _ | assumption | refine Step.trans ?_ (by assumption : Step _ _)))), by (repeat (first | exact Step.refl _ | refine Step.alloc ?_ _ | refine Step.drew ?_ | refine Step.drewN ?_ _ | refine Step.setCell ?_ (by first | exact Nat.le_refl _ | assumption | omega | (simp; done) | (simp; omega)) _ | assumption | refine Step.trans ?_ (by assumption : Step _ _)))⟩
  · have hin : Hid (inB lo hi key = false) := Lib.hid (by simp [inB, hc1])
    have hcb : decide (cmpB lo key ≤ 0) = false := decide_eq_false hc1
    go_enter Try.func71, Try.ntmps71
    go_wp2_with (go_at_call 99; refine (bounds_at H.out (by (repeat (first | exact Step.refl _ | refine Step.alloc ?_ _ | refine Step.drew ?_ | refine Step.drewN ?_ _ | refine Step.setCell ?_ (by first | exact Nat.le_refl _ | assumption | omega | (simp; done) | (simp; omega)) _ | assumption | refine Step.trans ?_ (by assumption : Step _ _)))) hs HLO.out HHI.out).mono ?_; rintro e w1 ⟨u1, u2, rfl, hu1, hu2, rfl⟩; obtain ⟨b1, m1, rfl, _⟩ := Ty.slice_val hu1; obtain ⟨b2, m2, rfl, _⟩ := Ty.slice_val hu2; have U1 := Lib.hid hu1; have U2 := Lib.hid hu2; clear hu1 hu2)
    refine wp_region_held_drew (S := (fun w' => w'.cell? ⟨w.heap.size, 0, none⟩ = some (.int .i64 k) ∧ w'.cell? ⟨w.heap.size, 1, none⟩ = some (.slice a1 key.length n1) ∧ w'.cell? ⟨w.heap.size, 2, none⟩ = some (.slice a2 value.length n2) ∧ w'.cell? ⟨w.heap.size, 3, none⟩ = some (.int .i64 most))) (by kernel_rfl) ?_ (fun hHeld => ?_)
    · (go_keep)
    refine wpAnyH_take (i := 0) (v := ?_) rfl (by kernel_rfl) (by kernel_rfl) (by kernel_rfl) (fun _ _ _ h => h) (Or.inl ⟨by rfl, ?_⟩) (by assumption) ?_
    rotate_left 1
    · (intro w hSw; (try dsimp only at hSw); go_simp; (try with_reducible rfl))
    try simp only [Act.put, List.getElem_toArray, List.getElem_cons_succ, List.getElem_cons_zero, List.setIfInBounds_toArray, List.set_cons_zero, List.set_cons_succ]
    refine wpAnyH_take (i := 1) (v := ?_) rfl (by kernel_rfl) (by kernel_rfl) (by kernel_rfl) (fun _ _ _ h => h) (Or.inl ⟨by rfl, ?_⟩) (by assumption) ?_
    rotate_left 1
    · (intro w hSw; (try dsimp only at hSw); go_simp; (try with_reducible rfl))
    try simp only [Act.put, List.getElem_toArray, List.getElem_cons_succ, List.getElem_cons_zero, List.setIfInBounds_toArray, List.set_cons_zero, List.set_cons_succ]
    refine wpAnyH_take (i := 2) (v := ?_) rfl (by kernel_rfl) (by kernel_rfl) (by kernel_rfl) (fun _ _ _ h => h) (Or.inl ⟨by rfl, ?_⟩) (by assumption) ?_
    rotate_left 1
    · (intro w hSw; (try dsimp only at hSw); go_simp; (try with_reducible rfl))
    try simp only [Act.put, List.getElem_toArray, List.getElem_cons_succ, List.getElem_cons_zero, List.setIfInBounds_toArray, List.set_cons_zero, List.set_cons_succ]
    refine wpAnyH_take (i := 3) (v := ?_) rfl (by kernel_rfl) (by kernel_rfl) (by kernel_rfl) (fun _ _ _ h => h) (Or.inl ⟨by rfl, ?_⟩) (by assumption) ?_
    rotate_left 1
    · (intro w hSw; (try dsimp only at hSw); go_simp; (try with_reducible rfl))
    try simp only [Act.put, List.getElem_toArray, List.getElem_cons_succ, List.getElem_cons_zero, List.setIfInBounds_toArray, List.set_cons_zero, List.set_cons_succ]
    refine wpAnyH_ready (rs := [4]) (by kernel_rfl) (by simp) ?_
    refine AllReadyH.cons rfl (fun K hK => ?_) AllReadyH.nil
    try simp only [List.getElem_toArray, List.getElem_cons_succ, List.getElem_cons_zero]
    go_simp
    refine (Compare_ (Ty.step _ U1.out (by (repeat (first | exact Step.refl _ | refine Step.alloc ?_ _ | refine Step.drew ?_ | refine Step.drewN ?_ _ | refine Step.setCell ?_ (by first | exact Nat.le_refl _ | assumption | omega | (simp; done) | (simp; omega)) _ | assumption | refine Step.trans ?_ (by assumption : Step _ _))))) (Ty.step _ H1.out (by (repeat (first | exact Step.refl _ | refine Step.alloc ?_ _ | refine Step.drew ?_ | refine Step.drewN ?_ _ | refine Step.setCell ?_ (by first | exact Nat.le_refl _ | assumption | omega | (simp; done) | (simp; omega)) _ | assumption | refine Step.trans ?_ (by assumption : Step _ _)))))).mono ?_; rintro e w' ⟨rfl, rfl⟩
    refine hK.out _ _ ?_ (fun hHeld => ?_)
    · (go_keep)
    clear hK K
    try simp only [Act.put, List.getElem_toArray, List.getElem_cons_succ, List.getElem_cons_zero, List.setIfInBounds_toArray, List.set_cons_zero, List.set_cons_succ]
    refine wpAnyH_take (i := 5) (v := ?_) rfl (by kernel_rfl) (by kernel_rfl) (by kernel_rfl) (fun _ _ _ h => h) (Or.inl ⟨by rfl, ?_⟩) (by assumption) ?_
    rotate_left 1
    · (intro w hSw; (try dsimp only at hSw); go_simp; (try with_reducible rfl))
    try simp only [Act.put, List.getElem_toArray, List.getElem_cons_succ, List.getElem_cons_zero, List.setIfInBounds_toArray, List.set_cons_zero, List.set_cons_succ]
    refine wpAnyH_take (i := 6) (v := ?_) rfl (by kernel_rfl) (by kernel_rfl) (by kernel_rfl) (fun _ _ _ h => h) (Or.inl ⟨by rfl, ?_⟩) (by assumption) ?_
    rotate_left 1
    · (intro w hSw; (try dsimp only at hSw); go_simp; (try with_reducible rfl))
    try simp only [Act.put, List.getElem_toArray, List.getElem_cons_succ, List.getElem_cons_zero, List.setIfInBounds_toArray, List.set_cons_zero, List.set_cons_succ]
    refine wpAnyH_take (i := 7) (v := undef) rfl (by kernel_rfl) (by kernel_rfl) (by kernel_rfl) (fun _ _ _ h => h) (Or.inr ⟨by rfl, rfl⟩) (by assumption) ?_
    try simp only [Act.put, List.getElem_toArray, List.getElem_cons_succ, List.getElem_cons_zero, List.setIfInBounds_toArray, List.set_cons_zero, List.set_cons_succ]
    refine wpAnyH_take (i := 8) (v := undef) rfl (by kernel_rfl) (by kernel_rfl) (by kernel_rfl) (fun _ _ _ h => h) (Or.inr ⟨by rfl, rfl⟩) (by assumption) ?_
    try simp only [Act.put, List.getElem_toArray, List.getElem_cons_succ, List.getElem_cons_zero, List.setIfInBounds_toArray, List.set_cons_zero, List.set_cons_succ]
    refine wpAnyH_take (i := 9) (v := undef) rfl (by kernel_rfl) (by kernel_rfl) (by kernel_rfl) (fun _ _ _ h => h) (Or.inr ⟨by rfl, rfl⟩) (by assumption) ?_
    try simp only [Act.put, List.getElem_toArray, List.getElem_cons_succ, List.getElem_cons_zero, List.setIfInBounds_toArray, List.set_cons_zero, List.set_cons_succ]
    refine wpAnyH_take (i := 10) (v := undef) rfl (by kernel_rfl) (by kernel_rfl) (by kernel_rfl) (fun _ _ _ h => h) (Or.inr ⟨by rfl, rfl⟩) (by assumption) ?_
    try simp only [Act.put, List.getElem_toArray, List.getElem_cons_succ, List.getElem_cons_zero, List.setIfInBounds_toArray, List.set_cons_zero, List.set_cons_succ]
    refine wpAnyH_take (i := 11) (v := undef) rfl (by kernel_rfl) (by kernel_rfl) (by kernel_rfl) (fun _ _ _ h => h) (Or.inr ⟨by rfl, rfl⟩) (by assumption) ?_
    try simp only [Act.put, List.getElem_toArray, List.getElem_cons_succ, List.getElem_cons_zero, List.setIfInBounds_toArray, List.set_cons_zero, List.set_cons_succ]
    refine wpAnyH_take (i := 12) (v := undef) rfl (by kernel_rfl) (by kernel_rfl) (by kernel_rfl) (fun _ _ _ h => h) (Or.inr ⟨by rfl, rfl⟩) (by assumption) ?_
    try simp only [Act.put, List.getElem_toArray, List.getElem_cons_succ, List.getElem_cons_zero, List.setIfInBounds_toArray, List.set_cons_zero, List.set_cons_succ]
    refine wpAnyH_take (i := 13) (v := undef) rfl (by kernel_rfl) (by kernel_rfl) (by kernel_rfl) (fun _ _ _ h => h) (Or.inr ⟨by rfl, rfl⟩) (by assumption) ?_
    try simp only [Act.put, List.getElem_toArray, List.getElem_cons_succ, List.getElem_cons_zero, List.setIfInBounds_toArray, List.set_cons_zero, List.set_cons_succ]
    refine wpAnyH_take (i := 14) (v := undef) rfl (by kernel_rfl) (by kernel_rfl) (by kernel_rfl) (fun _ _ _ h => h) (Or.inr ⟨by rfl, rfl⟩) (by assumption) ?_
    try simp only [Act.put, List.getElem_toArray, List.getElem_cons_succ, List.getElem_cons_zero, List.setIfInBounds_toArray, List.set_cons_zero, List.set_cons_succ]
    refine wpAnyH_take (i := 15) (v := undef) rfl (by kernel_rfl) (by kernel_rfl) (by kernel_rfl) (fun _ _ _ h => h) (Or.inr ⟨by rfl, rfl⟩) (by assumption) ?_
    try simp only [Act.put, List.getElem_toArray, List.getElem_cons_succ, List.getElem_cons_zero, List.setIfInBounds_toArray, List.set_cons_zero, List.set_cons_succ]
    refine wpAnyH_take (i := 16) (v := undef) rfl (by kernel_rfl) (by kernel_rfl) (by kernel_rfl) (fun _ _ _ h => h) (Or.inr ⟨by rfl, rfl⟩) (by assumption) ?_
    try simp only [Act.put, List.getElem_toArray, List.getElem_cons_succ, List.getElem_cons_zero, List.setIfInBounds_toArray, List.set_cons_zero, List.set_cons_succ]
    refine wpAnyH_take (i := 17) (v := ?_) rfl (by kernel_rfl) (by kernel_rfl) (by kernel_rfl) (fun _ _ _ h => h) (Or.inl ⟨by rfl, ?_⟩) (by assumption) ?_
    rotate_left 1
    · (intro w hSw; (try dsimp only at hSw); go_simp; (try with_reducible rfl))
    try simp only [Act.put, List.getElem_toArray, List.getElem_cons_succ, List.getElem_cons_zero, List.setIfInBounds_toArray, List.set_cons_zero, List.set_cons_succ]
    refine wpAnyH_ready (rs := [18]) (by kernel_rfl) (by simp) ?_
    refine AllReadyH.cons rfl (fun K hK => ?_) AllReadyH.nil
    try simp only [List.getElem_toArray, List.getElem_cons_succ, List.getElem_cons_zero]
    go_simp
    refine hK.out _ _ ?_ (fun hHeld => ?_)
    · (go_keep)
    clear hK K
    try simp only [Act.put, List.getElem_toArray, List.getElem_cons_succ, List.getElem_cons_zero, List.setIfInBounds_toArray, List.set_cons_zero, List.set_cons_succ]
    refine wpAnyH_take (i := 19) (v := ?_) rfl (by kernel_rfl) (by kernel_rfl) (by kernel_rfl) (fun _ _ _ h => h) (Or.inl ⟨by rfl, ?_⟩) (by assumption) ?_
    rotate_left 1
    · (intro w hSw; (try dsimp only at hSw); go_simp; (try with_reducible rfl))
    try simp only [Act.put, List.getElem_toArray, List.getElem_cons_succ, List.getElem_cons_zero, List.setIfInBounds_toArray, List.set_cons_zero, List.set_cons_succ]
    refine wpAnyH_done (by kernel_rfl) ?_ _
    go_wp2
    exact bodyPost_ret (v := .tuple #[.agg #[.int .i64 k, .slice a1 key.length n1, .slice a2 value.length n2, .int .i64 most], .bool (inB lo hi key)]) (by simp [results, Try.results71, go_sem, hin.out]) rfl ⟨_, rfl, Ty.step _ HO.out (by (repeat (first | exact Step.refl _ | refine Step.alloc ?_ _ | refine Step.drew ?_ | refine Step.drewN ?_ _ | refine Step.setCell ?_ (by first | exact Nat.le_refl _ | assumption | omega | (simp; done) | (simp; omega)) _ | assumption | refine Step.trans ?_ (by assumption : Step _ _)))), by (repeat (first | exact Step.refl _ | refine Step.alloc ?_ _ | refine Step.drew ?_ | refine Step.drewN ?_ _ | refine Step.setCell ?_ (by first | exact Nat.le_refl _ | assumption | omega | (simp; done) | (simp; omega)) _ | assumption | refine Step.trans ?_ (by assumption : Step _ _)))⟩

set_option maxRecDepth 100000 in
set_option maxHeartbeats 4000000 in
theorem piece_scan {w : World} {M : Nat → Prop} {v : Value} {sp : List (List UInt8)} {s : Nat} {cs : List Value} {o : DOp} (h : (Ty.slice Ty.bytes).rep w M [v] sp) (ho : tOp.rep w M cs o) (hs : s ≤ sp.length) (hk : o.kind = 4) :
    Calls Try.prog 71 #[v, .int .i64 (s : Int), .agg cs.toArray] w (PieceRet w M (pieceB sp s o)) := by
  obtain ⟨c1, c2, rfl, h0, h1, h2, h3⟩ := ho
  obtain ⟨a1, n1, rfl, _, _, hl1⟩ := Ty.slice_val h1
  obtain ⟨a2, n2, rfl, _, _, hl2⟩ := Ty.slice_val h2
  have H := Lib.hid h
  have H1 := Lib.hid h1
  have H2 := Lib.hid h2
  have I0 := Lib.hid h0
  have I3 := Lib.hid h3
  clear h h0 h1 h2 h3
  obtain ⟨k, key, value, most⟩ := o
  dsimp only at *
  subst hk
  have HP : Hid (pieceB sp s ⟨4, key, value, most⟩ = (⟨4, if 0 < cmpB (loB sp s) key then loB sp s else key, if hiB sp s ≠ [] ∧ (value = [] ∨ cmpB (hiB sp s) value < 0) then hiB sp s else value, most⟩,
    !emptyB (if 0 < cmpB (loB sp s) key then loB sp s else key) (if hiB sp s ≠ [] ∧ (value = [] ∨ cmpB (hiB sp s) value < 0) then hiB sp s else value))) := Lib.hid (by unfold pieceB; exact if_neg (by simp))
  generalize hlo : loB sp s = lo at HP
  generalize hhi : hiB sp s = hi at HP
  have HLO := Lib.hid hlo
  have HHI := Lib.hid hhi
  rw [HP.out]
  clear hlo hhi HP
  rcases Classical.em (0 < cmpB lo key) with hc | hc
  · rcases hi_cases hi value with rfl | ⟨hne, rfl⟩ | ⟨hne, hv, hc2⟩ | ⟨hne, hv, hc2⟩
    · have hcb : decide (0 < cmpB lo key) = true := decide_eq_true hc
      have HK : Hid ((if 0 < cmpB lo key then lo else key) = lo) := Lib.hid (if_pos hc)
      have HV : Hid ((if ([] : List UInt8) ≠ [] ∧ (value = [] ∨ cmpB [] value < 0) then [] else value) = value) := Lib.hid (by rw [if_neg (by simp)])

      rw [HK.out, HV.out]
      clear HK HV
      go_enter Try.func71, Try.ntmps71
      go_wp2_with (first
        | (go_at_call 99; refine (bounds_at H.out (by (repeat (first | exact Step.refl _ | refine Step.alloc ?_ _ | refine Step.drew ?_ | refine Step.drewN ?_ _ | refine Step.setCell ?_ (by first | exact Nat.le_refl _ | assumption | omega | (simp; done) | (simp; omega)) _ | assumption | refine Step.trans ?_ (by assumption : Step _ _)))) hs HLO.out HHI.out).mono ?_; rintro e w1 ⟨u1, u2, rfl, hu1, hu2, rfl⟩; obtain ⟨b1, m1, rfl, _⟩ := Ty.slice_val hu1; obtain ⟨b2, m2, rfl, _⟩ := Ty.slice_val hu2; have U1 := Lib.hid hu1; have U2 := Lib.hid hu2; clear hu1 hu2)
        | (go_at_call 75; refine (Compare_ (by refine Ty.step _ (Hid.out (by assumption)) ?_; (repeat (first | exact Step.refl _ | refine Step.alloc ?_ _ | refine Step.drew ?_ | refine Step.drewN ?_ _ | refine Step.setCell ?_ (by first | exact Nat.le_refl _ | assumption | omega | (simp; done) | (simp; omega)) _ | assumption | refine Step.trans ?_ (by assumption : Step _ _)))) (by refine Ty.step _ (Hid.out (by assumption)) ?_; (repeat (first | exact Step.refl _ | refine Step.alloc ?_ _ | refine Step.drew ?_ | refine Step.drewN ?_ _ | refine Step.setCell ?_ (by first | exact Nat.le_refl _ | assumption | omega | (simp; done) | (simp; omega)) _ | assumption | refine Step.trans ?_ (by assumption : Step _ _))))).mono ?_; rintro e w' ⟨rfl, rfl⟩))
      go_region_held3 (fun w' => w'.cell? ⟨w.heap.size, 0, none⟩ = some (.int .i64 4) ∧ w'.cell? ⟨w.heap.size, 1, none⟩ = some (.slice b1 lo.length m1) ∧ w'.cell? ⟨w.heap.size, 2, none⟩ = some (.slice a2 value.length n2) ∧ w'.cell? ⟨w.heap.size, 3, none⟩ = some (.int .i64 most)) (go_keep)
        (first
          | (go_at_call 78; refine (empty_ (by refine Ty.step _ (Hid.out (by assumption)) ?_; (repeat (first | exact Step.refl _ | refine Step.alloc ?_ _ | refine Step.drew ?_ | refine Step.drewN ?_ _ | refine Step.setCell ?_ (by first | exact Nat.le_refl _ | assumption | omega | (simp; done) | (simp; omega)) _ | assumption | refine Step.trans ?_ (by assumption : Step _ _)))) (by refine Ty.step _ (Hid.out (by assumption)) ?_; (repeat (first | exact Step.refl _ | refine Step.alloc ?_ _ | refine Step.drew ?_ | refine Step.drewN ?_ _ | refine Step.setCell ?_ (by first | exact Nat.le_refl _ | assumption | omega | (simp; done) | (simp; omega)) _ | assumption | refine Step.trans ?_ (by assumption : Step _ _))))).mono ?_; rintro e w' ⟨rfl, rfl⟩))
      go_wp2
      exact bodyPost_ret (v := .tuple #[.agg #[.int .i64 4, .slice b1 lo.length m1, .slice a2 value.length n2, .int .i64 most], .bool (!emptyB lo value)]) (by simp [results, Try.results71, go_sem]) rfl ⟨_, rfl, ⟨_, _, rfl, I0.out, (by refine Ty.step _ (Hid.out (by assumption)) ?_; (repeat (first | exact Step.refl _ | refine Step.alloc ?_ _ | refine Step.drew ?_ | refine Step.drewN ?_ _ | refine Step.setCell ?_ (by first | exact Nat.le_refl _ | assumption | omega | (simp; done) | (simp; omega)) _ | assumption | refine Step.trans ?_ (by assumption : Step _ _)))), (by refine Ty.step _ (Hid.out (by assumption)) ?_; (repeat (first | exact Step.refl _ | refine Step.alloc ?_ _ | refine Step.drew ?_ | refine Step.drewN ?_ _ | refine Step.setCell ?_ (by first | exact Nat.le_refl _ | assumption | omega | (simp; done) | (simp; omega)) _ | assumption | refine Step.trans ?_ (by assumption : Step _ _)))), I3.out⟩, by (repeat (first | exact Step.refl _ | refine Step.alloc ?_ _ | refine Step.drew ?_ | refine Step.drewN ?_ _ | refine Step.setCell ?_ (by first | exact Nat.le_refl _ | assumption | omega | (simp; done) | (simp; omega)) _ | assumption | refine Step.trans ?_ (by assumption : Step _ _)))⟩
    · have hcb : decide (0 < cmpB lo key) = true := decide_eq_true hc
      have HK : Hid ((if 0 < cmpB lo key then lo else key) = lo) := Lib.hid (if_pos hc)
      have HV : Hid ((if hi ≠ [] ∧ (([] : List UInt8) = [] ∨ cmpB hi [] < 0) then hi else []) = hi) := Lib.hid (by rw [if_pos ⟨hne, .inl rfl⟩])
      have hl3 : 0 < hi.length := List.length_pos_iff.2 hne

      rw [HK.out, HV.out]
      clear HK HV
      go_enter Try.func71, Try.ntmps71
      go_wp2_with (first
        | (go_at_call 99; refine (bounds_at H.out (by (repeat (first | exact Step.refl _ | refine Step.alloc ?_ _ | refine Step.drew ?_ | refine Step.drewN ?_ _ | refine Step.setCell ?_ (by first | exact Nat.le_refl _ | assumption | omega | (simp; done) | (simp; omega)) _ | assumption | refine Step.trans ?_ (by assumption : Step _ _)))) hs HLO.out HHI.out).mono ?_; rintro e w1 ⟨u1, u2, rfl, hu1, hu2, rfl⟩; obtain ⟨b1, m1, rfl, _⟩ := Ty.slice_val hu1; obtain ⟨b2, m2, rfl, _⟩ := Ty.slice_val hu2; have U1 := Lib.hid hu1; have U2 := Lib.hid hu2; clear hu1 hu2)
        | (go_at_call 75; refine (Compare_ (by refine Ty.step _ (Hid.out (by assumption)) ?_; (repeat (first | exact Step.refl _ | refine Step.alloc ?_ _ | refine Step.drew ?_ | refine Step.drewN ?_ _ | refine Step.setCell ?_ (by first | exact Nat.le_refl _ | assumption | omega | (simp; done) | (simp; omega)) _ | assumption | refine Step.trans ?_ (by assumption : Step _ _)))) (by refine Ty.step _ (Hid.out (by assumption)) ?_; (repeat (first | exact Step.refl _ | refine Step.alloc ?_ _ | refine Step.drew ?_ | refine Step.drewN ?_ _ | refine Step.setCell ?_ (by first | exact Nat.le_refl _ | assumption | omega | (simp; done) | (simp; omega)) _ | assumption | refine Step.trans ?_ (by assumption : Step _ _))))).mono ?_; rintro e w' ⟨rfl, rfl⟩))
      go_region_held3 (fun w' => w'.cell? ⟨w.heap.size, 0, none⟩ = some (.int .i64 4) ∧ w'.cell? ⟨w.heap.size, 1, none⟩ = some (.slice b1 lo.length m1) ∧ w'.cell? ⟨w.heap.size, 2, none⟩ = some (.slice b2 hi.length m2) ∧ w'.cell? ⟨w.heap.size, 3, none⟩ = some (.int .i64 most)) (go_keep)
        (first
          | (go_at_call 78; refine (empty_ (by refine Ty.step _ (Hid.out (by assumption)) ?_; (repeat (first | exact Step.refl _ | refine Step.alloc ?_ _ | refine Step.drew ?_ | refine Step.drewN ?_ _ | refine Step.setCell ?_ (by first | exact Nat.le_refl _ | assumption | omega | (simp; done) | (simp; omega)) _ | assumption | refine Step.trans ?_ (by assumption : Step _ _)))) (by refine Ty.step _ (Hid.out (by assumption)) ?_; (repeat (first | exact Step.refl _ | refine Step.alloc ?_ _ | refine Step.drew ?_ | refine Step.drewN ?_ _ | refine Step.setCell ?_ (by first | exact Nat.le_refl _ | assumption | omega | (simp; done) | (simp; omega)) _ | assumption | refine Step.trans ?_ (by assumption : Step _ _))))).mono ?_; rintro e w' ⟨rfl, rfl⟩))
      go_wp2
      exact bodyPost_ret (v := .tuple #[.agg #[.int .i64 4, .slice b1 lo.length m1, .slice b2 hi.length m2, .int .i64 most], .bool (!emptyB lo hi)]) (by simp [results, Try.results71, go_sem]) rfl ⟨_, rfl, ⟨_, _, rfl, I0.out, (by refine Ty.step _ (Hid.out (by assumption)) ?_; (repeat (first | exact Step.refl _ | refine Step.alloc ?_ _ | refine Step.drew ?_ | refine Step.drewN ?_ _ | refine Step.setCell ?_ (by first | exact Nat.le_refl _ | assumption | omega | (simp; done) | (simp; omega)) _ | assumption | refine Step.trans ?_ (by assumption : Step _ _)))), (by refine Ty.step _ (Hid.out (by assumption)) ?_; (repeat (first | exact Step.refl _ | refine Step.alloc ?_ _ | refine Step.drew ?_ | refine Step.drewN ?_ _ | refine Step.setCell ?_ (by first | exact Nat.le_refl _ | assumption | omega | (simp; done) | (simp; omega)) _ | assumption | refine Step.trans ?_ (by assumption : Step _ _)))), I3.out⟩, by (repeat (first | exact Step.refl _ | refine Step.alloc ?_ _ | refine Step.drew ?_ | refine Step.drewN ?_ _ | refine Step.setCell ?_ (by first | exact Nat.le_refl _ | assumption | omega | (simp; done) | (simp; omega)) _ | assumption | refine Step.trans ?_ (by assumption : Step _ _)))⟩
    · have hcb : decide (0 < cmpB lo key) = true := decide_eq_true hc
      have HK : Hid ((if 0 < cmpB lo key then lo else key) = lo) := Lib.hid (if_pos hc)
      have HV : Hid ((if hi ≠ [] ∧ (value = [] ∨ cmpB hi value < 0) then hi else value) = hi) := Lib.hid (by rw [if_pos ⟨hne, .inr hc2⟩])
      have hl3 : 0 < hi.length := List.length_pos_iff.2 hne
      have hzv : ((value.length : Int) == 0) = false := beq_eq_false_iff_ne.2 (by have := List.length_pos_iff.2 hv; omega)
      have hcb2 : decide (cmpB hi value < 0) = true := decide_eq_true hc2
      clear hv
      rw [HK.out, HV.out]
      clear HK HV
      go_enter Try.func71, Try.ntmps71
      go_wp2_with (first
        | (go_at_call 99; refine (bounds_at H.out (by (repeat (first | exact Step.refl _ | refine Step.alloc ?_ _ | refine Step.drew ?_ | refine Step.drewN ?_ _ | refine Step.setCell ?_ (by first | exact Nat.le_refl _ | assumption | omega | (simp; done) | (simp; omega)) _ | assumption | refine Step.trans ?_ (by assumption : Step _ _)))) hs HLO.out HHI.out).mono ?_; rintro e w1 ⟨u1, u2, rfl, hu1, hu2, rfl⟩; obtain ⟨b1, m1, rfl, _⟩ := Ty.slice_val hu1; obtain ⟨b2, m2, rfl, _⟩ := Ty.slice_val hu2; have U1 := Lib.hid hu1; have U2 := Lib.hid hu2; clear hu1 hu2)
        | (go_at_call 75; refine (Compare_ (by refine Ty.step _ (Hid.out (by assumption)) ?_; (repeat (first | exact Step.refl _ | refine Step.alloc ?_ _ | refine Step.drew ?_ | refine Step.drewN ?_ _ | refine Step.setCell ?_ (by first | exact Nat.le_refl _ | assumption | omega | (simp; done) | (simp; omega)) _ | assumption | refine Step.trans ?_ (by assumption : Step _ _)))) (by refine Ty.step _ (Hid.out (by assumption)) ?_; (repeat (first | exact Step.refl _ | refine Step.alloc ?_ _ | refine Step.drew ?_ | refine Step.drewN ?_ _ | refine Step.setCell ?_ (by first | exact Nat.le_refl _ | assumption | omega | (simp; done) | (simp; omega)) _ | assumption | refine Step.trans ?_ (by assumption : Step _ _))))).mono ?_; rintro e w' ⟨rfl, rfl⟩))
      go_region_held3 (fun w' => w'.cell? ⟨w.heap.size, 0, none⟩ = some (.int .i64 4) ∧ w'.cell? ⟨w.heap.size, 1, none⟩ = some (.slice b1 lo.length m1) ∧ w'.cell? ⟨w.heap.size, 2, none⟩ = some (.slice b2 hi.length m2) ∧ w'.cell? ⟨w.heap.size, 3, none⟩ = some (.int .i64 most)) (go_keep)
        (first
          | (go_at_call 78; refine (empty_ (by refine Ty.step _ (Hid.out (by assumption)) ?_; (repeat (first | exact Step.refl _ | refine Step.alloc ?_ _ | refine Step.drew ?_ | refine Step.drewN ?_ _ | refine Step.setCell ?_ (by first | exact Nat.le_refl _ | assumption | omega | (simp; done) | (simp; omega)) _ | assumption | refine Step.trans ?_ (by assumption : Step _ _)))) (by refine Ty.step _ (Hid.out (by assumption)) ?_; (repeat (first | exact Step.refl _ | refine Step.alloc ?_ _ | refine Step.drew ?_ | refine Step.drewN ?_ _ | refine Step.setCell ?_ (by first | exact Nat.le_refl _ | assumption | omega | (simp; done) | (simp; omega)) _ | assumption | refine Step.trans ?_ (by assumption : Step _ _))))).mono ?_; rintro e w' ⟨rfl, rfl⟩))
      go_wp2
      exact bodyPost_ret (v := .tuple #[.agg #[.int .i64 4, .slice b1 lo.length m1, .slice b2 hi.length m2, .int .i64 most], .bool (!emptyB lo hi)]) (by simp [results, Try.results71, go_sem]) rfl ⟨_, rfl, ⟨_, _, rfl, I0.out, (by refine Ty.step _ (Hid.out (by assumption)) ?_; (repeat (first | exact Step.refl _ | refine Step.alloc ?_ _ | refine Step.drew ?_ | refine Step.drewN ?_ _ | refine Step.setCell ?_ (by first | exact Nat.le_refl _ | assumption | omega | (simp; done) | (simp; omega)) _ | assumption | refine Step.trans ?_ (by assumption : Step _ _)))), (by refine Ty.step _ (Hid.out (by assumption)) ?_; (repeat (first | exact Step.refl _ | refine Step.alloc ?_ _ | refine Step.drew ?_ | refine Step.drewN ?_ _ | refine Step.setCell ?_ (by first | exact Nat.le_refl _ | assumption | omega | (simp; done) | (simp; omega)) _ | assumption | refine Step.trans ?_ (by assumption : Step _ _)))), I3.out⟩, by (repeat (first | exact Step.refl _ | refine Step.alloc ?_ _ | refine Step.drew ?_ | refine Step.drewN ?_ _ | refine Step.setCell ?_ (by first | exact Nat.le_refl _ | assumption | omega | (simp; done) | (simp; omega)) _ | assumption | refine Step.trans ?_ (by assumption : Step _ _)))⟩
    · have hcb : decide (0 < cmpB lo key) = true := decide_eq_true hc
      have HK : Hid ((if 0 < cmpB lo key then lo else key) = lo) := Lib.hid (if_pos hc)
      have HV : Hid ((if hi ≠ [] ∧ (value = [] ∨ cmpB hi value < 0) then hi else value) = value) := Lib.hid (by rw [if_neg (fun h => h.2.elim hv hc2)])
      have hl3 : 0 < hi.length := List.length_pos_iff.2 hne
      have hzv : ((value.length : Int) == 0) = false := beq_eq_false_iff_ne.2 (by have := List.length_pos_iff.2 hv; omega)
      have hcb2 : decide (cmpB hi value < 0) = false := decide_eq_false hc2
      clear hv
      rw [HK.out, HV.out]
      clear HK HV
      go_enter Try.func71, Try.ntmps71
      go_wp2_with (first
        | (go_at_call 99; refine (bounds_at H.out (by (repeat (first | exact Step.refl _ | refine Step.alloc ?_ _ | refine Step.drew ?_ | refine Step.drewN ?_ _ | refine Step.setCell ?_ (by first | exact Nat.le_refl _ | assumption | omega | (simp; done) | (simp; omega)) _ | assumption | refine Step.trans ?_ (by assumption : Step _ _)))) hs HLO.out HHI.out).mono ?_; rintro e w1 ⟨u1, u2, rfl, hu1, hu2, rfl⟩; obtain ⟨b1, m1, rfl, _⟩ := Ty.slice_val hu1; obtain ⟨b2, m2, rfl, _⟩ := Ty.slice_val hu2; have U1 := Lib.hid hu1; have U2 := Lib.hid hu2; clear hu1 hu2)
        | (go_at_call 75; refine (Compare_ (by refine Ty.step _ (Hid.out (by assumption)) ?_; (repeat (first | exact Step.refl _ | refine Step.alloc ?_ _ | refine Step.drew ?_ | refine Step.drewN ?_ _ | refine Step.setCell ?_ (by first | exact Nat.le_refl _ | assumption | omega | (simp; done) | (simp; omega)) _ | assumption | refine Step.trans ?_ (by assumption : Step _ _)))) (by refine Ty.step _ (Hid.out (by assumption)) ?_; (repeat (first | exact Step.refl _ | refine Step.alloc ?_ _ | refine Step.drew ?_ | refine Step.drewN ?_ _ | refine Step.setCell ?_ (by first | exact Nat.le_refl _ | assumption | omega | (simp; done) | (simp; omega)) _ | assumption | refine Step.trans ?_ (by assumption : Step _ _))))).mono ?_; rintro e w' ⟨rfl, rfl⟩))
      go_region_held3 (fun w' => w'.cell? ⟨w.heap.size, 0, none⟩ = some (.int .i64 4) ∧ w'.cell? ⟨w.heap.size, 1, none⟩ = some (.slice b1 lo.length m1) ∧ w'.cell? ⟨w.heap.size, 2, none⟩ = some (.slice a2 value.length n2) ∧ w'.cell? ⟨w.heap.size, 3, none⟩ = some (.int .i64 most)) (go_keep)
        (first
          | (go_at_call 78; refine (empty_ (by refine Ty.step _ (Hid.out (by assumption)) ?_; (repeat (first | exact Step.refl _ | refine Step.alloc ?_ _ | refine Step.drew ?_ | refine Step.drewN ?_ _ | refine Step.setCell ?_ (by first | exact Nat.le_refl _ | assumption | omega | (simp; done) | (simp; omega)) _ | assumption | refine Step.trans ?_ (by assumption : Step _ _)))) (by refine Ty.step _ (Hid.out (by assumption)) ?_; (repeat (first | exact Step.refl _ | refine Step.alloc ?_ _ | refine Step.drew ?_ | refine Step.drewN ?_ _ | refine Step.setCell ?_ (by first | exact Nat.le_refl _ | assumption | omega | (simp; done) | (simp; omega)) _ | assumption | refine Step.trans ?_ (by assumption : Step _ _))))).mono ?_; rintro e w' ⟨rfl, rfl⟩))
      go_wp2
      exact bodyPost_ret (v := .tuple #[.agg #[.int .i64 4, .slice b1 lo.length m1, .slice a2 value.length n2, .int .i64 most], .bool (!emptyB lo value)]) (by simp [results, Try.results71, go_sem]) rfl ⟨_, rfl, ⟨_, _, rfl, I0.out, (by refine Ty.step _ (Hid.out (by assumption)) ?_; (repeat (first | exact Step.refl _ | refine Step.alloc ?_ _ | refine Step.drew ?_ | refine Step.drewN ?_ _ | refine Step.setCell ?_ (by first | exact Nat.le_refl _ | assumption | omega | (simp; done) | (simp; omega)) _ | assumption | refine Step.trans ?_ (by assumption : Step _ _)))), (by refine Ty.step _ (Hid.out (by assumption)) ?_; (repeat (first | exact Step.refl _ | refine Step.alloc ?_ _ | refine Step.drew ?_ | refine Step.drewN ?_ _ | refine Step.setCell ?_ (by first | exact Nat.le_refl _ | assumption | omega | (simp; done) | (simp; omega)) _ | assumption | refine Step.trans ?_ (by assumption : Step _ _)))), I3.out⟩, by (repeat (first | exact Step.refl _ | refine Step.alloc ?_ _ | refine Step.drew ?_ | refine Step.drewN ?_ _ | refine Step.setCell ?_ (by first | exact Nat.le_refl _ | assumption | omega | (simp; done) | (simp; omega)) _ | assumption | refine Step.trans ?_ (by assumption : Step _ _)))⟩
  · rcases hi_cases hi value with rfl | ⟨hne, rfl⟩ | ⟨hne, hv, hc2⟩ | ⟨hne, hv, hc2⟩
    · have hcb : decide (0 < cmpB lo key) = false := decide_eq_false hc
      have HK : Hid ((if 0 < cmpB lo key then lo else key) = key) := Lib.hid (if_neg hc)
      have HV : Hid ((if ([] : List UInt8) ≠ [] ∧ (value = [] ∨ cmpB [] value < 0) then [] else value) = value) := Lib.hid (by rw [if_neg (by simp)])

      rw [HK.out, HV.out]
      clear HK HV
      go_enter Try.func71, Try.ntmps71
      go_wp2_with (first
        | (go_at_call 99; refine (bounds_at H.out (by (repeat (first | exact Step.refl _ | refine Step.alloc ?_ _ | refine Step.drew ?_ | refine Step.drewN ?_ _ | refine Step.setCell ?_ (by first | exact Nat.le_refl _ | assumption | omega | (simp; done) | (simp; omega)) _ | assumption | refine Step.trans ?_ (by assumption : Step _ _)))) hs HLO.out HHI.out).mono ?_; rintro e w1 ⟨u1, u2, rfl, hu1, hu2, rfl⟩; obtain ⟨b1, m1, rfl, _⟩ := Ty.slice_val hu1; obtain ⟨b2, m2, rfl, _⟩ := Ty.slice_val hu2; have U1 := Lib.hid hu1; have U2 := Lib.hid hu2; clear hu1 hu2)
        | (go_at_call 75; refine (Compare_ (by refine Ty.step _ (Hid.out (by assumption)) ?_; (repeat (first | exact Step.refl _ | refine Step.alloc ?_ _ | refine Step.drew ?_ | refine Step.drewN ?_ _ | refine Step.setCell ?_ (by first | exact Nat.le_refl _ | assumption | omega | (simp; done) | (simp; omega)) _ | assumption | refine Step.trans ?_ (by assumption : Step _ _)))) (by refine Ty.step _ (Hid.out (by assumption)) ?_; (repeat (first | exact Step.refl _ | refine Step.alloc ?_ _ | refine Step.drew ?_ | refine Step.drewN ?_ _ | refine Step.setCell ?_ (by first | exact Nat.le_refl _ | assumption | omega | (simp; done) | (simp; omega)) _ | assumption | refine Step.trans ?_ (by assumption : Step _ _))))).mono ?_; rintro e w' ⟨rfl, rfl⟩))
      go_region_held3 (fun w' => w'.cell? ⟨w.heap.size, 0, none⟩ = some (.int .i64 4) ∧ w'.cell? ⟨w.heap.size, 1, none⟩ = some (.slice a1 key.length n1) ∧ w'.cell? ⟨w.heap.size, 2, none⟩ = some (.slice a2 value.length n2) ∧ w'.cell? ⟨w.heap.size, 3, none⟩ = some (.int .i64 most)) (go_keep)
        (first
          | (go_at_call 78; refine (empty_ (by refine Ty.step _ (Hid.out (by assumption)) ?_; (repeat (first | exact Step.refl _ | refine Step.alloc ?_ _ | refine Step.drew ?_ | refine Step.drewN ?_ _ | refine Step.setCell ?_ (by first | exact Nat.le_refl _ | assumption | omega | (simp; done) | (simp; omega)) _ | assumption | refine Step.trans ?_ (by assumption : Step _ _)))) (by refine Ty.step _ (Hid.out (by assumption)) ?_; (repeat (first | exact Step.refl _ | refine Step.alloc ?_ _ | refine Step.drew ?_ | refine Step.drewN ?_ _ | refine Step.setCell ?_ (by first | exact Nat.le_refl _ | assumption | omega | (simp; done) | (simp; omega)) _ | assumption | refine Step.trans ?_ (by assumption : Step _ _))))).mono ?_; rintro e w' ⟨rfl, rfl⟩))
      go_wp2
      exact bodyPost_ret (v := .tuple #[.agg #[.int .i64 4, .slice a1 key.length n1, .slice a2 value.length n2, .int .i64 most], .bool (!emptyB key value)]) (by simp [results, Try.results71, go_sem]) rfl ⟨_, rfl, ⟨_, _, rfl, I0.out, (by refine Ty.step _ (Hid.out (by assumption)) ?_; (repeat (first | exact Step.refl _ | refine Step.alloc ?_ _ | refine Step.drew ?_ | refine Step.drewN ?_ _ | refine Step.setCell ?_ (by first | exact Nat.le_refl _ | assumption | omega | (simp; done) | (simp; omega)) _ | assumption | refine Step.trans ?_ (by assumption : Step _ _)))), (by refine Ty.step _ (Hid.out (by assumption)) ?_; (repeat (first | exact Step.refl _ | refine Step.alloc ?_ _ | refine Step.drew ?_ | refine Step.drewN ?_ _ | refine Step.setCell ?_ (by first | exact Nat.le_refl _ | assumption | omega | (simp; done) | (simp; omega)) _ | assumption | refine Step.trans ?_ (by assumption : Step _ _)))), I3.out⟩, by (repeat (first | exact Step.refl _ | refine Step.alloc ?_ _ | refine Step.drew ?_ | refine Step.drewN ?_ _ | refine Step.setCell ?_ (by first | exact Nat.le_refl _ | assumption | omega | (simp; done) | (simp; omega)) _ | assumption | refine Step.trans ?_ (by assumption : Step _ _)))⟩
    · have hcb : decide (0 < cmpB lo key) = false := decide_eq_false hc
      have HK : Hid ((if 0 < cmpB lo key then lo else key) = key) := Lib.hid (if_neg hc)
      have HV : Hid ((if hi ≠ [] ∧ (([] : List UInt8) = [] ∨ cmpB hi [] < 0) then hi else []) = hi) := Lib.hid (by rw [if_pos ⟨hne, .inl rfl⟩])
      have hl3 : 0 < hi.length := List.length_pos_iff.2 hne

      rw [HK.out, HV.out]
      clear HK HV
      go_enter Try.func71, Try.ntmps71
      go_wp2_with (first
        | (go_at_call 99; refine (bounds_at H.out (by (repeat (first | exact Step.refl _ | refine Step.alloc ?_ _ | refine Step.drew ?_ | refine Step.drewN ?_ _ | refine Step.setCell ?_ (by first | exact Nat.le_refl _ | assumption | omega | (simp; done) | (simp; omega)) _ | assumption | refine Step.trans ?_ (by assumption : Step _ _)))) hs HLO.out HHI.out).mono ?_; rintro e w1 ⟨u1, u2, rfl, hu1, hu2, rfl⟩; obtain ⟨b1, m1, rfl, _⟩ := Ty.slice_val hu1; obtain ⟨b2, m2, rfl, _⟩ := Ty.slice_val hu2; have U1 := Lib.hid hu1; have U2 := Lib.hid hu2; clear hu1 hu2)
        | (go_at_call 75; refine (Compare_ (by refine Ty.step _ (Hid.out (by assumption)) ?_; (repeat (first | exact Step.refl _ | refine Step.alloc ?_ _ | refine Step.drew ?_ | refine Step.drewN ?_ _ | refine Step.setCell ?_ (by first | exact Nat.le_refl _ | assumption | omega | (simp; done) | (simp; omega)) _ | assumption | refine Step.trans ?_ (by assumption : Step _ _)))) (by refine Ty.step _ (Hid.out (by assumption)) ?_; (repeat (first | exact Step.refl _ | refine Step.alloc ?_ _ | refine Step.drew ?_ | refine Step.drewN ?_ _ | refine Step.setCell ?_ (by first | exact Nat.le_refl _ | assumption | omega | (simp; done) | (simp; omega)) _ | assumption | refine Step.trans ?_ (by assumption : Step _ _))))).mono ?_; rintro e w' ⟨rfl, rfl⟩))
      go_region_held3 (fun w' => w'.cell? ⟨w.heap.size, 0, none⟩ = some (.int .i64 4) ∧ w'.cell? ⟨w.heap.size, 1, none⟩ = some (.slice a1 key.length n1) ∧ w'.cell? ⟨w.heap.size, 2, none⟩ = some (.slice b2 hi.length m2) ∧ w'.cell? ⟨w.heap.size, 3, none⟩ = some (.int .i64 most)) (go_keep)
        (first
          | (go_at_call 78; refine (empty_ (by refine Ty.step _ (Hid.out (by assumption)) ?_; (repeat (first | exact Step.refl _ | refine Step.alloc ?_ _ | refine Step.drew ?_ | refine Step.drewN ?_ _ | refine Step.setCell ?_ (by first | exact Nat.le_refl _ | assumption | omega | (simp; done) | (simp; omega)) _ | assumption | refine Step.trans ?_ (by assumption : Step _ _)))) (by refine Ty.step _ (Hid.out (by assumption)) ?_; (repeat (first | exact Step.refl _ | refine Step.alloc ?_ _ | refine Step.drew ?_ | refine Step.drewN ?_ _ | refine Step.setCell ?_ (by first | exact Nat.le_refl _ | assumption | omega | (simp; done) | (simp; omega)) _ | assumption | refine Step.trans ?_ (by assumption : Step _ _))))).mono ?_; rintro e w' ⟨rfl, rfl⟩))
      go_wp2
      exact bodyPost_ret (v := .tuple #[.agg #[.int .i64 4, .slice a1 key.length n1, .slice b2 hi.length m2, .int .i64 most], .bool (!emptyB key hi)]) (by simp [results, Try.results71, go_sem]) rfl ⟨_, rfl, ⟨_, _, rfl, I0.out, (by refine Ty.step _ (Hid.out (by assumption)) ?_; (repeat (first | exact Step.refl _ | refine Step.alloc ?_ _ | refine Step.drew ?_ | refine Step.drewN ?_ _ | refine Step.setCell ?_ (by first | exact Nat.le_refl _ | assumption | omega | (simp; done) | (simp; omega)) _ | assumption | refine Step.trans ?_ (by assumption : Step _ _)))), (by refine Ty.step _ (Hid.out (by assumption)) ?_; (repeat (first | exact Step.refl _ | refine Step.alloc ?_ _ | refine Step.drew ?_ | refine Step.drewN ?_ _ | refine Step.setCell ?_ (by first | exact Nat.le_refl _ | assumption | omega | (simp; done) | (simp; omega)) _ | assumption | refine Step.trans ?_ (by assumption : Step _ _)))), I3.out⟩, by (repeat (first | exact Step.refl _ | refine Step.alloc ?_ _ | refine Step.drew ?_ | refine Step.drewN ?_ _ | refine Step.setCell ?_ (by first | exact Nat.le_refl _ | assumption | omega | (simp; done) | (simp; omega)) _ | assumption | refine Step.trans ?_ (by assumption : Step _ _)))⟩
    · have hcb : decide (0 < cmpB lo key) = false := decide_eq_false hc
      have HK : Hid ((if 0 < cmpB lo key then lo else key) = key) := Lib.hid (if_neg hc)
      have HV : Hid ((if hi ≠ [] ∧ (value = [] ∨ cmpB hi value < 0) then hi else value) = hi) := Lib.hid (by rw [if_pos ⟨hne, .inr hc2⟩])
      have hl3 : 0 < hi.length := List.length_pos_iff.2 hne
      have hzv : ((value.length : Int) == 0) = false := beq_eq_false_iff_ne.2 (by have := List.length_pos_iff.2 hv; omega)
      have hcb2 : decide (cmpB hi value < 0) = true := decide_eq_true hc2
      clear hv
      rw [HK.out, HV.out]
      clear HK HV
      go_enter Try.func71, Try.ntmps71
      go_wp2_with (first
        | (go_at_call 99; refine (bounds_at H.out (by (repeat (first | exact Step.refl _ | refine Step.alloc ?_ _ | refine Step.drew ?_ | refine Step.drewN ?_ _ | refine Step.setCell ?_ (by first | exact Nat.le_refl _ | assumption | omega | (simp; done) | (simp; omega)) _ | assumption | refine Step.trans ?_ (by assumption : Step _ _)))) hs HLO.out HHI.out).mono ?_; rintro e w1 ⟨u1, u2, rfl, hu1, hu2, rfl⟩; obtain ⟨b1, m1, rfl, _⟩ := Ty.slice_val hu1; obtain ⟨b2, m2, rfl, _⟩ := Ty.slice_val hu2; have U1 := Lib.hid hu1; have U2 := Lib.hid hu2; clear hu1 hu2)
        | (go_at_call 75; refine (Compare_ (by refine Ty.step _ (Hid.out (by assumption)) ?_; (repeat (first | exact Step.refl _ | refine Step.alloc ?_ _ | refine Step.drew ?_ | refine Step.drewN ?_ _ | refine Step.setCell ?_ (by first | exact Nat.le_refl _ | assumption | omega | (simp; done) | (simp; omega)) _ | assumption | refine Step.trans ?_ (by assumption : Step _ _)))) (by refine Ty.step _ (Hid.out (by assumption)) ?_; (repeat (first | exact Step.refl _ | refine Step.alloc ?_ _ | refine Step.drew ?_ | refine Step.drewN ?_ _ | refine Step.setCell ?_ (by first | exact Nat.le_refl _ | assumption | omega | (simp; done) | (simp; omega)) _ | assumption | refine Step.trans ?_ (by assumption : Step _ _))))).mono ?_; rintro e w' ⟨rfl, rfl⟩))
      go_region_held3 (fun w' => w'.cell? ⟨w.heap.size, 0, none⟩ = some (.int .i64 4) ∧ w'.cell? ⟨w.heap.size, 1, none⟩ = some (.slice a1 key.length n1) ∧ w'.cell? ⟨w.heap.size, 2, none⟩ = some (.slice b2 hi.length m2) ∧ w'.cell? ⟨w.heap.size, 3, none⟩ = some (.int .i64 most)) (go_keep)
        (first
          | (go_at_call 78; refine (empty_ (by refine Ty.step _ (Hid.out (by assumption)) ?_; (repeat (first | exact Step.refl _ | refine Step.alloc ?_ _ | refine Step.drew ?_ | refine Step.drewN ?_ _ | refine Step.setCell ?_ (by first | exact Nat.le_refl _ | assumption | omega | (simp; done) | (simp; omega)) _ | assumption | refine Step.trans ?_ (by assumption : Step _ _)))) (by refine Ty.step _ (Hid.out (by assumption)) ?_; (repeat (first | exact Step.refl _ | refine Step.alloc ?_ _ | refine Step.drew ?_ | refine Step.drewN ?_ _ | refine Step.setCell ?_ (by first | exact Nat.le_refl _ | assumption | omega | (simp; done) | (simp; omega)) _ | assumption | refine Step.trans ?_ (by assumption : Step _ _))))).mono ?_; rintro e w' ⟨rfl, rfl⟩))
      go_wp2
      exact bodyPost_ret (v := .tuple #[.agg #[.int .i64 4, .slice a1 key.length n1, .slice b2 hi.length m2, .int .i64 most], .bool (!emptyB key hi)]) (by simp [results, Try.results71, go_sem]) rfl ⟨_, rfl, ⟨_, _, rfl, I0.out, (by refine Ty.step _ (Hid.out (by assumption)) ?_; (repeat (first | exact Step.refl _ | refine Step.alloc ?_ _ | refine Step.drew ?_ | refine Step.drewN ?_ _ | refine Step.setCell ?_ (by first | exact Nat.le_refl _ | assumption | omega | (simp; done) | (simp; omega)) _ | assumption | refine Step.trans ?_ (by assumption : Step _ _)))), (by refine Ty.step _ (Hid.out (by assumption)) ?_; (repeat (first | exact Step.refl _ | refine Step.alloc ?_ _ | refine Step.drew ?_ | refine Step.drewN ?_ _ | refine Step.setCell ?_ (by first | exact Nat.le_refl _ | assumption | omega | (simp; done) | (simp; omega)) _ | assumption | refine Step.trans ?_ (by assumption : Step _ _)))), I3.out⟩, by (repeat (first | exact Step.refl _ | refine Step.alloc ?_ _ | refine Step.drew ?_ | refine Step.drewN ?_ _ | refine Step.setCell ?_ (by first | exact Nat.le_refl _ | assumption | omega | (simp; done) | (simp; omega)) _ | assumption | refine Step.trans ?_ (by assumption : Step _ _)))⟩
    · have hcb : decide (0 < cmpB lo key) = false := decide_eq_false hc
      have HK : Hid ((if 0 < cmpB lo key then lo else key) = key) := Lib.hid (if_neg hc)
      have HV : Hid ((if hi ≠ [] ∧ (value = [] ∨ cmpB hi value < 0) then hi else value) = value) := Lib.hid (by rw [if_neg (fun h => h.2.elim hv hc2)])
      have hl3 : 0 < hi.length := List.length_pos_iff.2 hne
      have hzv : ((value.length : Int) == 0) = false := beq_eq_false_iff_ne.2 (by have := List.length_pos_iff.2 hv; omega)
      have hcb2 : decide (cmpB hi value < 0) = false := decide_eq_false hc2
      clear hv
      rw [HK.out, HV.out]
      clear HK HV
      go_enter Try.func71, Try.ntmps71
      go_wp2_with (first
        | (go_at_call 99; refine (bounds_at H.out (by (repeat (first | exact Step.refl _ | refine Step.alloc ?_ _ | refine Step.drew ?_ | refine Step.drewN ?_ _ | refine Step.setCell ?_ (by first | exact Nat.le_refl _ | assumption | omega | (simp; done) | (simp; omega)) _ | assumption | refine Step.trans ?_ (by assumption : Step _ _)))) hs HLO.out HHI.out).mono ?_; rintro e w1 ⟨u1, u2, rfl, hu1, hu2, rfl⟩; obtain ⟨b1, m1, rfl, _⟩ := Ty.slice_val hu1; obtain ⟨b2, m2, rfl, _⟩ := Ty.slice_val hu2; have U1 := Lib.hid hu1; have U2 := Lib.hid hu2; clear hu1 hu2)
        | (go_at_call 75; refine (Compare_ (by refine Ty.step _ (Hid.out (by assumption)) ?_; (repeat (first | exact Step.refl _ | refine Step.alloc ?_ _ | refine Step.drew ?_ | refine Step.drewN ?_ _ | refine Step.setCell ?_ (by first | exact Nat.le_refl _ | assumption | omega | (simp; done) | (simp; omega)) _ | assumption | refine Step.trans ?_ (by assumption : Step _ _)))) (by refine Ty.step _ (Hid.out (by assumption)) ?_; (repeat (first | exact Step.refl _ | refine Step.alloc ?_ _ | refine Step.drew ?_ | refine Step.drewN ?_ _ | refine Step.setCell ?_ (by first | exact Nat.le_refl _ | assumption | omega | (simp; done) | (simp; omega)) _ | assumption | refine Step.trans ?_ (by assumption : Step _ _))))).mono ?_; rintro e w' ⟨rfl, rfl⟩))
      go_region_held3 (fun w' => w'.cell? ⟨w.heap.size, 0, none⟩ = some (.int .i64 4) ∧ w'.cell? ⟨w.heap.size, 1, none⟩ = some (.slice a1 key.length n1) ∧ w'.cell? ⟨w.heap.size, 2, none⟩ = some (.slice a2 value.length n2) ∧ w'.cell? ⟨w.heap.size, 3, none⟩ = some (.int .i64 most)) (go_keep)
        (first
          | (go_at_call 78; refine (empty_ (by refine Ty.step _ (Hid.out (by assumption)) ?_; (repeat (first | exact Step.refl _ | refine Step.alloc ?_ _ | refine Step.drew ?_ | refine Step.drewN ?_ _ | refine Step.setCell ?_ (by first | exact Nat.le_refl _ | assumption | omega | (simp; done) | (simp; omega)) _ | assumption | refine Step.trans ?_ (by assumption : Step _ _)))) (by refine Ty.step _ (Hid.out (by assumption)) ?_; (repeat (first | exact Step.refl _ | refine Step.alloc ?_ _ | refine Step.drew ?_ | refine Step.drewN ?_ _ | refine Step.setCell ?_ (by first | exact Nat.le_refl _ | assumption | omega | (simp; done) | (simp; omega)) _ | assumption | refine Step.trans ?_ (by assumption : Step _ _))))).mono ?_; rintro e w' ⟨rfl, rfl⟩))
      go_wp2
      exact bodyPost_ret (v := .tuple #[.agg #[.int .i64 4, .slice a1 key.length n1, .slice a2 value.length n2, .int .i64 most], .bool (!emptyB key value)]) (by simp [results, Try.results71, go_sem]) rfl ⟨_, rfl, ⟨_, _, rfl, I0.out, (by refine Ty.step _ (Hid.out (by assumption)) ?_; (repeat (first | exact Step.refl _ | refine Step.alloc ?_ _ | refine Step.drew ?_ | refine Step.drewN ?_ _ | refine Step.setCell ?_ (by first | exact Nat.le_refl _ | assumption | omega | (simp; done) | (simp; omega)) _ | assumption | refine Step.trans ?_ (by assumption : Step _ _)))), (by refine Ty.step _ (Hid.out (by assumption)) ?_; (repeat (first | exact Step.refl _ | refine Step.alloc ?_ _ | refine Step.drew ?_ | refine Step.drewN ?_ _ | refine Step.setCell ?_ (by first | exact Nat.le_refl _ | assumption | omega | (simp; done) | (simp; omega)) _ | assumption | refine Step.trans ?_ (by assumption : Step _ _)))), I3.out⟩, by (repeat (first | exact Step.refl _ | refine Step.alloc ?_ _ | refine Step.drew ?_ | refine Step.drewN ?_ _ | refine Step.setCell ?_ (by first | exact Nat.le_refl _ | assumption | omega | (simp; done) | (simp; omega)) _ | assumption | refine Step.trans ?_ (by assumption : Step _ _)))⟩
end Go.Proofs.Ythflkfgiclcdiaa

namespace Go.Proofs.Ythflkfgiclcdiaa
open Go.RowKit Go.Gr
set_option linter.unusedSimpArgs false
def badMost (o : DOp) : Bool := decide (o.kind = 4 ∧ (o.most < 1 ∨ 32 < o.most))
def badSize (o : DOp) : Bool := decide (64 < o.key.length ∨ (o.kind = 4 ∧ 64 < o.value.length) ∨ ((o.kind = 2 ∨ o.kind = 5) ∧ 128 < o.value.length))
def badKind (o : DOp) : Bool := decide (o.kind < 1 ∨ 6 < o.kind)
def checkRef (ops : List DOp) : Int := if ops.any badMost then 1 else if 16 < ops.length then 2 else if ops.any badSize then 2 else if ops.any badKind then 3 else 0

theorem faultB_zero {o : DOp} : faultB o = 0 ↔ badMost o = false ∧ badSize o = false ∧ badKind o = false := by
  simp only [faultB, badMost, badSize, badKind, decide_eq_false_iff_not]
  (repeat' split) <;> constructor <;> intro h <;> first | (exfalso; omega) | (refine ⟨?_, ?_, ?_⟩ <;> omega) | rfl
theorem faultB_one {o : DOp} : faultB o = 1 ↔ badMost o = true := by
  simp only [faultB, badMost, decide_eq_true_iff]
  (repeat' split) <;> constructor <;> intro h <;> first | (exfalso; omega) | rfl | omega
theorem faultB_two {o : DOp} : faultB o = 2 ↔ badMost o = false ∧ badSize o = true := by
  simp only [faultB, badMost, badSize, decide_eq_true_iff, decide_eq_false_iff_not]
  (repeat' split) <;> constructor <;> intro h <;> first | (exfalso; omega) | rfl | (refine ⟨?_, ?_⟩ <;> omega)

/-- The least error that is none, of a list. -/
theorem checkAll_spec (ops : List DOp) : checkAll ops = if ops.any badMost then 1 else if ops.any badSize then 2 else if ops.any badKind then 3 else 0 := by
  suffices H : ∀ (l : List DOp) (c : Int), (c = 0 ∨ c = 1 ∨ c = 2 ∨ c = 3) → l.foldl checkStep c =
      if c = 1 ∨ l.any badMost = true then 1 else if c = 2 ∨ l.any badSize = true then 2 else if c = 3 ∨ l.any badKind = true then 3 else 0 by
    have := H ops 0 (.inl rfl)
    simpa [checkAll] using this
  intro l
  induction l with
  | nil => intro c hc; rcases hc with rfl | rfl | rfl | rfl <;> simp
  | cons o l ih =>
    intro c hc
    have hr := faultB_range o
    have h0 := @faultB_zero o
    have h1 := @faultB_one o
    have h2 := @faultB_two o
    have hs : checkStep c o = 0 ∨ checkStep c o = 1 ∨ checkStep c o = 2 ∨ checkStep c o = 3 := by
      unfold checkStep
      split <;> omega
    rw [List.foldl_cons, ih _ hs]
    have e1 : checkStep c o = 1 ↔ c = 1 ∨ badMost o = true := by
      rw [← h1]; unfold checkStep; split <;> omega
    have e2 : ¬ (c = 1 ∨ badMost o = true) → (checkStep c o = 2 ↔ c = 2 ∨ badSize o = true) := by
      intro hn
      rw [← h1] at hn
      have : badSize o = true ↔ faultB o = 2 := by
        rw [h2]
        constructor
        · intro h; exact ⟨by rw [Bool.eq_false_iff]; intro hb; exact hn (.inr (h1.2 hb)), h⟩
        · exact fun h => h.2
      rw [this]; unfold checkStep; split <;> omega
    have e3 : ¬ (c = 1 ∨ badMost o = true) → ¬ (c = 2 ∨ badSize o = true) → (checkStep c o = 3 ↔ c = 3 ∨ badKind o = true) := by
      intro hn hn2
      have hm : badMost o = false := by rw [Bool.eq_false_iff]; exact fun hb => hn (.inr hb)
      have hz : badSize o = false := by rw [Bool.eq_false_iff]; exact fun hb => hn2 (.inr hb)
      have n1 : faultB o ≠ 1 := fun h => by rw [h1, hm] at h; cases h
      have n2 : faultB o ≠ 2 := fun h => by rw [h2, hz] at h; cases h.2
      have : badKind o = true ↔ faultB o = 3 := by
        constructor
        · intro h
          have n0 : faultB o ≠ 0 := fun h' => by rw [h0, h] at h'; cases h'.2.2
          omega
        · intro h
          cases hk : badKind o with
          | true => rfl
          | false => exact absurd ((h0.2 ⟨hm, hz, hk⟩).symm.trans h) (by decide)
      have m1 : c ≠ 1 := fun h => hn (.inl h)
      have m2 : c ≠ 2 := fun h => hn2 (.inl h)
      rw [this]; unfold checkStep; split <;> omega
    simp only [List.any_cons, Bool.or_eq_true]
    by_cases p1 : c = 1 ∨ badMost o = true
    · rw [if_pos (.inl (e1.2 p1)), if_pos (by rcases p1 with h | h; exact .inl h; exact .inr (.inl h))]
    · have p1' : ¬ (checkStep c o = 1) := fun h => p1 (e1.1 h)
      have q1 : (checkStep c o = 1 ∨ l.any badMost = true) ↔ (c = 1 ∨ badMost o = true ∨ l.any badMost = true) := by
        constructor
        · rintro (h | h); exact absurd h p1'; exact .inr (.inr h)
        · rintro (h | h | h); exact absurd (.inl h) p1; exact absurd (.inr h) p1; exact .inr h
      by_cases p2 : c = 2 ∨ badSize o = true
      · have q2 : (checkStep c o = 2 ∨ l.any badSize = true) := .inl ((e2 p1).2 p2)
        have q2' : (c = 2 ∨ badSize o = true ∨ l.any badSize = true) := by rcases p2 with h | h; exact .inl h; exact .inr (.inl h)
        simp only [q1, if_pos q2, if_pos q2']
      · have p2' : ¬ (checkStep c o = 2) := fun h => p2 ((e2 p1).1 h)
        have q2 : (checkStep c o = 2 ∨ l.any badSize = true) ↔ (c = 2 ∨ badSize o = true ∨ l.any badSize = true) := by
          constructor
          · rintro (h | h); exact absurd h p2'; exact .inr (.inr h)
          · rintro (h | h | h); exact absurd (.inl h) p2; exact absurd (.inr h) p2; exact .inr h
        have q3 : (checkStep c o = 3 ∨ l.any badKind = true) ↔ (c = 3 ∨ badKind o = true ∨ l.any badKind = true) := by
          rw [e3 p1 p2, or_assoc]
        simp only [q1, q2, q3]
theorem check_same (ops : List DOp) : checkB ops = checkRef ops := by
  unfold checkB checkRef
  rw [checkAll_spec]
  by_cases h1 : ops.any badMost = true
  · simp [h1]
  · by_cases h2 : ops.any badSize = true
    · simp [h1, h2]
    · by_cases h3 : ops.any badKind = true
      · simp [h1, h2, h3]
      · simp [h1, h2, h3]

theorem any_take {α : Type} {l : List α} {p : α → Bool} (h : ∀ j (hj : j < l.length), j < l.length → p l[j] = false) : l.any p = false := any_not fun j hj => h j hj hj

set_option maxRecDepth 100000 in
set_option maxHeartbeats 4000000 in
theorem refCheck_ {w : World} {M : Nat → Prop} {v : Value} {xs : List DOp} (h : (Ty.slice tOp).rep w M [v] xs) :
    Calls Try.prog 12 #[v] w fun e w' => e = .returned (.int .i64 (checkRef xs)) ∧ Step w w' := by
  obtain ⟨a, c, rfl, hc, hm, hl⟩ := Ty.slice_val h
  have H := Lib.hid h
  clear h hc hm
  rw [lim_eq] at hl
  go_enter Try.func12, Try.ntmps12
  go_wp2
  go_loop [3] (fun i => ∃ k : Nat, i = .int .i64 k ∧ k ≤ xs.length ∧ Hid (∀ j (hj : j < xs.length), j < k → badMost xs[j] = false)) (fun i => xs.length - (intOf i).toNat)
  case atStart => exact ⟨0, rfl, by omega, Lib.hid (fun j _ h => absurd h (by omega))⟩
  case round =>
    obtain ⟨k, rfl, hk, hag⟩ := hrel
    by_cases hlt : k < xs.length
    · obtain ⟨ob, oo, oes, rfl, ohb, _, ou, ocu⟩ := Ty.slice_at H.out hlt
      obtain ⟨oc1, oc2, rfl, oh0, oh1, oh2, oh3⟩ := ou
      have oq0 := (Step.cell (w' := w) (by (repeat (first | exact Step.refl _ | refine Step.alloc ?_ _ | refine Step.drew ?_ | refine Step.drewN ?_ _ | refine Step.setCell ?_ (by first | exact Nat.le_refl _ | assumption | omega | (simp; done) | (simp; omega)) _ | assumption | refine Step.trans ?_ (by assumption : Step _ _)))) ohb _).trans (ocu 0 _ rfl)
      have oq1 := (Step.cell (w' := w) (by (repeat (first | exact Step.refl _ | refine Step.alloc ?_ _ | refine Step.drew ?_ | refine Step.drewN ?_ _ | refine Step.setCell ?_ (by first | exact Nat.le_refl _ | assumption | omega | (simp; done) | (simp; omega)) _ | assumption | refine Step.trans ?_ (by assumption : Step _ _)))) ohb _).trans (ocu 1 _ rfl)
      have oq2 := (Step.cell (w' := w) (by (repeat (first | exact Step.refl _ | refine Step.alloc ?_ _ | refine Step.drew ?_ | refine Step.drewN ?_ _ | refine Step.setCell ?_ (by first | exact Nat.le_refl _ | assumption | omega | (simp; done) | (simp; omega)) _ | assumption | refine Step.trans ?_ (by assumption : Step _ _)))) ohb _).trans (ocu 2 _ rfl)
      have oq3 := (Step.cell (w' := w) (by (repeat (first | exact Step.refl _ | refine Step.alloc ?_ _ | refine Step.drew ?_ | refine Step.drewN ?_ _ | refine Step.setCell ?_ (by first | exact Nat.le_refl _ | assumption | omega | (simp; done) | (simp; omega)) _ | assumption | refine Step.trans ?_ (by assumption : Step _ _)))) ohb _).trans (ocu 3 _ rfl)
      simp only [show tOp.n = 4 from rfl, Nat.add_zero] at oq0 oq1 oq2 oq3
      obtain ⟨oa1, on1, rfl, _⟩ := Ty.slice_val oh1
      obtain ⟨oa2, on2, rfl, _⟩ := Ty.slice_val oh2
      have oH0 := Lib.hid oh0
      have oH1 := Lib.hid oh1
      have oH2 := Lib.hid oh2
      have oH3 := Lib.hid oh3
      clear ocu oh0 oh1 oh2 oh3
      by_cases hb : xs[k].kind = 4 ∧ (xs[k].most < 1 ∨ 32 < xs[k].most)
      · have hr : Hid (checkRef xs = 1) := Lib.hid (if_pos (any_of_at hlt (decide_eq_true hb)))
        obtain ⟨hb1, hb2⟩ := hb
        rcases hb2 with hb2 | hb2
        all_goals go_wp2
        all_goals go_ret
        all_goals exact ⟨by rw [hr.out]; rfl, Step.refl _⟩
      · have hn : Hid (badMost xs[k] = false) := Lib.hid (decide_eq_false hb)
        rcases (by omega : xs[k].kind ≠ 4 ∨ (xs[k].kind = 4 ∧ 1 ≤ xs[k].most ∧ xs[k].most ≤ 32)) with hb1 | ⟨hb1, hb2, hb3⟩
        all_goals clear hb
        all_goals go_wp2
        all_goals refine ⟨⟨k + 1, by go_num, by omega, Lib.hid (fun j hj hlt' => ?_)⟩, by simp [intOf]; omega⟩
        all_goals (rcases Nat.lt_or_ge j k with h' | h'; exact hag.out j hj h'; obtain rfl : j = k := (by omega); exact hn.out)
    · obtain rfl : k = xs.length := by omega
      have hno : Hid (xs.any badMost = false) := Lib.hid (any_take hag.out)
      clear hag
      by_cases h16 : 16 < xs.length
      · have hr : Hid (checkRef xs = 2) := Lib.hid (by unfold checkRef; rw [hno.out, if_neg (by simp), if_pos h16])
        go_wp2
        go_ret
        exact ⟨by rw [hr.out]; rfl, Step.refl _⟩
      · go_wp2
        go_loopw [4, 5] (fun i _ w' => ∃ k : Nat, i = .int .i64 k ∧ k ≤ xs.length ∧ Hid (∀ j (hj : j < xs.length), j < k → badSize xs[j] = false) ∧ Step w w') (fun i _ _ => xs.length - (intOf i).toNat)
        case atStart => exact ⟨0, rfl, by omega, Lib.hid (fun j _ h => absurd h (by omega)), Step.refl _⟩
        case round =>
          rename_i wr _
          obtain ⟨k, rfl, hk, hag, hB⟩ := hrel
          by_cases hlt : k < xs.length
          · obtain ⟨ob, oo, oes, rfl, ohb, _, ou, ocu⟩ := Ty.slice_at H.out hlt
            obtain ⟨oc1, oc2, rfl, oh0, oh1, oh2, oh3⟩ := ou
            have oq0 := (Step.cell (w' := wr) (by (repeat (first | exact Step.refl _ | refine Step.alloc ?_ _ | refine Step.drew ?_ | refine Step.drewN ?_ _ | refine Step.setCell ?_ (by first | exact Nat.le_refl _ | assumption | omega | (simp; done) | (simp; omega)) _ | assumption | refine Step.trans ?_ (by assumption : Step _ _)))) ohb _).trans (ocu 0 _ rfl)
            have oq1 := (Step.cell (w' := wr) (by (repeat (first | exact Step.refl _ | refine Step.alloc ?_ _ | refine Step.drew ?_ | refine Step.drewN ?_ _ | refine Step.setCell ?_ (by first | exact Nat.le_refl _ | assumption | omega | (simp; done) | (simp; omega)) _ | assumption | refine Step.trans ?_ (by assumption : Step _ _)))) ohb _).trans (ocu 1 _ rfl)
            have oq2 := (Step.cell (w' := wr) (by (repeat (first | exact Step.refl _ | refine Step.alloc ?_ _ | refine Step.drew ?_ | refine Step.drewN ?_ _ | refine Step.setCell ?_ (by first | exact Nat.le_refl _ | assumption | omega | (simp; done) | (simp; omega)) _ | assumption | refine Step.trans ?_ (by assumption : Step _ _)))) ohb _).trans (ocu 2 _ rfl)
            have oq3 := (Step.cell (w' := wr) (by (repeat (first | exact Step.refl _ | refine Step.alloc ?_ _ | refine Step.drew ?_ | refine Step.drewN ?_ _ | refine Step.setCell ?_ (by first | exact Nat.le_refl _ | assumption | omega | (simp; done) | (simp; omega)) _ | assumption | refine Step.trans ?_ (by assumption : Step _ _)))) ohb _).trans (ocu 3 _ rfl)
            simp only [show tOp.n = 4 from rfl, Nat.add_zero] at oq0 oq1 oq2 oq3
            obtain ⟨oa1, on1, rfl, _⟩ := Ty.slice_val oh1
            obtain ⟨oa2, on2, rfl, _⟩ := Ty.slice_val oh2
            have oH0 := Lib.hid oh0
            have oH1 := Lib.hid oh1
            have oH2 := Lib.hid oh2
            have oH3 := Lib.hid oh3
            clear ocu oh0 oh1 oh2 oh3
            have hsz : Hid (badSize xs[k] = decide (64 < xs[k].key.length ∨ (xs[k].kind = 4 ∧ 64 < xs[k].value.length) ∨ ((xs[k].kind = 2 ∨ xs[k].kind = 5) ∧ 128 < xs[k].value.length))) := Lib.hid rfl
            have hrr : Hid (badSize xs[k] = true → checkRef xs = 2) := Lib.hid (fun hb => by unfold checkRef; rw [hno.out, if_neg (by simp), if_neg h16, if_pos (any_of_at hlt hb)])
            have hkeep : Hid (badSize xs[k] = false → ∀ j (hj : j < xs.length), j < k + 1 → badSize xs[j] = false) := Lib.hid (fun hn j hj hlt' => by
              rcases Nat.lt_or_ge j k with h' | h'
              · exact hag.out j hj h'
              · obtain rfl : j = k := by omega
                exact hn)
            clear oH0 oH1 oH2 oH3 hag
            generalize badSize xs[k] = bz at hsz hrr hkeep
            generalize xs[k].kind = kd at *
            generalize xs[k].key.length = kl at *
            generalize xs[k].value.length = vl at *
            have yes : (64 < kl ∨ (kd = 4 ∧ 64 < vl) ∨ ((kd = 2 ∨ kd = 5) ∧ 128 < vl)) → Hid (checkRef xs = 2) := fun hb => Lib.hid (hrr.out (by rw [hsz.out]; exact decide_eq_true hb))
            have no : ¬ (64 < kl ∨ (kd = 4 ∧ 64 < vl) ∨ ((kd = 2 ∨ kd = 5) ∧ 128 < vl)) → Hid (∀ j (hj : j < xs.length), j < k + 1 → badSize xs[j] = false) := fun hb => Lib.hid (hkeep.out (by rw [hsz.out]; exact decide_eq_false hb))
            have way : (64 < kl ∧ Hid (checkRef xs = 2)) ∨ (kl ≤ 64 ∧ kd = 4 ∧ 64 < vl ∧ Hid (checkRef xs = 2)) ∨ (kl ≤ 64 ∧ kd = 4 ∧ vl ≤ 64 ∧ Hid (∀ j (hj : j < xs.length), j < k + 1 → badSize xs[j] = false)) ∨
                (kl ≤ 64 ∧ kd = 2 ∧ 128 < vl ∧ Hid (checkRef xs = 2)) ∨ (kl ≤ 64 ∧ kd = 5 ∧ 128 < vl ∧ Hid (checkRef xs = 2)) ∨ (kl ≤ 64 ∧ kd = 2 ∧ vl ≤ 128 ∧ Hid (∀ j (hj : j < xs.length), j < k + 1 → badSize xs[j] = false)) ∨ (kl ≤ 64 ∧ kd = 5 ∧ vl ≤ 128 ∧ Hid (∀ j (hj : j < xs.length), j < k + 1 → badSize xs[j] = false)) ∨
                (kl ≤ 64 ∧ kd ≠ 4 ∧ kd ≠ 2 ∧ kd ≠ 5 ∧ Hid (∀ j (hj : j < xs.length), j < k + 1 → badSize xs[j] = false)) := by
              by_cases q : (64 < kl ∨ (kd = 4 ∧ 64 < vl) ∨ ((kd = 2 ∨ kd = 5) ∧ 128 < vl))
              · have y := yes q
                clear yes no hsz hrr hkeep
                simp only [y, and_true]
                omega
              · have y := no q
                clear yes no hsz hrr hkeep
                simp only [y, and_true]
                omega
            clear yes no hsz hrr hkeep
            rcases way with ⟨g1, hr⟩ | ⟨g1, rfl, g2, hr⟩ | ⟨g1, rfl, g2, hn⟩ | ⟨g1, rfl, g2, hr⟩ | ⟨g1, rfl, g2, hr⟩ | ⟨g1, rfl, g2, hn⟩ | ⟨g1, rfl, g2, hn⟩ | ⟨g1, g2, g3, g4, hn⟩
            · have G1 : decide ((64 : Int) < (kl : Int)) = true := decide_eq_true (by omega)
              go_wp2
              go_ret
              exact ⟨by rw [hr.out]; rfl, by (repeat (first | exact Step.refl _ | refine Step.alloc ?_ _ | refine Step.drew ?_ | refine Step.drewN ?_ _ | refine Step.setCell ?_ (by first | exact Nat.le_refl _ | assumption | omega | (simp; done) | (simp; omega)) _ | assumption | refine Step.trans ?_ (by assumption : Step _ _)))⟩
            · have G1 : decide ((64 : Int) < (kl : Int)) = false := decide_eq_false (by omega)
              have G2 : decide ((64 : Int) < (vl : Int)) = true := decide_eq_true (by omega)
              go_wp2
              go_ret
              exact ⟨by rw [hr.out]; rfl, by (repeat (first | exact Step.refl _ | refine Step.alloc ?_ _ | refine Step.drew ?_ | refine Step.drewN ?_ _ | refine Step.setCell ?_ (by first | exact Nat.le_refl _ | assumption | omega | (simp; done) | (simp; omega)) _ | assumption | refine Step.trans ?_ (by assumption : Step _ _)))⟩
            · have G1 : decide ((64 : Int) < (kl : Int)) = false := decide_eq_false (by omega)
              have G2 : decide ((64 : Int) < (vl : Int)) = false := decide_eq_false (by omega)
              go_wp2
              exact ⟨⟨k + 1, by go_num, by omega, hn, by (repeat (first | exact Step.refl _ | refine Step.alloc ?_ _ | refine Step.drew ?_ | refine Step.drewN ?_ _ | refine Step.setCell ?_ (by first | exact Nat.le_refl _ | assumption | omega | (simp; done) | (simp; omega)) _ | assumption | refine Step.trans ?_ (by assumption : Step _ _)))⟩, by simp [intOf]; omega⟩
            · have G1 : decide ((64 : Int) < (kl : Int)) = false := decide_eq_false (by omega)
              have G2 : decide ((128 : Int) < (vl : Int)) = true := decide_eq_true (by omega)
              go_wp2
              go_ret
              exact ⟨by rw [hr.out]; rfl, by (repeat (first | exact Step.refl _ | refine Step.alloc ?_ _ | refine Step.drew ?_ | refine Step.drewN ?_ _ | refine Step.setCell ?_ (by first | exact Nat.le_refl _ | assumption | omega | (simp; done) | (simp; omega)) _ | assumption | refine Step.trans ?_ (by assumption : Step _ _)))⟩
            · have G1 : decide ((64 : Int) < (kl : Int)) = false := decide_eq_false (by omega)
              have G2 : decide ((128 : Int) < (vl : Int)) = true := decide_eq_true (by omega)
              go_wp2
              go_ret
              exact ⟨by rw [hr.out]; rfl, by (repeat (first | exact Step.refl _ | refine Step.alloc ?_ _ | refine Step.drew ?_ | refine Step.drewN ?_ _ | refine Step.setCell ?_ (by first | exact Nat.le_refl _ | assumption | omega | (simp; done) | (simp; omega)) _ | assumption | refine Step.trans ?_ (by assumption : Step _ _)))⟩
            · have G1 : decide ((64 : Int) < (kl : Int)) = false := decide_eq_false (by omega)
              have G2 : decide ((128 : Int) < (vl : Int)) = false := decide_eq_false (by omega)
              go_wp2
              exact ⟨⟨k + 1, by go_num, by omega, hn, by (repeat (first | exact Step.refl _ | refine Step.alloc ?_ _ | refine Step.drew ?_ | refine Step.drewN ?_ _ | refine Step.setCell ?_ (by first | exact Nat.le_refl _ | assumption | omega | (simp; done) | (simp; omega)) _ | assumption | refine Step.trans ?_ (by assumption : Step _ _)))⟩, by simp [intOf]; omega⟩
            · have G1 : decide ((64 : Int) < (kl : Int)) = false := decide_eq_false (by omega)
              have G2 : decide ((128 : Int) < (vl : Int)) = false := decide_eq_false (by omega)
              go_wp2
              exact ⟨⟨k + 1, by go_num, by omega, hn, by (repeat (first | exact Step.refl _ | refine Step.alloc ?_ _ | refine Step.drew ?_ | refine Step.drewN ?_ _ | refine Step.setCell ?_ (by first | exact Nat.le_refl _ | assumption | omega | (simp; done) | (simp; omega)) _ | assumption | refine Step.trans ?_ (by assumption : Step _ _)))⟩, by simp [intOf]; omega⟩
            · have G1 : decide ((64 : Int) < (kl : Int)) = false := decide_eq_false (by omega)
              have D4 : (kd == 4) = false := beq_eq_false_iff_ne.2 g2
              have D2 : (kd == 2) = false := beq_eq_false_iff_ne.2 g3
              have D5 : (kd == 5) = false := beq_eq_false_iff_ne.2 g4
              go_wp2
              exact ⟨⟨k + 1, by go_num, by omega, hn, by (repeat (first | exact Step.refl _ | refine Step.alloc ?_ _ | refine Step.drew ?_ | refine Step.drewN ?_ _ | refine Step.setCell ?_ (by first | exact Nat.le_refl _ | assumption | omega | (simp; done) | (simp; omega)) _ | assumption | refine Step.trans ?_ (by assumption : Step _ _)))⟩, by simp [intOf]; omega⟩
          · obtain rfl : k = xs.length := by omega
            have hno2 : Hid (xs.any badSize = false) := Lib.hid (any_take hag.out)
            clear hag
            go_wp2
            go_loop [6] (fun i => ∃ k : Nat, i = .int .i64 k ∧ k ≤ xs.length ∧ Hid (∀ j (hj : j < xs.length), j < k → badKind xs[j] = false)) (fun i => xs.length - (intOf i).toNat)
            case atStart => exact ⟨0, rfl, by omega, Lib.hid (fun j _ h => absurd h (by omega))⟩
            case round =>
              obtain ⟨k, rfl, hk, hag⟩ := hrel
              by_cases hlt : k < xs.length
              · obtain ⟨ob, oo, oes, rfl, ohb, _, ou, ocu⟩ := Ty.slice_at H.out hlt
                obtain ⟨oc1, oc2, rfl, oh0, oh1, oh2, oh3⟩ := ou
                have oq0 := (Step.cell (w' := wr) (by (repeat (first | exact Step.refl _ | refine Step.alloc ?_ _ | refine Step.drew ?_ | refine Step.drewN ?_ _ | refine Step.setCell ?_ (by first | exact Nat.le_refl _ | assumption | omega | (simp; done) | (simp; omega)) _ | assumption | refine Step.trans ?_ (by assumption : Step _ _)))) ohb _).trans (ocu 0 _ rfl)
                have oq1 := (Step.cell (w' := wr) (by (repeat (first | exact Step.refl _ | refine Step.alloc ?_ _ | refine Step.drew ?_ | refine Step.drewN ?_ _ | refine Step.setCell ?_ (by first | exact Nat.le_refl _ | assumption | omega | (simp; done) | (simp; omega)) _ | assumption | refine Step.trans ?_ (by assumption : Step _ _)))) ohb _).trans (ocu 1 _ rfl)
                have oq2 := (Step.cell (w' := wr) (by (repeat (first | exact Step.refl _ | refine Step.alloc ?_ _ | refine Step.drew ?_ | refine Step.drewN ?_ _ | refine Step.setCell ?_ (by first | exact Nat.le_refl _ | assumption | omega | (simp; done) | (simp; omega)) _ | assumption | refine Step.trans ?_ (by assumption : Step _ _)))) ohb _).trans (ocu 2 _ rfl)
                have oq3 := (Step.cell (w' := wr) (by (repeat (first | exact Step.refl _ | refine Step.alloc ?_ _ | refine Step.drew ?_ | refine Step.drewN ?_ _ | refine Step.setCell ?_ (by first | exact Nat.le_refl _ | assumption | omega | (simp; done) | (simp; omega)) _ | assumption | refine Step.trans ?_ (by assumption : Step _ _)))) ohb _).trans (ocu 3 _ rfl)
                simp only [show tOp.n = 4 from rfl, Nat.add_zero] at oq0 oq1 oq2 oq3
                obtain ⟨oa1, on1, rfl, _⟩ := Ty.slice_val oh1
                obtain ⟨oa2, on2, rfl, _⟩ := Ty.slice_val oh2
                have oH0 := Lib.hid oh0
                have oH1 := Lib.hid oh1
                have oH2 := Lib.hid oh2
                have oH3 := Lib.hid oh3
                clear ocu oh0 oh1 oh2 oh3
                by_cases hb : xs[k].kind < 1 ∨ 6 < xs[k].kind
                · have hr : Hid (checkRef xs = 3) := Lib.hid (by unfold checkRef; rw [hno.out, if_neg (by simp), if_neg h16, hno2.out, if_neg (by simp), if_pos (any_of_at hlt (decide_eq_true hb))])
                  rcases hb with hb | hb
                  all_goals go_wp2
                  all_goals go_ret
                  all_goals exact ⟨by rw [hr.out]; rfl, by (repeat (first | exact Step.refl _ | refine Step.alloc ?_ _ | refine Step.drew ?_ | refine Step.drewN ?_ _ | refine Step.setCell ?_ (by first | exact Nat.le_refl _ | assumption | omega | (simp; done) | (simp; omega)) _ | assumption | refine Step.trans ?_ (by assumption : Step _ _)))⟩
                · have hn : Hid (badKind xs[k] = false) := Lib.hid (decide_eq_false hb)
                  have hb1 : 1 ≤ xs[k].kind := by omega
                  have hb2 : xs[k].kind ≤ 6 := by omega
                  clear hb
                  go_wp2
                  all_goals refine ⟨⟨k + 1, by go_num, by omega, Lib.hid (fun j hj hlt' => ?_)⟩, by simp [intOf]; omega⟩
                  all_goals (rcases Nat.lt_or_ge j k with h' | h'; exact hag.out j hj h'; obtain rfl : j = k := (by omega); exact hn.out)
              · obtain rfl : k = xs.length := by omega
                have hr : Hid (checkRef xs = 0) := Lib.hid (by unfold checkRef; rw [hno.out, if_neg (by simp), if_neg h16, hno2.out, if_neg (by simp), any_take hag.out, if_neg (by simp)])
                go_wp2
                go_ret
                exact ⟨by rw [hr.out]; rfl, by (repeat (first | exact Step.refl _ | refine Step.alloc ?_ _ | refine Step.drew ?_ | refine Step.drewN ?_ _ | refine Step.setCell ?_ (by first | exact Nat.le_refl _ | assumption | omega | (simp; done) | (simp; omega)) _ | assumption | refine Step.trans ?_ (by assumption : Step _ _)))⟩
end Go.Proofs.Ythflkfgiclcdiaa
