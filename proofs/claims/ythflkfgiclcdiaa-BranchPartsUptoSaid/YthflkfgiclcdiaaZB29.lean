/-
  Walk: what parts come to together (Join).
-/
import Derived.Test.YthflkfgiclcdiaaZB27
set_option linter.unusedVariables false
set_option linter.unusedSimpArgs false
namespace Go.Proofs.Ythflkfgiclcdiaa
open Go.RowKit Go.Gr Go.Sort
set_option linter.unusedSimpArgs false
set_option linter.unusedVariables false
abbrev jC (er at_ : Int) (rv wv : Value) : Array Value := #[.int .i64 er, .int .i64 at_, rv, wv]
abbrev jZ : Array Value := jC 0 0 (.slice none 0 0) (.slice none 0 0)
theorem nil_repJ {α : Type} {E : Ty α} {w : World} {M : Nat → Prop} : (Ty.slice E).rep w M [.slice none 0 0] [] := ⟨none, 0, rfl, Nat.le_refl _, Nat.zero_le _, by simp, fun h => absurd h (by simp)⟩
theorem RowsAt.put2 {w w' : World} {X : Nat → Prop} {g k : Nat} {vs : List Value} {Rs : List (List DPair)} {v2 : Value} {R2 : List DPair} (h : RowsAt w X g vs Rs) (hc : CellsAt w' g (vs.toArray.setIfInBounds k v2) 59) (ho : ∀ b, b < w.heap.size → b ≠ g → ¬ X b → w'.heap[b]? = w.heap[b]?)
    (hv : (Ty.slice tPair).rep w' (fun b => b = g ∨ X b) [v2] R2) : RowsAt w' X g (vs.set k v2) (Rs.set k R2) := by
  refine ⟨by simpa using hc, by simpa using h.len, fun i hi hr => ?_⟩
  by_cases hik : k = i
  · subst hik
    rw [List.getElem_set_self, List.getElem_set_self]
    exact hv
  · rw [List.getElem_set_ne hik, List.getElem_set_ne hik]
    exact Ty.keep _ (h.rep i (by simpa using hi) (by simpa using hr)) (fun b hb hm => ⟨ho b hb (fun e => hm (.inl e)) (fun e => hm (.inr e)), hm⟩)
/-- Rows, the first k of them cut. -/
def cutTo (ops : List DOp) (Rs : List (List DPair)) (k : Nat) : List (List DPair) := (cutRows ops Rs).take k ++ Rs.drop k
theorem cutTo_zero (ops : List DOp) (Rs : List (List DPair)) : cutTo ops Rs 0 = Rs := by simp [cutTo]
theorem cutRows_len {ops : List DOp} {Rs : List (List DPair)} (h : Rs.length = ops.length) : (cutRows ops Rs).length = ops.length := by
  unfold cutRows
  rw [List.length_zipWith, h, Nat.min_self]
theorem cutTo_end {ops : List DOp} {Rs : List (List DPair)} (h : Rs.length = ops.length) : cutTo ops Rs ops.length = cutRows ops Rs := by
  unfold cutTo
  rw [List.take_of_length_le (by rw [cutRows_len h]; exact Nat.le_refl _), List.drop_of_length_le (by omega), List.append_nil]
theorem cutTo_len {ops : List DOp} {Rs : List (List DPair)} (h : Rs.length = ops.length) {k : Nat} (hk : k ≤ ops.length) : (cutTo ops Rs k).length = ops.length := by
  unfold cutTo
  rw [List.length_append, List.length_take, List.length_drop, cutRows_len h]
  omega
theorem cutTo_at {ops : List DOp} {Rs : List (List DPair)} (h : Rs.length = ops.length) {k : Nat} (hk : k < ops.length) (h1 : k < (cutTo ops Rs k).length) (h2 : k < Rs.length) : (cutTo ops Rs k)[k] = Rs[k] := by
  have hl : ((cutRows ops Rs).take k).length = k := by rw [List.length_take, cutRows_len h]; omega
  have h3 : (cutTo ops Rs k)[k]? = some Rs[k] := by
    unfold cutTo
    rw [List.getElem?_append_right (by omega), hl, Nat.sub_self, List.getElem?_drop, Nat.add_zero, List.getElem?_eq_getElem h2]
  rw [List.getElem?_eq_getElem h1] at h3
  exact Option.some.inj h3
theorem cutTo_succ {ops : List DOp} {Rs : List (List DPair)} (h : Rs.length = ops.length) {k : Nat} (hk : k < ops.length) (h2 : k < Rs.length) : cutTo ops Rs (k + 1) = (cutTo ops Rs k).set k (cutB ops[k] Rs[k]) := by
  have hc : k < (cutRows ops Rs).length := by rw [cutRows_len h]; exact hk
  have hl : ((cutRows ops Rs).take k).length = k := by rw [List.length_take]; omega
  have hz : (cutRows ops Rs)[k] = cutB ops[k] Rs[k] := List.getElem_zipWith ..
  unfold cutTo
  rw [List.take_succ_eq_append_getElem hc, hz, List.set_append_right _ _ (by omega), hl, Nat.sub_self, List.drop_eq_getElem_cons h2, List.set_cons_zero, List.append_assoc]
  rfl
theorem set_same {α : Type} {l : List α} {k : Nat} (h : k < l.length) {x : α} (hx : l[k] = x) : l.set k x = l := by
  subst hx
  exact List.set_getElem_self h
theorem lim_two {k m x y : Nat} (hk : k ≤ 16) (hm : m ≤ 64) (h1 : x ≤ k * 67108864 + m * 1048576) (h2 : y ≤ 1048576) : x + y ≤ lim := by
  have e1 : k * 67108864 ≤ 16 * 67108864 := Nat.mul_le_mul_right _ hk
  have e2 : m * 1048576 ≤ 64 * 1048576 := Nat.mul_le_mul_right _ hm
  rw [lim_eq]
  omega
theorem lim_step {k m x y : Nat} (h1 : x ≤ k * 67108864 + m * 1048576) (h2 : y ≤ 1048576) : x + y ≤ k * 67108864 + (m + 1) * 1048576 := by
  rw [Nat.add_mul, Nat.one_mul]
  omega
theorem lim_next {k m x : Nat} (hm : m ≤ 64) (h1 : x ≤ k * 67108864 + m * 1048576) : x ≤ (k + 1) * 67108864 := by
  have e2 : m * 1048576 ≤ 64 * 1048576 := Nat.mul_le_mul_right _ hm
  rw [Nat.add_mul, Nat.one_mul]
  omega
theorem lim_write {k x y : Nat} (h1 : x ≤ k * 1048576) (h2 : y ≤ 1048576) : x + y ≤ (k + 1) * 1048576 := by
  rw [Nat.add_mul, Nat.one_mul]
  omega
/-- What Join holds beside the worst. -/
structure JRest (Z : Nat → Prop) (w w' : World) (B rr ob n : Nat) (vs : List Value) (wv : Value) (ws : List DWrite) (Rs : List (List DPair)) : Prop where
  cells : CellsAt w' ob (jC 0 0 (.slice (some ⟨rr, 0, none⟩) n n) wv) 41
  own : Gr.Own tWrite 74 w' (JM Z B) B wv ws
  fam : Fam Z w' B rr vs Rs
  zero : CellsAt w' B jZ 41
  step : Step w w'
theorem JRest.after {Z : Nat → Prop} {w w' w2 : World} {B rr ob n : Nat} {vs : List Value} {wv : Value} {ws : List DWrite} {Rs : List (List DPair)} (h : JRest Z w w' B rr ob n vs wv ws Rs) (hs : Step w' w2) : JRest Z w w2 B rr ob n vs wv ws Rs :=
  ⟨h.cells.step hs, h.own.step hs, h.fam.step hs, h.zero.step hs, h.step.trans hs⟩
/-- Another outcome's cell is turned. -/
theorem JRest.set {Z : Nat → Prop} {w w' : World} {B rr ob n wb i : Nat} {vs : List Value} {wv u : Value} {ws : List DWrite} {Rs : List (List DPair)} {cs : Array Value} (h : JRest Z w w' B rr ob n vs wv ws Rs) (hc : CellsAt w' wb cs 41) (hB : B < wb) (hw : w.heap.size ≤ wb) (ho : wb ≠ ob) (hr : wb ≠ rr) : JRest Z w (w'.setCell ⟨wb, i, none⟩ u) B rr ob n vs wv ws Rs := by
  refine ⟨CellsAt.other h.cells (p := ⟨wb, i, none⟩) (fun e => ho e.symm) u, ?_, ?_, CellsAt.other h.zero (p := ⟨wb, i, none⟩) (by show B ≠ wb; omega) u, Step.setCell h.step (p := ⟨wb, i, none⟩) hw u⟩
  · exact Gr.Own.kept h.own (fun b _ hm => heap_setCell_other _ _ _ _ (fun e => hm (.inl (by have e' : b = wb := e; omega)))) (fun b hb => heap_setCell_other _ _ _ _ (fun e => Own.neCells h.own hc (by decide) (by have e' : b = wb := e; rw [← e']; exact hb)))
  · exact h.fam.keep (row := some wb) (fun b _ hne => heap_setCell_other _ _ _ _ (fun e => hne (by have e' : b = wb := e; rw [e']))) (fun b e => by injection e with e; omega) (fun e => hr (by injection e)) (fun q hq b e hb => by
      injection e with e
      subst e
      exact Own.neCells (h.fam.own q hq (by rw [← h.fam.len]; exact hq)) hc (by decide) hb)
/-- The writes have grown. -/
theorem JRest.write {Z : Nat → Prop} {w w' w6 : World} {B rr ob n : Nat} {vs : List Value} {wv v6 : Value} {ws ws' : List DWrite} {Rs : List (List DPair)} (h : JRest Z w w' B rr ob n vs wv ws Rs) (hBw : w.heap.size = B) (hob : B < ob) (hor : ob ≠ rr) (hA : Gr.Own tWrite 74 w6 (JM Z B) B v6 ws') (hG : w'.grownBy w6 wv.ownBlock) (hn : v6.ownBlock = wv.ownBlock ∨ v6.ownBlock = some w'.heap.size) :
    JRest Z w (w6.setCell ⟨ob, 3, none⟩ v6) B rr ob n vs v6 ws' Rs := by
  have n1 : wv.ownBlock ≠ some ob := Own.neCells h.own h.cells (by decide)
  have n2 : wv.ownBlock ≠ some rr := Own.neCells h.own h.fam.cells (by decide)
  have n3 : wv.ownBlock ≠ some B := Own.neCells h.own h.zero (by decide)
  have hobl := h.cells.lt
  have hc6 := h.cells.kept (hG.block ob hobl (fun e => n1 e.symm))
  have n6 : v6.ownBlock ≠ some ob := by
    rcases hn with hn | hn
    · rw [hn]; exact n1
    · rw [hn]; intro e; injection e with e; omega
  refine ⟨CellsAt.set hc6 3 v6, ?_, ?_, ?_, ?_⟩
  · exact Gr.Own.kept hA (fun b _ hm => heap_setCell_other _ _ _ _ (fun e => hm (.inl (by have e' : b = ob := e; omega)))) (fun b hb => heap_setCell_other _ _ _ _ (fun e => n6 (by have e' : b = ob := e; rw [← e']; exact hb)))
  · have f6 := h.fam.keep (w' := w6) (row := wv.ownBlock) (fun b hb hne => hG.block b hb (fun e => hne e.symm)) (fun b e => (h.own.lt e).1) n2 (fun q hq b e hb => Gr.Own.ne (h.fam.own q hq (by rw [← h.fam.len]; exact hq)) h.own (by decide) b hb e)
    exact f6.keep (row := some ob) (fun b _ hne => heap_setCell_other _ _ _ _ (fun e => hne (by have e' : b = ob := e; rw [e']))) (fun b e => by injection e with e; omega) (fun e => hor (by injection e)) (fun q hq b e hb => by
      injection e with e
      subst e
      exact Own.neCells (f6.own q hq (by rw [← f6.len]; exact hq)) hc6 (by decide) hb)
  · exact CellsAt.other (h.zero.kept (hG.block B h.zero.lt (fun e => n3 e.symm))) (p := ⟨ob, 3, none⟩) (by show B ≠ ob; omega) v6
  · refine Step.setCell ?_ (p := ⟨ob, 3, none⟩) (by show w.heap.size ≤ ob; omega) _
    exact Below.grown h.step hG (by rw [hBw]; have := h.step.size; omega) (fun b hb => by have := (h.own.lt hb).1; omega)
/-- Where Join stands behind i outcomes. -/
def JoinAt (Z : Nat → Prop) (w w' : World) (B wb rr ob n : Nat) (l : List (DPart × DOutcome)) (i : Nat) : Prop :=
  ∃ (vs : List Value) (wv : Value), CellsAt w' wb (jC (worstB (l.take i)).1 (worstB (l.take i)).2 (.slice none 0 0) (.slice none 0 0)) 41 ∧ JRest Z w w' B rr ob n vs wv (okWrites (l.take i)) (okRows n (l.take i)) ∧ (okWrites (l.take i)).length ≤ i * 1048576 ∧ (∀ r ∈ okRows n (l.take i), r.length ≤ i * 67108864)
set_option maxRecDepth 100000 in
theorem JoinAt.bad {Z : Nat → Prop} {w w' : World} {B wb rr ob n k : Nat} {l : List (DPart × DOutcome)} {vs : List Value} {wv : Value} {p : DPart} {o : DOutcome} {A' : Int × Int} (he : o.err ≠ 0) (hC : CellsAt w' wb (jC A'.1 A'.2 (.slice none 0 0) (.slice none 0 0)) 41) (hA : worstB (l.take (k + 1)) = A')
    (h2 : okRows n (l.take (k + 1)) = rowStep (okRows n (l.take k)) (p, o)) (h3 : okWrites (l.take (k + 1)) = okWrites (l.take k) ++ (if o.err ≠ 0 then [] else o.writes)) (hR : JRest Z w w' B rr ob n vs wv (okWrites (l.take k)) (okRows n (l.take k)))
    (hb1 : (okWrites (l.take k)).length ≤ k * 1048576) (hb2 : ∀ r ∈ okRows n (l.take k), r.length ≤ k * 67108864) : JoinAt Z w w' B wb rr ob n l (k + 1) := by
  have e2 : okRows n (l.take (k + 1)) = okRows n (l.take k) := by rw [h2]; unfold rowStep; rw [if_pos he]
  have e3 : okWrites (l.take (k + 1)) = okWrites (l.take k) := by rw [h3, if_pos he, List.append_nil]
  refine ⟨vs, wv, by rw [hA]; exact hC, by rw [e2, e3]; exact hR, by rw [e3]; exact Nat.le_trans hb1 (Nat.mul_le_mul_right _ (Nat.le_succ k)), ?_⟩
  rw [e2]
  intro r hr
  exact Nat.le_trans (hb2 r hr) (Nat.mul_le_mul_right _ (Nat.le_succ k))
set_option maxRecDepth 100000 in
set_option maxHeartbeats 8000000 in
theorem Join_ {w : World} {M1 M2 Z : Nat → Prop} {ov pv cv : Value} {ops : List DOp} {parts : List DPart} {outs : List DOutcome} (ho : (Ty.slice tOp).rep w M1 [ov] ops) (hp : (Ty.slice tPart).rep w M2 [pv] parts) (hc : (Ty.slice tOutcome).rep w Z [cv] outs) (hZ : ∀ b, Z b → b < w.heap.size) (hlen : parts.length = outs.length) (hn : ops.length ≤ 1000) (hl : outs.length ≤ 16)
    (wf : ∀ i (h1 : i < parts.length) (h2 : i < outs.length), WfPO ops.length parts[i] outs[i]) (hw : (worstB (parts.zip outs)).1 = 0 → (okWrites (parts.zip outs)).Pairwise fun p q => cmpB p.key q.key < 0) :
    Calls Try.prog 35 #[ov, pv, cv] w fun x w' => ∃ rv wv, x = .returned (.agg (jC (bjoinB ops (parts.zip outs)).err (bjoinB ops (parts.zip outs)).at_ rv wv)) ∧ (Ty.slice (Ty.slice tPair)).rep w' Z [rv] (bjoinB ops (parts.zip outs)).rows ∧ (Ty.slice tWrite).rep w' Z [wv] (bjoinB ops (parts.zip outs)).writes ∧ Step w w' := by
  obtain ⟨oa, oc, rfl, _⟩ := Ty.slice_val ho
  obtain ⟨pa, pc, rfl, _⟩ := Ty.slice_val hp
  obtain ⟨ca, cc, rfl, _⟩ := Ty.slice_val hc
  have HO := Lib.hid ho
  have HP := Lib.hid hp
  have HC := Lib.hid hc
  have HWF := Lib.hid wf
  have HW := Lib.hid hw
  have HLEN := Lib.hid hlen
  have HZZ := Lib.hid hZ
  obtain ⟨l, hle⟩ : ∃ l, l = parts.zip outs := ⟨_, rfl⟩
  have hll : l.length = outs.length := by rw [hle, List.length_zip, hlen]; omega
  have HLL := Lib.hid hll
  have hat : ∀ i (h : i < l.length) (h1 : i < parts.length) (h2 : i < outs.length), l[i] = (parts[i], outs[i]) := fun i h h1 h2 => by subst hle; exact List.getElem_zip
  have HAT := Lib.hid hat
  rw [← hle] at HW ⊢
  obtain ⟨J, hJ⟩ : ∃ J, J = bjoinB ops l := ⟨_, rfl⟩
  rw [← hJ]
  unfold bjoinB at hJ
  have HJ := Lib.hid hJ
  have hmk := made_rowsJ ops.length (by omega)
  obtain ⟨B, hBe⟩ : ∃ b, w.heap.size = b := ⟨_, rfl⟩
  clear ho hp hc wf hw hlen hll hat hle hJ hZ
  go_enter Try.func35, Try.ntmps35
  go_upto_region 3 with fail
  refine wp_code (fun wl => JoinAt Z w wl B (B + 1) (B + 1 + 1) (B + 1 + 1 + 1) ops.length l 0) ?_ ?_
  · have s1 : ∀ o, (w.alloc o).heap.size = B + 1 := fun o => by rw [World.size_alloc, hBe]
    have s2 : ∀ o1 o2, ((w.alloc o1).alloc o2).heap.size = B + 1 + 1 := fun o1 o2 => by rw [World.size_alloc, s1]
    have s3 : ∀ o1 o2 o3, (((w.alloc o1).alloc o2).alloc o3).heap.size = B + 1 + 1 + 1 := fun o1 o2 o3 => by rw [World.size_alloc, s2]
    refine ⟨List.replicate ops.length (.slice none 0 0), .slice none 0 0, ?_, ⟨CellsAt.new (s3 _ _ _).symm, Gr.Own.nil, ?_, ?_, by (repeat (first | exact Step.refl _ | refine Step.alloc ?_ _ | refine Step.drew ?_ | refine Step.drewN ?_ _ | refine Step.setCell ?_ (by first | exact Nat.le_refl _ | assumption | omega | (simp; done) | (simp; omega)) _ | assumption | refine Step.trans ?_ (by assumption : Step _ _)))⟩, by simp [okWrites], ?_⟩
    · exact CellsAt.step (CellsAt.new (s1 _).symm) (((Step.refl _).alloc _).alloc _)
    · exact Fam.step (fam_made _ _ (s2 _ _).symm (by omega)) ((Step.refl _).alloc _)
    · exact CellsAt.step (CellsAt.new hBe.symm) ((((Step.refl _).alloc _).alloc _).alloc _)
    · intro r hr
      simp only [List.take_zero, okRows, List.foldl_nil] at hr
      rw [(List.mem_replicate.1 hr).2]
      simp
  intro wl hst
  have HST := Lib.hid hst
  clear hst hmk
  obtain ⟨wb, hwb⟩ : ∃ b, B + 1 = b := ⟨_, rfl⟩
  obtain ⟨rr, hrr⟩ : ∃ b, wb + 1 = b := ⟨_, rfl⟩
  obtain ⟨ob, hob⟩ : ∃ b, rr + 1 = b := ⟨_, rfl⟩
  rw [hwb, hrr, hob] at HST
  rw [hwb, hrr, hob]
  go_wp2
  go_loopw [23] (fun i w' => ∃ k : Nat, i = .int .i64 k ∧ k ≤ outs.length ∧ Hid (JoinAt Z w w' B wb rr ob ops.length l k)) (fun i _ => outs.length - (Go.RowKit.intOf i).toNat)
  case atStart => exact ⟨0, rfl, by omega, HST⟩
  case round =>
    obtain ⟨k, rfl, hk, hj⟩ := hrel
    obtain ⟨vs, wv, hCw, hJR, hwl, hrl⟩ := hj.out
    have hS := hJR.step
    have hsz := hS.size
    have hobl := hJR.cells.lt
    have hB : Step w wr := hS
    by_cases hlt : k < outs.length
    · have hltp : k < parts.length := by rw [HLEN.out]; exact hlt
      have hltl : k < l.length := by rw [HLL.out]; exact hlt
      have hwf := HWF.out k hltp hlt
      have hlk := HAT.out k hltl hltp hlt
      have hW1 : Hid (worstB (l.take (k + 1)) = worstStep (worstB (l.take k)) (parts[k], outs[k])) := Lib.hid (by rw [worstB_succ hltl, hlk])
      have hW2 : Hid (okRows ops.length (l.take (k + 1)) = rowStep (okRows ops.length (l.take k)) (parts[k], outs[k])) := Lib.hid (by rw [okRows_succ hltl, hlk])
      have hW3 : Hid (okWrites (l.take (k + 1)) = okWrites (l.take k) ++ (if outs[k].err ≠ 0 then [] else outs[k].writes)) := Lib.hid (by rw [okWrites_succ hltl, hlk])
      obtain ⟨xb, xo, xes, rfl, xhb, _, xu, xcu⟩ := Ty.slice_at HC.out hlt
      obtain ⟨xc2, xc3, rfl, xh0, xh1, xh2, xh3⟩ := xu
      have xq0 := (Step.cell (w' := wr) (by (repeat (first | exact Step.refl _ | refine Step.alloc ?_ _ | refine Step.drew ?_ | refine Step.drewN ?_ _ | refine Step.setCell ?_ (by first | exact Nat.le_refl _ | assumption | omega | (simp; done) | (simp; omega)) _ | assumption | refine Step.trans ?_ (by assumption : Step _ _)))) xhb _).trans (xcu 0 _ rfl)
      have xq1 := (Step.cell (w' := wr) (by (repeat (first | exact Step.refl _ | refine Step.alloc ?_ _ | refine Step.drew ?_ | refine Step.drewN ?_ _ | refine Step.setCell ?_ (by first | exact Nat.le_refl _ | assumption | omega | (simp; done) | (simp; omega)) _ | assumption | refine Step.trans ?_ (by assumption : Step _ _)))) xhb _).trans (xcu 1 _ rfl)
      have xq2 := (Step.cell (w' := wr) (by (repeat (first | exact Step.refl _ | refine Step.alloc ?_ _ | refine Step.drew ?_ | refine Step.drewN ?_ _ | refine Step.setCell ?_ (by first | exact Nat.le_refl _ | assumption | omega | (simp; done) | (simp; omega)) _ | assumption | refine Step.trans ?_ (by assumption : Step _ _)))) xhb _).trans (xcu 2 _ rfl)
      have xq3 := (Step.cell (w' := wr) (by (repeat (first | exact Step.refl _ | refine Step.alloc ?_ _ | refine Step.drew ?_ | refine Step.drewN ?_ _ | refine Step.setCell ?_ (by first | exact Nat.le_refl _ | assumption | omega | (simp; done) | (simp; omega)) _ | assumption | refine Step.trans ?_ (by assumption : Step _ _)))) xhb _).trans (xcu 3 _ rfl)
      simp only [show tOutcome.n = 4 from rfl, Nat.add_zero] at xq0 xq1 xq2 xq3
      obtain ⟨xa2, xn2, rfl, _⟩ := Ty.slice_val xh2
      obtain ⟨xa3, xn3, rfl, _⟩ := Ty.slice_val xh3
      have xH0 := Lib.hid xh0
      have xH1 := Lib.hid xh1
      have xH2 := Lib.hid xh2
      have xH3 := Lib.hid xh3
      clear xcu xh0 xh1 xh2 xh3
      obtain ⟨yb, yo, yes, rfl, yhb, _, yu, ycu⟩ := Ty.slice_at HP.out hltp
      obtain ⟨yc1, yc2, rfl, yh0, yh1, yh2⟩ := yu
      have yq0 := (Step.cell (w' := wr) (by (repeat (first | exact Step.refl _ | refine Step.alloc ?_ _ | refine Step.drew ?_ | refine Step.drewN ?_ _ | refine Step.setCell ?_ (by first | exact Nat.le_refl _ | assumption | omega | (simp; done) | (simp; omega)) _ | assumption | refine Step.trans ?_ (by assumption : Step _ _)))) yhb _).trans (ycu 0 _ rfl)
      have yq1 := (Step.cell (w' := wr) (by (repeat (first | exact Step.refl _ | refine Step.alloc ?_ _ | refine Step.drew ?_ | refine Step.drewN ?_ _ | refine Step.setCell ?_ (by first | exact Nat.le_refl _ | assumption | omega | (simp; done) | (simp; omega)) _ | assumption | refine Step.trans ?_ (by assumption : Step _ _)))) yhb _).trans (ycu 1 _ rfl)
      have yq2 := (Step.cell (w' := wr) (by (repeat (first | exact Step.refl _ | refine Step.alloc ?_ _ | refine Step.drew ?_ | refine Step.drewN ?_ _ | refine Step.setCell ?_ (by first | exact Nat.le_refl _ | assumption | omega | (simp; done) | (simp; omega)) _ | assumption | refine Step.trans ?_ (by assumption : Step _ _)))) yhb _).trans (ycu 2 _ rfl)
      simp only [show tPart.n = 3 from rfl, Nat.add_zero] at yq0 yq1 yq2
      obtain ⟨ya1, yn1, rfl, _⟩ := Ty.slice_val yh1
      obtain ⟨ya2, yn2, rfl, _⟩ := Ty.slice_val yh2
      have yH0 := Lib.hid yh0
      have yH1 := Lib.hid yh1
      have yH2 := Lib.hid yh2
      clear ycu yh0 yh1 yh2
      have HWFk := Lib.hid hwf
      have hd1 : decide ((k : Int) < (outs.length : Int)) = true := decide_eq_true (by omega)
      have hd2 : decide ((parts.length : Int) ≤ (k : Int)) = false := decide_eq_false (by omega)
      clear hlk hwf
      generalize parts[k] = p at *
      generalize outs[k] = o at *
      go_upto_region 7 with fail
      obtain ⟨xc, hxc⟩ : ∃ x, wr.heap.size = x := ⟨_, rfl⟩
      refine wp_code (fun w2 => Step wr w2 ∧ CellsAt w2 xc (jC o.err o.at_ (.slice xa2 o.rows.length xn2) (.slice xa3 o.writes.length xn3)) 41 ∧ xc < w2.heap.size) ?_ ?_
      · refine ⟨by (repeat (first | exact Step.refl _ | refine Step.alloc ?_ _ | refine Step.drew ?_ | refine Step.drewN ?_ _ | refine Step.setCell ?_ (by first | exact Nat.le_refl _ | assumption | omega | (simp; done) | (simp; omega)) _ | assumption | refine Step.trans ?_ (by assumption : Step _ _))), CellsAt.new hxc.symm, ?_⟩
        rw [World.size_alloc, hxc]
        exact Nat.lt_succ_self _
      rintro w2 ⟨hS2, hX2, hxl⟩
      rw [hxc]
      have x0 : w2.cell? ⟨xc, 0, none⟩ = some (.int .i64 o.err) := hX2.cell 0
      have x1 : w2.cell? ⟨xc, 1, none⟩ = some (.int .i64 o.at_) := hX2.cell 1
      have x2 : w2.cell? ⟨xc, 2, none⟩ = some (.slice xa2 o.rows.length xn2) := hX2.cell 2
      have x3 : w2.cell? ⟨xc, 3, none⟩ = some (.slice xa3 o.writes.length xn3) := hX2.cell 3
      have HX2 := Lib.hid hX2
      have HS2 := Lib.hid hS2
      have hz2 := hS2.size
      have hCw2 := CellsAt.step hCw hS2
      have HCw := Lib.hid hCw2
      have HJR := Lib.hid (hJR.after hS2)
      have HWL := Lib.hid hwl
      have HS := Lib.hid (hS.trans hS2)
      have HRL := Lib.hid hrl
      have HX3 := Lib.hid (Ty.step _ xH3.out (hS.trans hS2))
      have HX2r := Lib.hid (Ty.step _ xH2.out (hS.trans hS2))
      have HY2 := Lib.hid (Ty.step _ yH2.out (hS.trans hS2))
      have hyb2 : yb < w2.heap.size := by omega
      have v2 : w2.cell? ⟨yb, yo + k * 3 + 2, none⟩ = some (.slice ya2 p.index.length yn2) := (hS2.cell (by omega) _).trans yq2
      have wc0 : w2.cell? ⟨wb, 0, none⟩ = some (.int .i64 (worstB (l.take k)).1) := hCw2.cell 0
      have wc1 : w2.cell? ⟨wb, 1, none⟩ = some (.int .i64 (worstB (l.take k)).2) := hCw2.cell 1
      have wc2 : w2.cell? ⟨wb, 2, none⟩ = some (.slice none 0 0) := hCw2.cell 2
      have wc3 : w2.cell? ⟨wb, 3, none⟩ = some (.slice none 0 0) := hCw2.cell 3
      have wf0 : w2.frozen? ⟨wb, 0, none⟩ = false := hCw2.frozen 0
      have wf1 : w2.frozen? ⟨wb, 1, none⟩ = false := hCw2.frozen 1
      have wf2 : w2.frozen? ⟨wb, 2, none⟩ = false := hCw2.frozen 2
      have wf3 : w2.frozen? ⟨wb, 3, none⟩ = false := hCw2.frozen 3
      clear hS2 hX2 hCw hJR hS hrl hwl hCw2 hj xq0 xq1 xq2 xq3 yq0 yq1 yq2 hB
      by_cases he : o.err = 0
      · have he1 : (o.err == 0) = true := beq_iff_eq.2 he
        have he2 : (o.err != 0) = false := by rw [bne, he1]; rfl
        have HE := Lib.hid he
        have hgood := HWFk.out.good he
        have HG := Lib.hid hgood
        obtain ⟨wa, wn, wcc, hwve, _⟩ := HJR.out.own.valN
        subst hwve
        have c3 : w2.cell? ⟨ob, 3, none⟩ = some (.slice wa wn wcc) := HJR.out.cells.cell 3
        have g3 : w2.frozen? ⟨ob, 3, none⟩ = false := HJR.out.cells.frozen 3
        have HSRC : Hid (Src tWrite w2 (fun b => JM Z B b ∨ (Value.slice wa wn wcc).ownBlock = some b) (.slice xa3 o.writes.length xn3) o.writes) := Lib.hid (Src.later xH3.out HS.out (fun b hb h => by rcases h with (h | h) | h; (omega); exact h; (have := (HJR.out.own.lt h).1; omega)))
        have hlimw : (okWrites (l.take k)).length + o.writes.length ≤ lim := by
          have h1 := HWL.out
          have h2 := HWFk.out.writes
          rw [lim_eq]
          have : k * 1048576 ≤ 16 * 1048576 := Nat.mul_le_mul_right _ (by omega)
          omega
        clear he hgood
        go_upto_region 14 with (at_builtin; refine wpList_append_gen (E := tWrite) (B := B) (M := JM Z B) (xs := okWrites (l.take k)) (ys := o.writes) rfl (.tmp 72) (.tmp 74) rfl stWrites HJR.out.own HSRC.out hlimw (by omega) rfl rfl ?_; intro v6 w6 hA6 hG6 hn6; have hJ6 := Lib.hid (HJR.out.write hBe (by omega) (by omega) hA6 hG6 hn6); have k3 : w6.cell? ⟨ob, 3, none⟩ = some (.slice wa wn wcc) := (HJR.out.cells.kept (hG6.block ob (by omega) (fun e => Own.neCells HJR.out.own HJR.out.cells (by decide) e.symm))).cell 3; have l3 : w6.frozen? ⟨ob, 3, none⟩ = false := (HJR.out.cells.kept (hG6.block ob (by omega) (fun e => Own.neCells HJR.out.own HJR.out.cells (by decide) e.symm))).frozen 3; obtain ⟨a6, n6, c6, rfl, HN6⟩ := hA6.valN; have hG6' := Lib.hid hG6; clear hA6 hG6 hn6)
        have n1 : ∀ b cs, CellsAt w2 b cs 41 → (Value.slice wa wn wcc).ownBlock ≠ some b := fun b cs h => Own.neCells HJR.out.own h (by decide)
        refine wp_code (fun W' => JRest Z w W' B rr ob ops.length vs (.slice a6 n6 c6) (okWrites (l.take k) ++ o.writes) (okRows ops.length (l.take k)) ∧ CellsAt W' wb (jC (worstB (l.take k)).1 (worstB (l.take k)).2 (.slice none 0 0) (.slice none 0 0)) 41 ∧ CellsAt W' xc (jC o.err o.at_ (.slice xa2 o.rows.length xn2) (.slice xa3 o.writes.length xn3)) 41) ?_ ?_
        · refine ⟨hJ6.out, CellsAt.other (HCw.out.kept (hG6'.out.block wb (by have := HCw.out.lt; omega) (fun e => n1 _ _ HCw.out e.symm))) (p := ⟨ob, 3, none⟩) (by show wb ≠ ob; omega) _, CellsAt.other (HX2.out.kept (hG6'.out.block xc hxl (fun e => n1 _ _ HX2.out e.symm))) (p := ⟨ob, 3, none⟩) (by show xc ≠ ob; omega) _⟩
        rintro W9 ⟨hJ9, hC9, hX9⟩
        have HJ9 := Lib.hid hJ9
        have HC9 := Lib.hid hC9
        have HX9 := Lib.hid hX9
        have hz9 := hJ9.step.size
        have v9 : W9.cell? ⟨yb, yo + k * 3 + 2, none⟩ = some (.slice ya2 p.index.length yn2) := (hJ9.step.cell (by omega) _).trans ((HS.out.cell (by omega) _).symm.trans v2)
        have HLR : Hid (∀ r ∈ okRows ops.length (l.take k), r.length ≤ k * 67108864 + 0 * 1048576) := Lib.hid (fun r hr => Nat.le_trans (HRL.out r hr) (Nat.le_add_right _ _))
        have hfew := HWFk.out.few
        have hx9l := hX9.lt
        clear hJ9 hC9 hX9 hJ6 hG6' HN6 k3 l3 c3 g3 HSRC hlimw n1 x0 x1 x2 x3 v2 wc0 wc1 wc2 wc3 wf0 wf1 wf2 wf3
        go_wp2
        go_loopw [83] (fun i w' => ∃ (m : Nat) (vs' : List Value), i = .int .i64 m ∧ m ≤ p.index.length ∧ Hid (JRest Z w w' B rr ob ops.length vs' (.slice a6 n6 c6) (okWrites (l.take k) ++ o.writes) (addRows (okRows ops.length (l.take k)) (p.index.take m) (o.rows.take m))) ∧ Hid (CellsAt w' wb (jC (worstB (l.take k)).1 (worstB (l.take k)).2 (.slice none 0 0) (.slice none 0 0)) 41) ∧ Hid (CellsAt w' xc (jC o.err o.at_ (.slice xa2 o.rows.length xn2) (.slice xa3 o.writes.length xn3)) 41) ∧
          Hid (∀ r ∈ addRows (okRows ops.length (l.take k)) (p.index.take m) (o.rows.take m), r.length ≤ k * 67108864 + m * 1048576) ∧ xc < w'.heap.size) (fun i _ => p.index.length - (Go.RowKit.intOf i).toNat)
        case atStart => exact ⟨0, vs, rfl, Nat.zero_le _, by simpa [addRows] using HJ9, HC9, HX9, by simpa [addRows] using HLR, hx9l⟩
        case round =>
          obtain ⟨m, vs', rfl, hm, hJm, hCm, hXm, hLm, hxm⟩ := hrel
          have hSm := hJm.out.step
          have hszm := hSm.size
          by_cases hlm : m < p.index.length
          · have hmr : m < o.rows.length := by rw [HG.out]; exact hlm
            have hstp : Hid (addRows (okRows ops.length (l.take k)) (p.index.take (m + 1)) (o.rows.take (m + 1)) = (addRows (okRows ops.length (l.take k)) (p.index.take m) (o.rows.take m)).set p.index[m].toNat ((addRows (okRows ops.length (l.take k)) (p.index.take m) (o.rows.take m))[p.index[m].toNat]?.getD [] ++ o.rows[m])) := Lib.hid (addRows_succ _ _ _ _ hlm hmr)
            obtain ⟨hi0, hi1⟩ := HWFk.out.idx _ (List.getElem_mem hlm)
            have hsm := HWFk.out.small _ (List.getElem_mem hmr)
            obtain ⟨zb, zo, zu, hze, hzb, _, hzu, hzc⟩ := Ty.slice_at1 rfl yH2.out hlm
            subst hze
            obtain ⟨hzu1, _⟩ := hzu
            obtain rfl : zu = .int .i64 p.index[m] := by simpa using hzu1
            obtain ⟨qb, qo, qu, hqe, hqb, _, hqu, hqc⟩ := Ty.slice_at1 rfl xH2.out hmr
            subst hqe
            obtain ⟨qa, qc, rfl, _⟩ := Ty.slice_val hqu
            have HQ := Lib.hid hqu
            obtain ⟨a, hae⟩ : ∃ a : Nat, p.index[m] = (a : Int) := ⟨p.index[m].toNat, by omega⟩
            rw [hae] at hzc hi1 hstp
            rw [Int.toNat_natCast] at hstp
            have han : a < ops.length := by omega
            generalize o.rows[m] = R at *
            obtain ⟨Rs, hRs⟩ : ∃ Rs, addRows (okRows ops.length (l.take k)) (p.index.take m) (o.rows.take m) = Rs := ⟨_, rfl⟩
            rw [hRs] at hstp hJm hLm
            have hRl : Rs.length = ops.length := by rw [← hRs, addRows_len, okRows_len]
            have haR : a < Rs.length := by omega
            have hav : a < vs'.length := by rw [hJm.out.fam.len]; exact haR
            have hown := hJm.out.fam.own a hav haR
            have hcr : wr.cell? ⟨rr, a, none⟩ = some vs'[a] := by rw [hJm.out.fam.cells.cell a]; simp [hav]
            have hfr : wr.frozen? ⟨rr, a, none⟩ = false := hJm.out.fam.cells.frozen a
            have hRa := hLm.out _ (List.getElem_mem haR)
            have hput := fun (w6 : World) (v6 : Value) (R6 : List DPair) => hJm.out.fam.put (w6 := w6) (v6 := v6) (R6 := R6) hav haR
            have HPUT := Lib.hid hput
            rw [List.getElem?_eq_getElem haR, Option.getD_some] at hstp
            obtain ⟨ea, en, ec, hee, _⟩ := hown.valN
            rw [hee] at hcr hown HPUT
            have HOWN := Lib.hid hown
            have zc2 := (hSm.cell hzb _).trans hzc
            have qc2 := (hSm.cell hqb _).trans hqc
            have o2 : wr.cell? ⟨ob, 2, none⟩ = some (.slice (some ⟨rr, 0, none⟩) ops.length ops.length) := hJm.out.cells.cell 2
            have xm2 : wr.cell? ⟨xc, 2, none⟩ = some (.slice (some ⟨qb, qo, none⟩) o.rows.length xn2) := hXm.out.cell 2
            have hdm : decide ((m : Int) < (p.index.length : Int)) = true := decide_eq_true (by omega)
            have hg1 : decide ((m : Int) < (o.rows.length : Int)) = true := decide_eq_true (by omega)
            have hg2 : decide ((0 : Int) ≤ (a : Int)) = true := decide_eq_true (by omega)
            have hg3 : decide ((a : Int) < (ops.length : Int)) = true := decide_eq_true (by omega)
            clear hzc hqc hqu hown hput hee hRs hzu1
            go_upto_region 18 with fail
            have hlima : Rs[a].length + R.length ≤ lim := lim_two (by omega) (by omega) hRa hsm
            have hneo : (Value.slice ea en ec).ownBlock ≠ some ob := Own.neCells HOWN.out hJm.out.cells (by decide)
            have hnex : (Value.slice ea en ec).ownBlock ≠ some xc := Own.neCells HOWN.out hXm.out (by decide)
            have hner : (Value.slice ea en ec).ownBlock ≠ some rr := Own.neCells HOWN.out hJm.out.fam.cells (by decide)
            have hnew : (Value.slice ea en ec).ownBlock ≠ some wb := Own.neCells HOWN.out hCm.out (by decide)
            have hneB : (Value.slice ea en ec).ownBlock ≠ some B := Own.neCells HOWN.out hJm.out.zero (by decide)
            have hneq : (Value.slice ea en ec).ownBlock ≠ some qb := fun e => by have := (HOWN.out.lt e).1; omega
            have hobl2 := hJm.out.cells.lt
            have hrrl2 := hJm.out.fam.cells.lt
            have HNE := Lib.hid (And.intro hneo (And.intro hnex (And.intro hner (And.intro hnew (And.intro hneB hneq)))))
            clear hneo hnex hner hnew hneB hneq
            refine wp_region_cut (S := (fun w' => w'.cell? ⟨ob, 2, none⟩ = some (.slice (some ⟨rr, 0, none⟩) ops.length ops.length) ∧ w'.cell? ⟨rr, a, none⟩ = some (.slice ea en ec) ∧ w'.cell? ⟨xc, 2, none⟩ = some (.slice (some ⟨qb, qo, none⟩) o.rows.length xn2) ∧ w'.cell? ⟨qb, qo + m, none⟩ = some (.slice qa R.length qc))) 15 (by kernel_rfl) ?_ (fun hHeld => ?_)
            · (go_keep)
            refine wpAnyC_take (i := 0) (v := ?_) rfl (by kernel_rfl) (by kernel_rfl) (by kernel_rfl) (by decide) [1, 14, 15] (by kernel_rfl) (fun _ _ _ h => h) (Or.inl ⟨by rfl, ?_⟩) (by assumption) ?_
            rotate_left 1
            · (intro w hSw; (try dsimp only at hSw); go_simp; (try with_reducible rfl))
            try simp only [Act.put, List.getElem_toArray, List.getElem_cons_succ, List.getElem_cons_zero, List.setIfInBounds_toArray, List.set_cons_zero, List.set_cons_succ]
            refine wpAnyC_take (i := 1) (v := ?_) rfl (by kernel_rfl) (by kernel_rfl) (by kernel_rfl) (by decide) [14, 15] (by kernel_rfl) (fun _ _ _ h => h) (Or.inl ⟨by rfl, ?_⟩) (by assumption) ?_
            rotate_left 1
            · (intro w hSw; (try dsimp only at hSw); go_simp; (try with_reducible rfl))
            try simp only [Act.put, List.getElem_toArray, List.getElem_cons_succ, List.getElem_cons_zero, List.setIfInBounds_toArray, List.set_cons_zero, List.set_cons_succ]
            refine wpAnyC_take (i := 2) (v := ?_) rfl (by kernel_rfl) (by kernel_rfl) (by kernel_rfl) (by decide) [14, 15] (by kernel_rfl) (fun _ _ _ h => h) (Or.inl ⟨by rfl, ?_⟩) (by assumption) ?_
            rotate_left 1
            · (intro w hSw; (try dsimp only at hSw); go_simp; (try with_reducible rfl))
            try simp only [Act.put, List.getElem_toArray, List.getElem_cons_succ, List.getElem_cons_zero, List.setIfInBounds_toArray, List.set_cons_zero, List.set_cons_succ]
            refine wpAnyC_take (i := 3) (v := ?_) rfl (by kernel_rfl) (by kernel_rfl) (by kernel_rfl) (by decide) [4, 6, 7, 13, 14, 15] (by kernel_rfl) (fun _ _ _ h => h) (Or.inl ⟨by rfl, ?_⟩) (by assumption) ?_
            rotate_left 1
            · (intro w hSw; (try dsimp only at hSw); go_simp; (try with_reducible rfl))
            try simp only [Act.put, List.getElem_toArray, List.getElem_cons_succ, List.getElem_cons_zero, List.setIfInBounds_toArray, List.set_cons_zero, List.set_cons_succ]
            refine wpAnyC_take (i := 4) (v := ?_) rfl (by kernel_rfl) (by kernel_rfl) (by kernel_rfl) (by decide) [6, 7, 13, 14, 15] (by kernel_rfl) (fun _ _ _ h => h) (Or.inl ⟨by rfl, ?_⟩) (by assumption) ?_
            rotate_left 1
            · (intro w hSw; (try dsimp only at hSw); go_simp; (try with_reducible rfl))
            try simp only [Act.put, List.getElem_toArray, List.getElem_cons_succ, List.getElem_cons_zero, List.setIfInBounds_toArray, List.set_cons_zero, List.set_cons_succ]
            refine wpAnyC_take (i := 5) (v := ?_) rfl (by kernel_rfl) (by kernel_rfl) (by kernel_rfl) (by decide) [6, 7, 13, 14, 15] (by kernel_rfl) (fun _ _ _ h => h) (Or.inl ⟨by rfl, ?_⟩) (by assumption) ?_
            rotate_left 1
            · (intro w hSw; (try dsimp only at hSw); go_simp; (try with_reducible rfl))
            try simp only [Act.put, List.getElem_toArray, List.getElem_cons_succ, List.getElem_cons_zero, List.setIfInBounds_toArray, List.set_cons_zero, List.set_cons_succ]
            refine wpAnyC_take (i := 6) (v := ?_) rfl (by kernel_rfl) (by kernel_rfl) (by kernel_rfl) (by decide) [7, 13, 14, 15] (by kernel_rfl) (fun _ _ _ h => h) (Or.inl ⟨by rfl, ?_⟩) (by assumption) ?_
            rotate_left 1
            · (intro w hSw; (try dsimp only at hSw); go_simp; (try with_reducible rfl))
            try simp only [Act.put, List.getElem_toArray, List.getElem_cons_succ, List.getElem_cons_zero, List.setIfInBounds_toArray, List.set_cons_zero, List.set_cons_succ]
            refine wpAnyC_take (i := 7) (v := ?_) rfl (by kernel_rfl) (by kernel_rfl) (by kernel_rfl) (by decide) [13, 14, 15] (by kernel_rfl) (fun _ _ _ h => h) (Or.inl ⟨by rfl, ?_⟩) (by assumption) ?_
            rotate_left 1
            · (intro w hSw; (try dsimp only at hSw); go_simp; (try with_reducible rfl))
            try simp only [Act.put, List.getElem_toArray, List.getElem_cons_succ, List.getElem_cons_zero, List.setIfInBounds_toArray, List.set_cons_zero, List.set_cons_succ]
            refine wpAnyC_take (i := 8) (v := ?_) rfl (by kernel_rfl) (by kernel_rfl) (by kernel_rfl) (by decide) [9, 11, 12, 13, 14, 15] (by kernel_rfl) (fun _ _ _ h => h) (Or.inl ⟨by rfl, ?_⟩) (by assumption) ?_
            rotate_left 1
            · (intro w hSw; (try dsimp only at hSw); go_simp; (try with_reducible rfl))
            try simp only [Act.put, List.getElem_toArray, List.getElem_cons_succ, List.getElem_cons_zero, List.setIfInBounds_toArray, List.set_cons_zero, List.set_cons_succ]
            refine wpAnyC_take (i := 9) (v := ?_) rfl (by kernel_rfl) (by kernel_rfl) (by kernel_rfl) (by decide) [11, 12, 13, 14, 15] (by kernel_rfl) (fun _ _ _ h => h) (Or.inl ⟨by rfl, ?_⟩) (by assumption) ?_
            rotate_left 1
            · (intro w hSw; (try dsimp only at hSw); go_simp; (try with_reducible rfl))
            try simp only [Act.put, List.getElem_toArray, List.getElem_cons_succ, List.getElem_cons_zero, List.setIfInBounds_toArray, List.set_cons_zero, List.set_cons_succ]
            refine wpAnyC_take (i := 10) (v := ?_) rfl (by kernel_rfl) (by kernel_rfl) (by kernel_rfl) (by decide) [11, 12, 13, 14, 15] (by kernel_rfl) (fun _ _ _ h => h) (Or.inl ⟨by rfl, ?_⟩) (by assumption) ?_
            rotate_left 1
            · (intro w hSw; (try dsimp only at hSw); go_simp; (try with_reducible rfl))
            try simp only [Act.put, List.getElem_toArray, List.getElem_cons_succ, List.getElem_cons_zero, List.setIfInBounds_toArray, List.set_cons_zero, List.set_cons_succ]
            refine wpAnyC_take (i := 11) (v := ?_) rfl (by kernel_rfl) (by kernel_rfl) (by kernel_rfl) (by decide) [12, 13, 14, 15] (by kernel_rfl) (fun _ _ _ h => h) (Or.inl ⟨by rfl, ?_⟩) (by assumption) ?_
            rotate_left 1
            · (intro w hSw; (try dsimp only at hSw); go_simp; (try with_reducible rfl))
            try simp only [Act.put, List.getElem_toArray, List.getElem_cons_succ, List.getElem_cons_zero, List.setIfInBounds_toArray, List.set_cons_zero, List.set_cons_succ]
            refine wpAnyC_take (i := 12) (v := ?_) rfl (by kernel_rfl) (by kernel_rfl) (by kernel_rfl) (by decide) [13, 14, 15] (by kernel_rfl) (fun _ _ _ h => h) (Or.inl ⟨by rfl, ?_⟩) (by assumption) ?_
            rotate_left 1
            · (intro w hSw; (try dsimp only at hSw); go_simp; (try with_reducible rfl))
            try simp only [Act.put, List.getElem_toArray, List.getElem_cons_succ, List.getElem_cons_zero, List.setIfInBounds_toArray, List.set_cons_zero, List.set_cons_succ]
            refine wpAnyC_ready (rs := [13]) (by kernel_rfl) (by simp) ?_
            refine AllReadyC.cons rfl (by decide) (fun K hK => ?_) AllReadyC.nil
            try simp only [List.getElem_toArray, List.getElem_cons_succ, List.getElem_cons_zero]
            refine ite_then rfl ?_; refine wp_append_gen (E := tPair) (B := B) (M := JM Z B) (ys := R) (.tmp 110) (.tmp 115) rfl stPairs (Gr.Own.step HOWN.out (by (repeat (first | exact Step.refl _ | refine Step.alloc ?_ _ | refine Step.drew ?_ | refine Step.drewN ?_ _ | refine Step.setCell ?_ (by first | exact Nat.le_refl _ | assumption | omega | (simp; done) | (simp; omega)) _ | assumption | refine Step.trans ?_ (by assumption : Step _ _))))) (Src.later HQ.out (Step.trans hSm (by (repeat (first | exact Step.refl _ | refine Step.alloc ?_ _ | refine Step.drew ?_ | refine Step.drewN ?_ _ | refine Step.setCell ?_ (by first | exact Nat.le_refl _ | assumption | omega | (simp; done) | (simp; omega)) _ | assumption | refine Step.trans ?_ (by assumption : Step _ _))))) (fun b hb h => by rcases h with (h | h) | h; (omega); exact h; (have := (HOWN.out.lt h).1; omega))) hlima (by first | assumption | omega | (simp; done) | (simp; omega)) rfl rfl ?_; intro v6 w6 hA6 hG6 hn6; have hGb : ∀ b, b < wr.heap.size → some b ≠ (Value.slice ea en ec).ownBlock → w6.heap[b]? = wr.heap[b]? := fun b hb hne => hG6.block b hb hne; have hGs : wr.heap.size ≤ w6.heap.size := hG6.size; have k2 : w6.cell? ⟨ob, 2, none⟩ = some (.slice (some ⟨rr, 0, none⟩) ops.length ops.length) := (cell_eq (hGb ob hobl2 (fun e => HNE.out.1 e.symm))).trans o2; have kr : w6.cell? ⟨rr, a, none⟩ = some (.slice ea en ec) := (cell_eq (hGb rr hrrl2 (fun e => HNE.out.2.2.1 e.symm))).trans hcr; have kf : w6.frozen? ⟨rr, a, none⟩ = false := (hJm.out.fam.cells.kept (hGb rr hrrl2 (fun e => HNE.out.2.2.1 e.symm))).frozen a; have kx : w6.cell? ⟨xc, 2, none⟩ = some (.slice (some ⟨qb, qo, none⟩) o.rows.length xn2) := (cell_eq (hGb xc hxm (fun e => HNE.out.2.1 e.symm))).trans xm2; have kq : w6.cell? ⟨qb, qo + m, none⟩ = some (.slice qa R.length qc) := (cell_eq (hGb qb (by omega) (fun e => HNE.out.2.2.2.2.2 e.symm))).trans qc2; have hF6 := Lib.hid (HPUT.out w6 v6 (Rs[a] ++ R) hA6 hGb hGs hn6); obtain ⟨b6, n6', m6, rfl, HN6⟩ := hA6.valN; have HGB := Lib.hid hGb; have HA6 := Lib.hid hA6; have HG6 := Lib.hid hG6; clear hA6 hG6 hn6 hGb
            refine hK.out _ _ ?_ (fun hHeld => ?_)
            · (go_keep)
            clear hK K
            try simp only [Act.put, List.getElem_toArray, List.getElem_cons_succ, List.getElem_cons_zero, List.setIfInBounds_toArray, List.set_cons_zero, List.set_cons_succ]
            refine wpAnyC_take (i := 14) (v := ?_) rfl (by kernel_rfl) (by kernel_rfl) (by kernel_rfl) (by decide) [15] (by kernel_rfl) (fun _ _ _ h => h) (Or.inl ⟨by rfl, ?_⟩) (by assumption) ?_
            rotate_left 1
            · (intro w hSw; (try dsimp only at hSw); go_simp; (try with_reducible rfl))
            try simp only [Act.put, List.getElem_toArray, List.getElem_cons_succ, List.getElem_cons_zero, List.setIfInBounds_toArray, List.set_cons_zero, List.set_cons_succ]
            refine wpAnyC_ready (rs := [15]) (by kernel_rfl) (by simp) ?_
            refine AllReadyC.cut rfl (fun K hK => ?_)
            try simp only [List.getElem_toArray, List.getElem_cons_succ, List.getElem_cons_zero]
            go_simp
            refine hK.out _ _ trivial (fun hHeld => ?_)
            clear hK K
            try simp only [Act.put, List.getElem_toArray, List.getElem_cons_succ, List.getElem_cons_zero, List.setIfInBounds_toArray, List.set_cons_zero, List.set_cons_succ]
            have hTrue : True := trivial
            refine wpAnyH_done (by kernel_rfl) ?_ _
            refine wp_at (fun W' => JRest Z w W' B rr ob ops.length (vs'.set a (.slice b6 n6' m6)) (.slice a6 n6 c6) (okWrites (l.take k) ++ o.writes) (Rs.set a (Rs[a] ++ R)) ∧ CellsAt W' wb (jC (worstB (l.take k)).1 (worstB (l.take k)).2 (.slice none 0 0) (.slice none 0 0)) 41 ∧ CellsAt W' xc (jC o.err o.at_ (.slice (some ⟨qb, qo, none⟩) o.rows.length xn2) (.slice xa3 o.writes.length xn3)) 41 ∧ xc < W'.heap.size) ?_ ?_
            · have hb : ∀ b, b < wr.heap.size → some b ≠ (Value.slice ea en ec).ownBlock → b ≠ rr → (w6.setCell ⟨rr, a, none⟩ (.slice b6 n6' m6)).heap[b]? = wr.heap[b]? := fun b h1 h2 h3 => (heap_setCell_other _ _ _ _ h3).trans (HGB.out b h1 h2)
              have hAo := hJm.out.own
              have hnow : ∀ b, (Value.slice a6 n6 c6).ownBlock = some b → some b ≠ (Value.slice ea en ec).ownBlock := fun b h1 h2 => Gr.Own.ne HOWN.out hAo (by decide) b h2.symm h1
              have hnor : (Value.slice a6 n6 c6).ownBlock ≠ some rr := Own.neCells hAo hJm.out.fam.cells (by decide)
              have hrrB := hJm.out.fam.gB
              refine ⟨⟨hJm.out.cells.kept (hb ob hobl2 (fun e => HNE.out.1 e.symm) (by omega)), ?_, hF6.out, hJm.out.zero.kept (hb B hJm.out.zero.lt (fun e => HNE.out.2.2.2.2.1 e.symm) (by omega)), ?_⟩, hCm.out.kept (hb wb hCm.out.lt (fun e => HNE.out.2.2.2.1 e.symm) (by omega)), hXm.out.kept (hb xc hxm (fun e => HNE.out.2.1 e.symm) (by omega)), ?_⟩
              · exact Gr.Own.kept hAo (fun b h1 hm' => hb b h1 (fun e => hm' (.inl (HOWN.out.lt e.symm).1)) (fun e => hm' (.inl (by rw [e]; exact hrrB)))) (fun b h1 => hb b (hAo.lt h1).2 (hnow b h1) (fun e => hnor (by rw [← e]; exact h1)))
              · refine Step.setCell ?_ (p := ⟨rr, a, none⟩) (by show w.heap.size ≤ rr; omega) _
                exact Below.grown (Step.trans hSm (by (repeat (first | exact Step.refl _ | refine Step.alloc ?_ _ | refine Step.drew ?_ | refine Step.drewN ?_ _ | refine Step.setCell ?_ (by first | exact Nat.le_refl _ | assumption | omega | (simp; done) | (simp; omega)) _ | assumption | refine Step.trans ?_ (by assumption : Step _ _))))) HG6.out (by rw [hBe]; have := hSm.size; simp; omega) (fun b hb => by have := (HOWN.out.lt hb).1; omega)
              · have := HG6.out.size
                simp at this ⊢
                omega
            rintro W7 ⟨hJ7, hC7, hX7, hx7⟩
            have HJ7 := Lib.hid hJ7
            have HC7 := Lib.hid hC7
            have HX7 := Lib.hid hX7
            have HL7 : Hid (∀ r ∈ Rs.set a (Rs[a] ++ R), r.length ≤ k * 67108864 + (m + 1) * 1048576) := Lib.hid (fun r hr => by
              rcases List.mem_or_eq_of_mem_set hr with h | h
              · have := lim_step (hLm.out r h) (Nat.zero_le 1048576)
                simpa using this
              · rw [h, List.length_append]
                exact lim_step hRa hsm)
            clear hJ7 hC7 hX7 HGB hF6 k2 kr kf kx kq
            go_wp2
            go_roundw
            case rel => exact ⟨m + 1, _, by go_num, by omega, by rw [hstp.out]; exact HJ7, HC7, HX7, by rw [hstp.out]; exact HL7, hx7⟩
            case measure => ((try simp [Go.RowKit.intOf]); omega)
          · obtain rfl : m = p.index.length := by omega
            have hJf := hJm.out
            have hLf := hLm.out
            have t1 : p.index.take p.index.length = p.index := List.take_length
            have t2 : o.rows.take p.index.length = o.rows := List.take_of_length_le (by rw [HG.out]; exact Nat.le_refl _)
            rw [t1, t2] at hJf hLf
            have e1 : worstB (l.take (k + 1)) = worstB (l.take k) := by rw [hW1.out]; unfold worstStep; rw [if_neg (by simp [HE.out])]
            have e2 : okRows ops.length (l.take (k + 1)) = addRows (okRows ops.length (l.take k)) p.index o.rows := by rw [hW2.out]; unfold rowStep; rw [if_neg (by simp [HE.out])]
            have e3 : okWrites (l.take (k + 1)) = okWrites (l.take k) ++ o.writes := by rw [hW3.out, if_neg (by simp [HE.out])]
            have hfin : Hid (JoinAt Z w wr B wb rr ob ops.length l (k + 1)) := Lib.hid ⟨vs', .slice a6 n6 c6, by rw [e1]; exact hCm.out, by rw [e2, e3]; exact hJf, by rw [e3, List.length_append]; exact lim_write HWL.out HWFk.out.writes, by rw [e2]; exact fun r hr => lim_next hfew (hLf r hr)⟩
            clear hJf hLf e1 e2 e3
            go_wp2
            go_roundw
            case rel => exact ⟨k + 1, by go_num, by omega, hfin⟩
            case measure => ((try simp [Go.RowKit.intOf]); omega)
      · have he1 : (o.err == 0) = false := beq_eq_false_iff_ne.2 he
        have he2 : (o.err != 0) = true := by rw [bne, he1]; rfl
        have HE := Lib.hid he
        obtain ⟨hat0, hat1⟩ := HWFk.out.bad he
        obtain ⟨m, hm⟩ : ∃ m : Nat, o.at_ = (m : Int) := ⟨o.at_.toNat, by omega⟩
        have hmi : m < p.index.length := by omega
        have ha0 : decide ((0 : Int) ≤ (m : Int)) = true := decide_eq_true (by omega)
        have ha1 : decide ((m : Int) < (p.index.length : Int)) = true := decide_eq_true (by omega)
        rw [hm] at x1
        obtain ⟨zb, zo, zu, rfl, hzb, _, hzu, hzc⟩ := Ty.slice_at1 rfl HY2.out hmi
        obtain ⟨hzu1, _⟩ := hzu
        obtain rfl : zu = .int .i64 p.index[m] := by simpa using hzu1
        have hab : Hid (atB (p, o) = p.index[m]) := Lib.hid (by unfold atB; simp only; rw [hm, Int.toNat_natCast, List.getElem?_eq_getElem hmi]; rfl)
        have HM := Lib.hid hm
        clear hat0 hat1 hm hzu1 he
        generalize p.index[m] = ix at *
        go_upto_region 9 with fail
        go_quiet (fail)
        obtain ⟨w5, hw5⟩ : ∃ x, x = w2.drewN nq := ⟨_, rfl⟩
        rw [← hw5]
        have hs5 : Step w2 w5 := by rw [hw5]; exact (Step.refl w2).drewN _
        have hz5 := hs5.size
        have x0 := (hs5.cell hxl 0).trans x0
        have x1 := (hs5.cell hxl 1).trans x1
        have v2 := (hs5.cell hyb2 _).trans v2
        have hzc := (hs5.cell hzb _).trans hzc
        have hwbl := HCw.out.lt
        have wc0 := (hs5.cell hwbl 0).trans wc0
        have wc1 := (hs5.cell hwbl 1).trans wc1
        have wc2 := (hs5.cell hwbl 2).trans wc2
        have wc3 := (hs5.cell hwbl 3).trans wc3
        have wf0 := (hs5.frozen hwbl 0).trans wf0
        have wf1 := (hs5.frozen hwbl 1).trans wf1
        have wf2 := (hs5.frozen hwbl 2).trans wf2
        have wf3 := (hs5.frozen hwbl 3).trans wf3
        have HJ5 := Lib.hid (HJR.out.after hs5)
        have HC5 := Lib.hid (HCw.out.step hs5)
        clear hs5 hw5 HJR HCw
        go_upto_region 10 with fail
        go_quiet (fail)
        obtain ⟨w7, hw7⟩ : ∃ x, x = w5.drewN nq := ⟨_, rfl⟩
        rw [← hw7]
        have hs7 : Step w5 w7 := by rw [hw7]; exact (Step.refl w5).drewN _
        have x0 := (hs7.cell (by omega) 0).trans x0
        have wc0 := (hs7.cell (by omega) 0).trans wc0
        have wc1 := (hs7.cell (by omega) 1).trans wc1
        have wc2 := (hs7.cell (by omega) 2).trans wc2
        have wc3 := (hs7.cell (by omega) 3).trans wc3
        have wf0 := (hs7.frozen (by omega) 0).trans wf0
        have wf1 := (hs7.frozen (by omega) 1).trans wf1
        have wf2 := (hs7.frozen (by omega) 2).trans wf2
        have wf3 := (hs7.frozen (by omega) 3).trans wf3
        have hx7 := hs7.size
        have HJ7 := Lib.hid (HJ5.out.after hs7)
        have HC7 := Lib.hid (HC5.out.step hs7)
        have HSW : Hid (∀ W u i cs, JRest Z w W B rr ob ops.length vs wv (okWrites (l.take k)) (okRows ops.length (l.take k)) → CellsAt W wb cs 41 → JRest Z w (W.setCell ⟨wb, i, none⟩ u) B rr ob ops.length vs wv (okWrites (l.take k)) (okRows ops.length (l.take k))) := Lib.hid (fun W u i cs h hc => h.set hc (by omega) (by omega) (by omega) (by omega))
        have HJ8 : Hid (JRest Z w ((((w7.setCell ⟨wb, 0, none⟩ (.int .i64 o.err)).setCell ⟨wb, 1, none⟩ (.int .i64 ix)).setCell ⟨wb, 2, none⟩ (.slice none 0 0)).setCell ⟨wb, 3, none⟩ (.slice none 0 0)) B rr ob ops.length vs wv (okWrites (l.take k)) (okRows ops.length (l.take k))) := Lib.hid (HSW.out _ _ _ _ (HSW.out _ _ _ _ (HSW.out _ _ _ _ (HSW.out _ _ _ _ HJ7.out HC7.out) (CellsAt.set HC7.out 0 _)) (CellsAt.set (CellsAt.set HC7.out 0 _) 1 _)) (CellsAt.set (CellsAt.set (CellsAt.set HC7.out 0 _) 1 _) 2 _))
        clear hs7 hw7 HJ5 HC5 HSW v2 hzc x1
        generalize worstB (l.take k) = A at *
        obtain ⟨a1, a2⟩ := A
        simp only at wc0 wc1 HC7 hW1
        by_cases ha : a1 = 0
        · subst ha
          have HCD : Hid ((0 : Int) = 0 ∨ atB (p, o) < a2) := Lib.hid (.inl rfl)
          go_wp2
          go_roundw
          case rel => exact ⟨k + 1, by go_num, by omega, Lib.hid (JoinAt.bad HE.out (A' := (o.err, ix)) (CellsAt.set (CellsAt.set (CellsAt.set (CellsAt.set HC7.out 0 _) 1 _) 2 _) 3 _) (by rw [hW1.out]; unfold worstStep; rw [if_pos HE.out, if_pos HCD.out, hab.out]) hW2.out hW3.out HJ8.out HWL.out HRL.out)⟩
          case measure => ((try simp [Go.RowKit.intOf]); omega)
        · have ha2 : (a1 == 0) = false := beq_eq_false_iff_ne.2 ha
          by_cases hlt2 : ix < a2
          · have hd5 : decide (ix < a2) = true := decide_eq_true hlt2
            have HCD : Hid (a1 = 0 ∨ atB (p, o) < a2) := Lib.hid (.inr (by rw [hab.out]; exact hlt2))
            go_wp2
            go_roundw
            case rel => exact ⟨k + 1, by go_num, by omega, Lib.hid (JoinAt.bad HE.out (A' := (o.err, ix)) (CellsAt.set (CellsAt.set (CellsAt.set (CellsAt.set HC7.out 0 _) 1 _) 2 _) 3 _) (by rw [hW1.out]; unfold worstStep; rw [if_pos HE.out, if_pos HCD.out, hab.out]) hW2.out hW3.out HJ8.out HWL.out HRL.out)⟩
            case measure => ((try simp [Go.RowKit.intOf]); omega)
          · have hd5 : decide (ix < a2) = false := decide_eq_false hlt2
            have HCD : Hid (¬ (a1 = 0 ∨ atB (p, o) < a2)) := Lib.hid (fun h => h.elim ha (fun h => hlt2 (by rw [← hab.out]; exact h)))
            go_wp2
            go_roundw
            case rel => exact ⟨k + 1, by go_num, by omega, Lib.hid (JoinAt.bad HE.out (A' := (a1, a2)) HC7.out (by rw [hW1.out]; unfold worstStep; rw [if_pos HE.out, if_neg HCD.out]) hW2.out hW3.out HJ7.out HWL.out HRL.out)⟩
            case measure => ((try simp [Go.RowKit.intOf]); omega)
    · obtain rfl : k = outs.length := by omega
      have htk : l.take outs.length = l := List.take_of_length_le (by rw [HLL.out]; exact Nat.le_refl _)
      rw [htk] at hCw hJR
      have hd1 : decide ((outs.length : Int) < (outs.length : Int)) = false := decide_eq_false (by omega)
      have wc0 : wr.cell? ⟨wb, 0, none⟩ = some (.int .i64 (worstB l).1) := hCw.cell 0
      have wc1 : wr.cell? ⟨wb, 1, none⟩ = some (.int .i64 (worstB l).2) := hCw.cell 1
      have wc2 : wr.cell? ⟨wb, 2, none⟩ = some (.slice none 0 0) := hCw.cell 2
      have wc3 : wr.cell? ⟨wb, 3, none⟩ = some (.slice none 0 0) := hCw.cell 3
      have z0 : wr.cell? ⟨B, 0, none⟩ = some (.int .i64 0) := hJR.zero.cell 0
      have z1 : wr.cell? ⟨B, 1, none⟩ = some (.int .i64 0) := hJR.zero.cell 1
      have z2 : wr.cell? ⟨B, 2, none⟩ = some (.slice none 0 0) := hJR.zero.cell 2
      have z3 : wr.cell? ⟨B, 3, none⟩ = some (.slice none 0 0) := hJR.zero.cell 3
      have y0 : wr.frozen? ⟨B, 0, none⟩ = false := hJR.zero.frozen 0
      have y1 : wr.frozen? ⟨B, 1, none⟩ = false := hJR.zero.frozen 1
      have y2 : wr.frozen? ⟨B, 2, none⟩ = false := hJR.zero.frozen 2
      have y3 : wr.frozen? ⟨B, 3, none⟩ = false := hJR.zero.frozen 3
      have HJR := Lib.hid hJR
      have HS := Lib.hid hS
      clear hCw hJR hS hwl hrl hj htk hB
      by_cases hb : (worstB l).1 = 0
      · have HJ2 := Lib.hid (HJ.out.trans (if_neg (by simp [hb])))
        have HWR := Lib.hid (HW.out hb)
        rw [hb] at wc0
        obtain ⟨Rs, hRs⟩ : ∃ Rs, okRows ops.length l = Rs := ⟨_, rfl⟩
        have hRl : Rs.length = ops.length := by rw [← hRs, okRows_len]
        rw [hRs] at HJ2 HJR
        obtain ⟨wsf, hwsf⟩ : ∃ ws, okWrites l = ws := ⟨_, rfl⟩
        rw [hwsf] at HJ2 HJR HWR
        have HRL := Lib.hid hRl
        have hF0 : RowsAt wr (JX Z B) rr vs (cutTo ops Rs 0) := by
          rw [cutTo_zero]
          exact HJR.out.fam.rows (fun b hb => by
            rcases hb with rfl | hb
            · exact ⟨.inl (Nat.le_refl _), fun i hi => Own.neCells (HJR.out.fam.own i hi (by rw [← HJR.out.fam.len]; exact hi)) HJR.out.zero (by decide)⟩
            · exact ⟨.inr hb, fun i hi e => by have := ((HJR.out.fam.own i hi (by rw [← HJR.out.fam.len]; exact hi)).lt e).1; have := HZZ.out b hb; omega⟩)
        have HF0 := Lib.hid hF0
        have hW0 : (Ty.slice tWrite).rep wr (fun b => b = rr ∨ JX Z B b) [wv] wsf := Gr.Own.rep' (Gr.Own.less HJR.out.own (fun b _ hb => by rcases hb with hb | hb | hb; (have := HJR.out.fam.gB; exact .inl (by omega)); (exact .inl (by omega)); exact .inr hb)) (fun b hb hm => by
          rcases hm with rfl | rfl | hm
          · exact Own.neCells HJR.out.own HJR.out.fam.cells (by decide) hb
          · exact Own.neCells HJR.out.own HJR.out.zero (by decide) hb
          · have := (HJR.out.own.lt hb).1
            have := HZZ.out b hm
            omega)
        have HW0 := Lib.hid hW0
        have HCO := Lib.hid HJR.out.cells
        have HCZ := Lib.hid HJR.out.zero
        obtain ⟨wo, hwo⟩ : ∃ x, x = wr := ⟨_, rfl⟩
        subst hwo
        clear hb hRs hwsf hRl hF0 hW0 HJR HJ HW
        go_wp2
        go_loopw [126] (fun i w' => ∃ (k : Nat) (vs' : List Value), i = .int .i64 k ∧ k ≤ ops.length ∧ Hid (RowsAt w' (JX Z B) rr vs' (cutTo ops Rs k)) ∧ Hid (Turn (· = rr) wo w')) (fun i _ => ops.length - (Go.RowKit.intOf i).toNat)
        case atStart => exact ⟨0, vs, rfl, Nat.zero_le _, HF0, Lib.hid (Turn.refl _ _)⟩
        case round =>
          obtain ⟨k, vs', rfl, hk, hFk, hTk⟩ := hrel
          have hszk := hTk.out.size
          have hBk : Step w wr := Turn.step HS.out hTk.out (fun b hb => by omega)
          by_cases hlt : k < ops.length
          · have hkR : k < Rs.length := by rw [HRL.out]; exact hlt
            have hkv : k < vs'.length := by rw [hFk.out.len, cutTo_len HRL.out hk]; exact hlt
            have hkc : k < (cutTo ops Rs k).length := by rw [cutTo_len HRL.out hk]; exact hlt
            have hrep := hFk.out.rep k hkv hkc
            rw [cutTo_at HRL.out hlt hkc hkR] at hrep
            have hsucc := Lib.hid (cutTo_succ HRL.out hlt hkR)
            have hsame : Hid (∀ X, X = Rs[k] → (cutTo ops Rs k).set k X = cutTo ops Rs k) := Lib.hid (fun X hX => set_same hkc (by rw [cutTo_at HRL.out hlt hkc hkR, hX]))
            have hqv : wr.cell? ⟨rr, k, none⟩ = some vs'[k] := by rw [hFk.out.cells.cell k]; simp [hkv]
            have hqf : wr.frozen? ⟨rr, k, none⟩ = false := hFk.out.cells.frozen k
            generalize vs'[k] = vk at *
            obtain ⟨ra, rc, rfl, hrlc, _, hrl2⟩ := Ty.slice_val hrep
            have HREP := Lib.hid hrep
            have o2 : wr.cell? ⟨ob, 2, none⟩ = some (.slice (some ⟨rr, 0, none⟩) ops.length ops.length) := (HCO.out.kept (hTk.out.block ob (by have := HCO.out.lt; omega) (by omega))).cell 2
            obtain ⟨qb, qo, qes, rfl, qhb, _, qu, qcu⟩ := Ty.slice_at HO.out hlt
            obtain ⟨qc1, qc2, rfl, qh0, qh1, qh2, qh3⟩ := qu
            have qq0 := (Step.cell (w' := wr) (by (repeat (first | exact Step.refl _ | refine Step.alloc ?_ _ | refine Step.drew ?_ | refine Step.drewN ?_ _ | refine Step.setCell ?_ (by first | exact Nat.le_refl _ | assumption | omega | (simp; done) | (simp; omega)) _ | assumption | refine Step.trans ?_ (by assumption : Step _ _)))) qhb _).trans (qcu 0 _ rfl)
            have qq1 := (Step.cell (w' := wr) (by (repeat (first | exact Step.refl _ | refine Step.alloc ?_ _ | refine Step.drew ?_ | refine Step.drewN ?_ _ | refine Step.setCell ?_ (by first | exact Nat.le_refl _ | assumption | omega | (simp; done) | (simp; omega)) _ | assumption | refine Step.trans ?_ (by assumption : Step _ _)))) qhb _).trans (qcu 1 _ rfl)
            have qq2 := (Step.cell (w' := wr) (by (repeat (first | exact Step.refl _ | refine Step.alloc ?_ _ | refine Step.drew ?_ | refine Step.drewN ?_ _ | refine Step.setCell ?_ (by first | exact Nat.le_refl _ | assumption | omega | (simp; done) | (simp; omega)) _ | assumption | refine Step.trans ?_ (by assumption : Step _ _)))) qhb _).trans (qcu 2 _ rfl)
            have qq3 := (Step.cell (w' := wr) (by (repeat (first | exact Step.refl _ | refine Step.alloc ?_ _ | refine Step.drew ?_ | refine Step.drewN ?_ _ | refine Step.setCell ?_ (by first | exact Nat.le_refl _ | assumption | omega | (simp; done) | (simp; omega)) _ | assumption | refine Step.trans ?_ (by assumption : Step _ _)))) qhb _).trans (qcu 3 _ rfl)
            simp only [show tOp.n = 4 from rfl, Nat.add_zero] at qq0 qq1 qq2 qq3
            obtain ⟨qa1, qn1, rfl, _⟩ := Ty.slice_val qh1
            obtain ⟨qa2, qn2, rfl, _⟩ := Ty.slice_val qh2
            have qH0 := Lib.hid qh0
            have qH1 := Lib.hid qh1
            have qH2 := Lib.hid qh2
            have qH3 := Lib.hid qh3
            clear qcu qh0 qh1 qh2 qh3
            generalize Rs[k] = R at *
            generalize ops[k] = op at *
            clear hrep
            go_upto_region 26 with fail
            obtain ⟨mh, hmh⟩ : ∃ mh : Nat, max op.most 0 = (mh : Int) := ⟨(max op.most 0).toNat, by omega⟩
            have hcut : Hid (cutB op R = if op.kind = 4 then R.take mh else R) := Lib.hid (by unfold cutB; rw [hmh, Int.toNat_natCast])
            obtain ⟨xq, hxq⟩ : ∃ x, wr.heap.size = x := ⟨_, rfl⟩
            refine wp_code (fun w2 => Step wr w2 ∧ w2.cell? ⟨xq, 0, none⟩ = some (.int .i64 op.kind) ∧ w2.cell? ⟨xq, 3, none⟩ = some (.int .i64 op.most) ∧ xq < w2.heap.size) ?_ ?_
            · refine ⟨by (repeat (first | exact Step.refl _ | refine Step.alloc ?_ _ | refine Step.drew ?_ | refine Step.drewN ?_ _ | refine Step.setCell ?_ (by first | exact Nat.le_refl _ | assumption | omega | (simp; done) | (simp; omega)) _ | assumption | refine Step.trans ?_ (by assumption : Step _ _))), (CellsAt.new hxq.symm).cell 0, (CellsAt.new hxq.symm).cell 3, ?_⟩
              rw [World.size_alloc, hxq]
              exact Nat.lt_succ_self _
            rintro w2 ⟨hS2, u0, u3, hxl⟩
            rw [hxq]
            have hz2 := hS2.size
            have hrrl := hFk.out.cells.lt
            have hobl3 : ob < wr.heap.size := by have := HCO.out.lt; omega
            have hqv2 := (hS2.cell hrrl k).trans hqv
            have hqf2 := (hS2.frozen hrrl k).trans hqf
            have o22 := (hS2.cell hobl3 2).trans o2
            have HS2 := Lib.hid hS2
            have hrrk : rr < w2.heap.size := by omega
            clear hS2 hqv hqf o2 qq0 qq1 qq2 qq3 hBk
            by_cases hkd : op.kind = 4
            · have hkd1 : (op.kind == 4) = true := beq_iff_eq.2 hkd
              by_cases hcl : mh < R.length
              · have hg1 : decide ((mh : Int) < (R.length : Int)) = true := decide_eq_true (by omega)
                have hcb : Hid (cutB op R = R.take mh) := Lib.hid (by rw [hcut.out, if_pos hkd])
                have HKD := Lib.hid hkd
                clear hkd
                obtain ⟨eb, eo, eu, rfl, _⟩ := Ty.slice_at HREP.out (by omega : 0 < R.length)
                have hrcl : (mh : Int) ≤ (rc : Int) := by omega
                go_quiet (fail)
                obtain ⟨w5, hw5⟩ : ∃ x, x = w2.drewN nq := ⟨_, rfl⟩
                rw [← hw5]
                have hs5 : Step w2 w5 := by rw [hw5]; exact (Step.refl w2).drewN _
                have hqv5 := (hs5.cell hrrk k).trans hqv2
                have hqf5 := (hs5.frozen hrrk k).trans hqf2
                have o25 := (hs5.cell (by omega) 2).trans o22
                have u35 := (hs5.cell hxl 3).trans u3
                have HS5 := Lib.hid (HS2.out.trans hs5)
                clear hs5 hw5 hqv2 hqf2 o22 u3 u0
                go_upto_region 27 with fail
                refine wp_region_cut (S := (fun w' => w'.cell? ⟨ob, 2, none⟩ = some (.slice (some ⟨rr, 0, none⟩) ops.length ops.length) ∧ w'.cell? ⟨rr, k, none⟩ = some (.slice (some ⟨eb, eo, none⟩) R.length rc) ∧ w'.cell? ⟨xq, 3, none⟩ = some (.int .i64 op.most))) 13 (by kernel_rfl) ?_ (fun hHeld => ?_)
                · (go_keep)
                refine wpAnyC_take (i := 0) (v := ?_) rfl (by kernel_rfl) (by kernel_rfl) (by kernel_rfl) (by decide) [1, 12, 13] (by kernel_rfl) (fun _ _ _ h => h) (Or.inl ⟨by rfl, ?_⟩) (by assumption) ?_
                rotate_left 1
                · (intro w hSw; (try dsimp only at hSw); go_simp; (try with_reducible rfl))
                try simp only [Act.put, List.getElem_toArray, List.getElem_cons_succ, List.getElem_cons_zero, List.setIfInBounds_toArray, List.set_cons_zero, List.set_cons_succ]
                refine wpAnyC_take (i := 1) (v := ?_) rfl (by kernel_rfl) (by kernel_rfl) (by kernel_rfl) (by decide) [12, 13] (by kernel_rfl) (fun _ _ _ h => h) (Or.inl ⟨by rfl, ?_⟩) (by assumption) ?_
                rotate_left 1
                · (intro w hSw; (try dsimp only at hSw); go_simp; (try with_reducible rfl))
                try simp only [Act.put, List.getElem_toArray, List.getElem_cons_succ, List.getElem_cons_zero, List.setIfInBounds_toArray, List.set_cons_zero, List.set_cons_succ]
                refine wpAnyC_take (i := 2) (v := ?_) rfl (by kernel_rfl) (by kernel_rfl) (by kernel_rfl) (by decide) [12, 13] (by kernel_rfl) (fun _ _ _ h => h) (Or.inl ⟨by rfl, ?_⟩) (by assumption) ?_
                rotate_left 1
                · (intro w hSw; (try dsimp only at hSw); go_simp; (try with_reducible rfl))
                try simp only [Act.put, List.getElem_toArray, List.getElem_cons_succ, List.getElem_cons_zero, List.setIfInBounds_toArray, List.set_cons_zero, List.set_cons_succ]
                refine wpAnyC_take (i := 3) (v := ?_) rfl (by kernel_rfl) (by kernel_rfl) (by kernel_rfl) (by decide) [4, 6, 7, 11, 12, 13] (by kernel_rfl) (fun _ _ _ h => h) (Or.inl ⟨by rfl, ?_⟩) (by assumption) ?_
                rotate_left 1
                · (intro w hSw; (try dsimp only at hSw); go_simp; (try with_reducible rfl))
                try simp only [Act.put, List.getElem_toArray, List.getElem_cons_succ, List.getElem_cons_zero, List.setIfInBounds_toArray, List.set_cons_zero, List.set_cons_succ]
                refine wpAnyC_take (i := 4) (v := ?_) rfl (by kernel_rfl) (by kernel_rfl) (by kernel_rfl) (by decide) [6, 7, 11, 12, 13] (by kernel_rfl) (fun _ _ _ h => h) (Or.inl ⟨by rfl, ?_⟩) (by assumption) ?_
                rotate_left 1
                · (intro w hSw; (try dsimp only at hSw); go_simp; (try with_reducible rfl))
                try simp only [Act.put, List.getElem_toArray, List.getElem_cons_succ, List.getElem_cons_zero, List.setIfInBounds_toArray, List.set_cons_zero, List.set_cons_succ]
                refine wpAnyC_take (i := 5) (v := ?_) rfl (by kernel_rfl) (by kernel_rfl) (by kernel_rfl) (by decide) [6, 7, 11, 12, 13] (by kernel_rfl) (fun _ _ _ h => h) (Or.inl ⟨by rfl, ?_⟩) (by assumption) ?_
                rotate_left 1
                · (intro w hSw; (try dsimp only at hSw); go_simp; (try with_reducible rfl))
                try simp only [Act.put, List.getElem_toArray, List.getElem_cons_succ, List.getElem_cons_zero, List.setIfInBounds_toArray, List.set_cons_zero, List.set_cons_succ]
                refine wpAnyC_take (i := 6) (v := ?_) rfl (by kernel_rfl) (by kernel_rfl) (by kernel_rfl) (by decide) [7, 11, 12, 13] (by kernel_rfl) (fun _ _ _ h => h) (Or.inl ⟨by rfl, ?_⟩) (by assumption) ?_
                rotate_left 1
                · (intro w hSw; (try dsimp only at hSw); go_simp; (try with_reducible rfl))
                try simp only [Act.put, List.getElem_toArray, List.getElem_cons_succ, List.getElem_cons_zero, List.setIfInBounds_toArray, List.set_cons_zero, List.set_cons_succ]
                refine wpAnyC_take (i := 7) (v := ?_) rfl (by kernel_rfl) (by kernel_rfl) (by kernel_rfl) (by decide) [11, 12, 13] (by kernel_rfl) (fun _ _ _ h => h) (Or.inl ⟨by rfl, ?_⟩) (by assumption) ?_
                rotate_left 1
                · (intro w hSw; (try dsimp only at hSw); go_simp; (try with_reducible rfl))
                try simp only [Act.put, List.getElem_toArray, List.getElem_cons_succ, List.getElem_cons_zero, List.setIfInBounds_toArray, List.set_cons_zero, List.set_cons_succ]
                refine wpAnyC_take (i := 8) (v := ?_) rfl (by kernel_rfl) (by kernel_rfl) (by kernel_rfl) (by decide) [9, 10, 11, 12, 13] (by kernel_rfl) (fun _ _ _ h => h) (Or.inl ⟨by rfl, ?_⟩) (by assumption) ?_
                rotate_left 1
                · (intro w hSw; (try dsimp only at hSw); go_simp; (try with_reducible rfl))
                try simp only [Act.put, List.getElem_toArray, List.getElem_cons_succ, List.getElem_cons_zero, List.setIfInBounds_toArray, List.set_cons_zero, List.set_cons_succ]
                refine wpAnyC_take (i := 9) (v := ?_) rfl (by kernel_rfl) (by kernel_rfl) (by kernel_rfl) (by decide) [10, 11, 12, 13] (by kernel_rfl) (fun _ _ _ h => h) (Or.inl ⟨by rfl, ?_⟩) (by assumption) ?_
                rotate_left 1
                · (intro w hSw; (try dsimp only at hSw); go_simp; (try with_reducible rfl))
                try simp only [Act.put, List.getElem_toArray, List.getElem_cons_succ, List.getElem_cons_zero, List.setIfInBounds_toArray, List.set_cons_zero, List.set_cons_succ]
                refine wpAnyC_take (i := 10) (v := ?_) rfl (by kernel_rfl) (by kernel_rfl) (by kernel_rfl) (by decide) [11, 12, 13] (by kernel_rfl) (fun _ _ _ h => h) (Or.inl ⟨by rfl, ?_⟩) (by assumption) ?_
                rotate_left 1
                · (intro w hSw; (try dsimp only at hSw); go_simp; (try with_reducible rfl))
                try simp only [Act.put, List.getElem_toArray, List.getElem_cons_succ, List.getElem_cons_zero, List.setIfInBounds_toArray, List.set_cons_zero, List.set_cons_succ]
                refine wpAnyC_take (i := 11) (v := ?_) rfl (by kernel_rfl) (by kernel_rfl) (by kernel_rfl) (by decide) [12, 13] (by kernel_rfl) (fun _ _ _ h => h) (Or.inl ⟨by rfl, ?_⟩) (by assumption) ?_
                rotate_left 1
                · (intro w hSw; (try dsimp only at hSw); go_simp; (try with_reducible rfl))
                try simp only [Act.put, List.getElem_toArray, List.getElem_cons_succ, List.getElem_cons_zero, List.setIfInBounds_toArray, List.set_cons_zero, List.set_cons_succ]
                refine wpAnyC_take (i := 12) (v := ?_) rfl (by kernel_rfl) (by kernel_rfl) (by kernel_rfl) (by decide) [13] (by kernel_rfl) (fun _ _ _ h => h) (Or.inl ⟨by rfl, ?_⟩) (by assumption) ?_
                rotate_left 1
                · (intro w hSw; (try dsimp only at hSw); go_simp; (try with_reducible rfl))
                try simp only [Act.put, List.getElem_toArray, List.getElem_cons_succ, List.getElem_cons_zero, List.setIfInBounds_toArray, List.set_cons_zero, List.set_cons_succ]
                refine wpAnyC_ready (rs := [13]) (by kernel_rfl) (by simp) ?_
                refine AllReadyC.cut rfl (fun K hK => ?_)
                try simp only [List.getElem_toArray, List.getElem_cons_succ, List.getElem_cons_zero]
                go_simp
                refine hK.out _ _ trivial (fun hHeld => ?_)
                clear hK K
                try simp only [Act.put, List.getElem_toArray, List.getElem_cons_succ, List.getElem_cons_zero, List.setIfInBounds_toArray, List.set_cons_zero, List.set_cons_succ]
                have hTrue : True := trivial
                refine wpAnyH_done (by kernel_rfl) ?_ _
                have hW6 : ∀ W', (W' = w5.setCell ⟨rr, k, none⟩ (.slice (some ⟨eb, eo, none⟩) mh rc) ∨ W' = (w5.setCell ⟨rr, k, none⟩ (.slice (some ⟨eb, eo, none⟩) mh rc)).drew) → RowsAt W' (JX Z B) rr (vs'.set k (.slice (some ⟨eb, eo, none⟩) mh rc)) (cutTo ops Rs (k + 1)) ∧ Turn (· = rr) wo W' := fun W' hW' => by
                  have c1 : CellsAt (w5.setCell ⟨rr, k, none⟩ (.slice (some ⟨eb, eo, none⟩) mh rc)) rr (vs'.toArray.setIfInBounds k (.slice (some ⟨eb, eo, none⟩) mh rc)) 59 := CellsAt.set (hFk.out.cells.step HS5.out) k _
                  have c2 : ∀ b, b < wr.heap.size → b ≠ rr → (w5.setCell ⟨rr, k, none⟩ (.slice (some ⟨eb, eo, none⟩) mh rc)).heap[b]? = wr.heap[b]? := fun b h1 h2 => (heap_setCell_other _ _ _ _ h2).trans (HS5.out.heap h1)
                  have c3 : (Ty.slice tPair).rep (w5.setCell ⟨rr, k, none⟩ (.slice (some ⟨eb, eo, none⟩) mh rc)) (fun b => b = rr ∨ JX Z B b) [.slice (some ⟨eb, eo, none⟩) mh rc] (R.take mh) := Ty.kept _ (Ty.step _ (Ty.slice_take HREP.out (by omega)) HS5.out) (Kept.setCell _ _ _ (.inl rfl))
                  have c4 : Turn (· = rr) wo (w5.setCell ⟨rr, k, none⟩ (.slice (some ⟨eb, eo, none⟩) mh rc)) := Turn.setCell (M := (· = rr)) (hTk.out.then HS5.out) (p := ⟨rr, k, none⟩) (fun _ => rfl) _
                  rw [hsucc.out, hcb.out]
                  rcases hW' with rfl | rfl
                  · exact ⟨hFk.out.put2 c1 (fun b h1 h2 _ => c2 b h1 h2) c3, c4⟩
                  · exact ⟨hFk.out.put2 (CellsAt.step c1 ((Step.refl _).drew)) (fun b h1 h2 _ => c2 b h1 h2) (Ty.step _ c3 ((Step.refl _).drew)), c4.drew⟩
                have HW6 := Lib.hid hW6
                clear hW6
                refine wp_at (fun W' => Hid (RowsAt W' (JX Z B) rr (vs'.set k (.slice (some ⟨eb, eo, none⟩) mh rc)) (cutTo ops Rs (k + 1)) ∧ Turn (· = rr) wo W')) (Lib.hid (HW6.out _ (by first | exact .inr rfl | exact .inl rfl))) ?_
                intro W6 h6
                go_wp2
                go_roundw
                case rel => exact ⟨k + 1, _, by go_num, by omega, Lib.hid h6.out.1, Lib.hid h6.out.2⟩
                case measure => ((try simp [Go.RowKit.intOf]); omega)
              · have hg1 : decide ((mh : Int) < (R.length : Int)) = false := decide_eq_false (by omega)
                have hcb : Hid (cutB op R = R) := Lib.hid (by rw [hcut.out, if_pos hkd, List.take_of_length_le (by omega)])
                clear hkd
                go_quiet (fail)
                go_wp2
                go_roundw
                case rel => exact ⟨k + 1, vs', by go_num, by omega, Lib.hid (by rw [hsucc.out, hsame.out _ hcb.out]; exact hFk.out.step (HS2.out.drewN _) (fun _ _ h => h)), Lib.hid (hTk.out.then (HS2.out.drewN _))⟩
                case measure => ((try simp [Go.RowKit.intOf]); omega)
            · have hkd1 : (op.kind == 4) = false := beq_eq_false_iff_ne.2 hkd
              have hcb : Hid (cutB op R = R) := Lib.hid (by rw [hcut.out, if_neg hkd])
              clear hkd
              go_quiet (fail)
              go_wp2
              go_roundw
              case rel => exact ⟨k + 1, vs', by go_num, by omega, Lib.hid (by rw [hsucc.out, hsame.out _ hcb.out]; exact hFk.out.step (HS2.out.drewN _) (fun _ _ h => h)), Lib.hid (hTk.out.then (HS2.out.drewN _))⟩
              case measure => ((try simp [Go.RowKit.intOf]); omega)
          · obtain rfl : k = ops.length := by omega
            have hFe := hFk.out
            rw [cutTo_end HRL.out] at hFe
            have HFE := Lib.hid hFe
            have hWe := Ty.keep _ HW0.out (fun b h1 h2 => ⟨hTk.out.block b h1 (fun e => h2 (.inl e)), h2⟩)
            obtain ⟨wa, wcc, rfl, _⟩ := Ty.slice_val hWe
            have HWE := Lib.hid hWe
            have hCe := HCO.out.kept (hTk.out.block ob (by have := HCO.out.lt; omega) (by omega))
            have hZe := HCZ.out.kept (hTk.out.block B (by have := HCZ.out.lt; omega) (by omega))
            have e0 : wr.cell? ⟨ob, 0, none⟩ = some (.int .i64 0) := hCe.cell 0
            have e1 : wr.cell? ⟨ob, 1, none⟩ = some (.int .i64 0) := hCe.cell 1
            have e2 : wr.cell? ⟨ob, 2, none⟩ = some (.slice (some ⟨rr, 0, none⟩) ops.length ops.length) := hCe.cell 2
            have e3 : wr.cell? ⟨ob, 3, none⟩ = some (.slice wa wsf.length wcc) := hCe.cell 3
            have HZE := Lib.hid hZe
            have hd9 : decide ((ops.length : Int) < (ops.length : Int)) = false := decide_eq_false (by omega)
            have HOWNC := Lib.hid (own_ (e := 0) (a := 0) (c := ops.length) (JX Z B) (fun b hb => by rcases hb with hb | hb; (have h' : b = B := hb; have := hZe.lt; omega); (have := HZZ.out b hb; have := hZe.lt; omega)) HFE.out (n := ops.length) (by rw [cutRows_len HRL.out]) (by omega) HWE.out (HWR.out.imp (fun h => cmpB_ne h)))
            clear hFe hWe hCe hZe
            go_wp2_with (go_at_call 72; refine HOWNC.out.mono ?_; rintro x w5 ⟨vs5, wv5, ys, rfl, hF5, hp5, hr5, hw5, hT5⟩; obtain ⟨a5, c5, rfl, _⟩ := Ty.slice_val hw5; have hZ5 := HZE.out.kept (hT5.block B HZE.out.lt (by omega)); have z50 : w5.cell? ⟨B, 0, none⟩ = some (.int .i64 0) := hZ5.cell 0; have z51 : w5.cell? ⟨B, 1, none⟩ = some (.int .i64 0) := hZ5.cell 1; have z52 : w5.cell? ⟨B, 2, none⟩ = some (.slice none 0 0) := hZ5.cell 2; have z53 : w5.cell? ⟨B, 3, none⟩ = some (.slice none 0 0) := hZ5.cell 3; have y50 : w5.frozen? ⟨B, 0, none⟩ = false := hZ5.frozen 0; have y51 : w5.frozen? ⟨B, 1, none⟩ = false := hZ5.frozen 1; have y52 : w5.frozen? ⟨B, 2, none⟩ = false := hZ5.frozen 2; have y53 : w5.frozen? ⟨B, 3, none⟩ = false := hZ5.frozen 3; have HF5 := Lib.hid hF5; have HP5 := Lib.hid hp5; have HR5 := Lib.hid hr5; have HW5 := Lib.hid hw5; have HT5 := Lib.hid hT5; have HZ5 := Lib.hid hZ5; clear hF5 hp5 hr5 hw5 hT5 hZ5)
            have hyw : ys = wsf := Rising.ext HR5.out HWR.out (fun x => HP5.out.mem_iff)
            subst hyw
            rw [HJ2.out]
            refine bodyPost_ret (v := .agg (jC 0 0 (.slice (some ⟨rr, 0, none⟩) ops.length ops.length) (.slice a5 ys.length c5))) (results_cell_row rfl _ _ _ _ _ (0, 0) _ rfl (CellsAt.set (CellsAt.set (CellsAt.set (CellsAt.set HZ5.out 0 _) 1 _) 2 _) 3 _) Try.underlying41 rfl (by kernel_rfl)) rfl ?_
            have hoth : ∀ b, b ≠ B → ((((w5.setCell ⟨B, 0, none⟩ (.int .i64 0)).setCell ⟨B, 1, none⟩ (.int .i64 0)).setCell ⟨B, 2, none⟩ (.slice (some ⟨rr, 0, none⟩) ops.length ops.length)).setCell ⟨B, 3, none⟩ (.slice a5 ys.length c5)).heap[b]? = w5.heap[b]? := fun b hb => by
              rw [heap_setCell_other _ _ _ _ hb, heap_setCell_other _ _ _ _ hb, heap_setCell_other _ _ _ _ hb, heap_setCell_other _ _ _ _ hb]
            refine ⟨_, _, rfl, ?_, ?_, ?_⟩
            · exact RowsAt.slice (HF5.out.keep (hoth rr (by omega)) (fun b _ _ h => hoth b (fun e => h (.inl e)))) (by rw [cutRows_len HRL.out]) (Nat.le_refl _) (by unfold maxLen; omega) (by rw [lim_eq]; omega) (fun b hb => ⟨by have := HZZ.out b hb; omega, .inr hb⟩)
            · exact Ty.keep _ HW5.out (fun b _ hm => ⟨hoth b (fun e => hm (.inl e)), fun h => hm (.inr h)⟩)
            · iterate 4 refine Step.setCell ?_ (p := ⟨_, _, _⟩) (by show w.heap.size ≤ B; omega) _
              exact Turn.step (Turn.step HS.out hTk.out (fun b hb => by have h' : b = rr := hb; omega)) HT5.out (fun b hb => by have h' : b = rr := hb; omega)
      · have HJ2 := Lib.hid (HJ.out.trans (if_pos hb))
        have hb1 : ((worstB l).1 == 0) = false := beq_eq_false_iff_ne.2 hb
        have hb2 : ((worstB l).1 != 0) = true := by rw [bne, hb1]; rfl
        clear hb
        generalize worstB l = A at *
        obtain ⟨a1, a2⟩ := A
        simp only at *
        go_wp2
        rw [HJ2.out]
        refine bodyPost_ret (v := .agg (jC a1 a2 (.slice none 0 0) (.slice none 0 0))) (results_cell_row rfl _ _ _ _ _ (0, 0) _ rfl (CellsAt.set (CellsAt.set (CellsAt.set (CellsAt.set HJR.out.zero 0 _) 1 _) 2 _) 3 _) Try.underlying41 rfl (by kernel_rfl)) rfl ⟨_, _, rfl, nil_repJ, nil_repJ, ?_⟩
        iterate 4 refine Step.setCell ?_ (p := ⟨_, _, _⟩) (by show w.heap.size ≤ B; omega) _
        exact HS.out
end Go.Proofs.Ythflkfgiclcdiaa
