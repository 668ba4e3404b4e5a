/-
  Walk: a record's reader: truth.
  Walk: a record's reader: just so many numbers of a part (some).
  Walk: a record's reader: all numbers of a part (what of it is needed: that it ends, and what stays).
  Walks: a record that is being read: its writes grow (the closure of field).
  Walk: a record that is being read: its ranges grow (the other closure of field).
-/
import Derived.Test.YthflkfgiclcdiaaZP11
import Derived.Test.YthflkfgiclcdiaaZCut
import Derived.Deep.DeepCutAuto
namespace Go.Proofs.Ythflkfgiclcdiaa
open Go.RowKit Go.Gr
set_option linter.unusedSimpArgs false
/-- A flag of the next part. -/
def truthF (ps : List (List UInt8)) (e : Int) : Bool × List (List UInt8) × Int :=
  if (nextF ps e).2.2 ≠ 0 then (false, (nextF ps e).2.1, (nextF ps e).2.2)
  else if (nextF ps e).1 = [0] then (false, (nextF ps e).2.1, 0) else if (nextF ps e).1 = [1] then (true, (nextF ps e).2.1, 0) else (false, (nextF ps e).2.1, 3)
set_option maxRecDepth 100000 in
set_option maxHeartbeats 2000000 in
theorem rcTruth_ {w : World} {M : Nat → Prop} {rb : Nat} {v : Value} {e : Int} {ps : List (List UInt8)} (h : RcAt w rb v e) (hr : (Ty.slice Ty.bytes).rep w M [v] ps) (hM : M rb) :
    Calls Try.prog 127 #[.pointer (some ⟨rb, 0, none⟩)] w fun x w' => x = .returned (.bool (truthF ps e).1) ∧ (∃ v', RcAt w' rb v' (truthF ps e).2.2 ∧ (Ty.slice Ty.bytes).rep w' M [v'] (truthF ps e).2.1) ∧ Turn (· = rb) w w' := by
  have HN := Lib.hid (rcNext_ h hr hM)
  have hrb := h.lt
  have htf : truthF ps e = if (nextF ps e).2.2 ≠ 0 then (false, (nextF ps e).2.1, (nextF ps e).2.2) else if (nextF ps e).1 = [0] then (false, (nextF ps e).2.1, 0) else if (nextF ps e).1 = [1] then (true, (nextF ps e).2.1, 0) else (false, (nextF ps e).2.1, 3) := rfl
  rw [htf]
  clear h hr htf
  generalize nextF ps e = N at *
  obtain ⟨p, r, e1⟩ := N
  simp only at HN ⊢
  obtain ⟨R, hR⟩ : ∃ R : Bool × List (List UInt8) × Int, R = if e1 ≠ 0 then (false, r, e1) else if p = [0] then (false, r, 0) else if p = [1] then (true, r, 0) else (false, r, 3) := ⟨_, rfl⟩
  rw [← hR]
  by_cases he : e1 = 0
  · subst he
    rw [if_neg (by simp)] at hR
    have hcase : (p = [0]) ∨ (p = [1]) ∨ (∃ c : UInt8, p = [c] ∧ 1 < c.toNat) ∨ p.length ≠ 1 := by
      by_cases hl : p.length = 1
      · obtain ⟨c, rfl⟩ := List.length_eq_one_iff.1 hl
        by_cases h0 : c.toNat = 0
        · exact .inl (by rw [show c = 0 from UInt8.toNat_inj.1 (by simpa using h0)])
        · by_cases h1 : c.toNat = 1
          · exact .inr (.inl (by rw [show c = 1 from UInt8.toNat_inj.1 (by simpa using h1)]))
          · exact .inr (.inr (.inl ⟨c, rfl, by omega⟩))
      · exact .inr (.inr (.inr hl))
    have key : ∀ (c : UInt8) (W : World) (p' : Value), Ty.bytes.rep W M [p'] [c] → ∃ b off k, p' = .slice (some ⟨b, off, none⟩) 1 k ∧ b < W.heap.size ∧ b ≠ rb ∧ W.cell? ⟨b, off, none⟩ = some (bv c) := fun c W p' hp => by
      obtain ⟨pa, pk, rfl, _⟩ := Ty.slice_val hp
      obtain ⟨b, off, u, rfl, hb, hn, hu, hc⟩ := Ty.slice_at1 rfl hp (k := 0) (by simp)
      obtain rfl : u = bv c := by simpa [Ty.byte] using hu
      exact ⟨b, off, pk, rfl, hb, fun e => hn (e ▸ hM), by simpa using hc⟩
    rcases hcase with rfl | rfl | ⟨c, rfl, hc1⟩ | hl
    · rw [if_pos rfl] at hR
      subst hR
      go_enter Try.func127, Try.ntmps127
      go_upto_region 2 with (go_at_call 109; refine HN.out.mono ?_; rintro x w1 ⟨p', v', rfl, hp, hC, hv, hT⟩; obtain ⟨b, off, k, rfl, hb, hn, hc⟩ := key _ _ _ hp; have HC := Lib.hid hC; have HV := Lib.hid hv; have HT := Lib.hid hT; clear hC hv hT hp)
      have c1 : w1.cell? ⟨rb, 1, none⟩ = some (.int .i64 0) := HC.out.cell 1
      go_wp2
      go_ret
      exact ⟨rfl, ⟨_, HC.out, HV.out⟩, HT.out⟩
    · rw [if_neg (by decide), if_pos rfl] at hR
      subst hR
      go_enter Try.func127, Try.ntmps127
      go_upto_region 2 with (go_at_call 109; refine HN.out.mono ?_; rintro x w1 ⟨p', v', rfl, hp, hC, hv, hT⟩; obtain ⟨b, off, k, rfl, hb, hn, hc⟩ := key _ _ _ hp; have HC := Lib.hid hC; have HV := Lib.hid hv; have HT := Lib.hid hT; clear hC hv hT hp)
      have c1 : w1.cell? ⟨rb, 1, none⟩ = some (.int .i64 0) := HC.out.cell 1
      go_wp2
      go_ret
      exact ⟨rfl, ⟨_, HC.out, HV.out⟩, HT.out⟩
    · rw [if_neg (by intro h; have h2 : c = 0 := by simpa using h
                     subst h2; simp at hc1), if_neg (by intro h; have h2 : c = 1 := by simpa using h
                                                        subst h2; simp at hc1)] at hR
      subst hR
      have hg : decide ((1 : Int) < (c.toNat : Int)) = true := decide_eq_true (by omega)
      have hg2 : decide (1 < c.toNat) = true := decide_eq_true hc1
      go_enter Try.func127, Try.ntmps127
      go_upto_region 2 with (go_at_call 109; refine HN.out.mono ?_; rintro x w1 ⟨p', v', rfl, hp, hC, hv, hT⟩; obtain ⟨b, off, k, rfl, hb, hn, hc⟩ := key _ _ _ hp; have HC := Lib.hid hC; have HV := Lib.hid hv; have HT := Lib.hid hT; clear hC hv hT hp)
      have c1 : w1.cell? ⟨rb, 1, none⟩ = some (.int .i64 0) := HC.out.cell 1
      have f1 : w1.frozen? ⟨rb, 1, none⟩ = false := HC.out.frozen 1
      go_wp2
      go_ret
      exact ⟨rfl, ⟨_, CellsAt.set HC.out 1 _, Ty.kept _ HV.out (Kept.setCell _ _ _ hM)⟩, HT.out.setCell (p := ⟨rb, 1, none⟩) (fun _ => rfl) _⟩
    · rw [if_neg (by rintro rfl; simp at hl), if_neg (by rintro rfl; simp at hl)] at hR
      subst hR
      have hl1 : ((p.length : Int) == 1) = false := beq_eq_false_iff_ne.2 (by omega)
      have hl2 : (p.length == 1) = false := beq_eq_false_iff_ne.2 hl
      have hl3 : (p.length = 1) = False := eq_false hl
      have hl4 : decide (p.length = 1) = false := decide_eq_false hl
      have hl5 : ((p.length : Int) != 1) = true := by rw [bne, hl1]; rfl
      have hl6 : (p.length != 1) = true := by rw [bne, hl2]; rfl
      go_enter Try.func127, Try.ntmps127
      go_upto_region 2 with (go_at_call 109; refine HN.out.mono ?_; rintro x w1 ⟨p', v', rfl, hp, hC, hv, hT⟩; obtain ⟨pa, pk, rfl, _⟩ := Ty.slice_val hp; have HC := Lib.hid hC; have HV := Lib.hid hv; have HT := Lib.hid hT; clear hC hv hT hp)
      have c1 : w1.cell? ⟨rb, 1, none⟩ = some (.int .i64 0) := HC.out.cell 1
      have f1 : w1.frozen? ⟨rb, 1, none⟩ = false := HC.out.frozen 1
      generalize p.length = L at *
      go_wp2
      go_ret
      exact ⟨rfl, ⟨_, CellsAt.set HC.out 1 _, Ty.kept _ HV.out (Kept.setCell _ _ _ hM)⟩, HT.out.setCell (p := ⟨rb, 1, none⟩) (fun _ => rfl) _⟩
  · rw [if_pos he] at hR
    subst hR
    have he' : (e1 == 0) = false := beq_eq_false_iff_ne.2 he
    go_enter Try.func127, Try.ntmps127
    go_upto_region 2 with (go_at_call 109; refine HN.out.mono ?_; rintro x w1 ⟨p', v', rfl, hp, hC, hv, hT⟩; obtain ⟨pa, pk, rfl, _⟩ := Ty.slice_val hp; have HC := Lib.hid hC; have HV := Lib.hid hv; have HT := Lib.hid hT; clear hC hv hT hp)
    have c1 : w1.cell? ⟨rb, 1, none⟩ = some (.int .i64 e1) := HC.out.cell 1
    go_wp2
    go_ret
    exact ⟨rfl, ⟨_, HC.out, HV.out⟩, HT.out⟩
end Go.Proofs.Ythflkfgiclcdiaa

namespace Go.Proofs.Ythflkfgiclcdiaa
open Go.RowKit Go.Gr
set_option linter.unusedSimpArgs false
abbrev uv (n : Nat) : Value := .int .u64 (n : Int)
/-- Numbers one behind the other; behind an error noughts. -/
def takesF (p : List UInt8) : Nat → Nat → Int → List Nat × Nat × Int
  | 0, k, e => ([], k, e)
  | n + 1, k, e => if e = 0 then ((takeB p k).1 :: (takesF p n (takeB p k).2.1 (takeB p k).2.2).1, (takesF p n (takeB p k).2.1 (takeB p k).2.2).2) else (0 :: (takesF p n k e).1, (takesF p n k e).2)
theorem takesF_len (p : List UInt8) : ∀ n k e, (takesF p n k e).1.length = n
  | 0, _, _ => rfl
  | n + 1, k, e => by
    unfold takesF
    split
    · simp [takesF_len p n]
    · simp [takesF_len p n]
theorem takesF_err (p : List UInt8) : ∀ n k e, e ≠ 0 → takesF p n k e = (List.replicate n 0, k, e)
  | 0, _, _, _ => rfl
  | n + 1, k, e, h => by
    unfold takesF
    rw [if_neg h, takesF_err p n k e h]
    rfl
def someF (n : Nat) (ps : List (List UInt8)) (e : Int) : List Nat × List (List UInt8) × Int :=
  let s := takesF (nextF ps e).1 n 0 (nextF ps e).2.2
  (s.1, (nextF ps e).2.1, if s.2.2 = 0 ∧ s.2.1 < (nextF ps e).1.length then 3 else s.2.2)
/-- Block ob is a row of just these numbers. -/
def URow (w : World) (ob : Nat) (xs : List Nat) : Prop := w.heap[ob]? = some (.cells (xs.map uv).toArray 29 (0, 0))
theorem URow.at {w : World} {ob k : Nat} {xs : List Nat} (h : URow w ob xs) (hk : k < xs.length) : w.cell? ⟨ob, k, none⟩ = some (uv xs[k]) ∧ w.frozen? ⟨ob, k, none⟩ = false := by
  refine ⟨?_, frozen_of_row w ob k _ _ h⟩
  rw [cell_of_row w ob k _ _ (0, 0) h]
  simp [hk]
theorem URow.set {w : World} {ob k : Nat} {xs : List Nat} (h : URow w ob xs) (x : Nat) : URow (w.setCell ⟨ob, k, none⟩ (uv x)) ob (xs.set k x) := by
  have := heap_setCell_same w ob k _ _ (uv x) h
  unfold URow
  rw [this, List.map_set]
  simp
theorem URow.kept {w w' : World} {ob : Nat} {xs : List Nat} (h : URow w ob xs) (hb : w'.heap[ob]? = w.heap[ob]?) : URow w' ob xs := hb.trans h
theorem URow.lt {w : World} {ob : Nat} {xs : List Nat} (h : URow w ob xs) : ob < w.heap.size := (Array.getElem?_eq_some_iff.1 h).1
theorem made_u64 (n : Nat) (hn : n ≤ 1048576) (W : World) : (Instr.makeSlice 184 (.int .i64 (n : Int)) (.int .i64 (n : Int))).run Try.prog W = .ok (.slice (some ⟨W.heap.size, 0, none⟩) n n) (W.alloc (.cells (madeCells #[.int .u64 0] n) 29)) := by
  obtain ⟨i, h1, h2, h3, h4⟩ := info_parts (show (Try.prog.info? 29).map (fun i => (i.zero, i.size, i.bytes)) = some (some (Value.int .u64 0), 1, 8) by kernel_rfl)
  have := run_make (P := Try.prog) W 184 29 i _ Try.underlying184 h1 h2 .i64 .i64 n n (by omega) (Int.le_refl _) (by rw [h4]; omega) (by omega)
  rw [Int.toNat_natCast, h3, Nat.mul_one] at this
  exact this
theorem made_urow (n : Nat) (W : World) {k : Nat} (hk : k = W.heap.size) : URow (W.alloc (.cells (madeCells #[.int .u64 0] n) 29)) k (List.replicate n 0) := by
  unfold URow
  rw [heap_alloc_at hk]
  congr 2
  apply Array.ext'
  rw [toList_madeCells_one]
  simp
theorem rep_beside {α : Type} {E : Ty α} {w w' : World} {M : Nat → Prop} {cs : List Value} {x : α} {k : Nat} (h : E.rep w M cs x) (hs : Step w w') (hk : w.heap.size ≤ k) : E.rep w' (fun b => M b ∨ b = k) cs x :=
  E.keep h fun b hb hm => ⟨hs.heap hb, fun h => h.elim hm (fun e => by omega)⟩
set_option maxRecDepth 100000 in
set_option maxHeartbeats 4000000 in
theorem rcSome_ {w : World} {M : Nat → Prop} {rb n : Nat} {v : Value} {e : Int} {ps : List (List UInt8)} (h : RcAt w rb v e) (hr : (Ty.slice Ty.bytes).rep w M [v] ps) (hM : M rb) (hn : n ≤ 1048576) :
    Calls Try.prog 123 #[.pointer (some ⟨rb, 0, none⟩), .int .i64 (n : Int)] w fun x w' => ∃ ob, x = .returned (.slice (some ⟨ob, 0, none⟩) n n) ∧ w.heap.size ≤ ob ∧ URow w' ob (someF n ps e).1 ∧
      (∃ v', RcAt w' rb v' (someF n ps e).2.2 ∧ (Ty.slice Ty.bytes).rep w' M [v'] (someF n ps e).2.1) ∧ Turn (· = rb) w w' := by
  have hrb := h.lt
  have H := Lib.hid h
  have HR := Lib.hid hr
  have hmk := made_u64 n hn
  clear h hr
  go_enter Try.func123, Try.ntmps123
  go_upto_region 1 with fail
  go_cut [5, 6, 7] (fun p5 p6 p7 wx => ∃ (ob : Nat) (v' : Value), p6 = .int .i64 0 ∧ p7 = .slice (some ⟨ob, 0, none⟩) n n ∧ w.heap.size ≤ ob ∧ URow wx ob (List.replicate n 0) ∧ ob ≠ rb ∧ Ty.bytes.rep wx (fun b => M b ∨ b = ob) [p5] (nextF ps e).1 ∧
    RcAt wx rb v' (nextF ps e).2.2 ∧ (Ty.slice Ty.bytes).rep wx (fun b => M b ∨ b = ob) [v'] (nextF ps e).2.1 ∧ Turn (· = rb) w wx)
  case first =>
    refine wp_region_held_drew (S := (fun w' => True)) (by kernel_rfl) ?_ (fun hHeld => ?_)
    · (trivial)
    refine wpAnyH_take (i := 0) (v := ?_) rfl (by kernel_rfl) (by kernel_rfl) (by kernel_rfl) (fun _ _ _ h => h) (Or.inl ⟨by rfl, ?_⟩) (by assumption) ?_
    rotate_left 1
    · (intro w hSw; (try dsimp only at hSw); go_simp; (try with_reducible rfl))
    try simp only [Act.put, List.getElem_toArray, List.getElem_cons_succ, List.getElem_cons_zero, List.setIfInBounds_toArray, List.set_cons_zero, List.set_cons_succ]
    refine wpAnyH_take (i := 2) (v := ?_) rfl (by kernel_rfl) (by kernel_rfl) (by kernel_rfl) (fun _ _ _ h => h) (Or.inl ⟨by rfl, ?_⟩) (by assumption) ?_
    rotate_left 1
    · (intro w hSw; (try dsimp only at hSw); go_simp; (try with_reducible rfl))
    try simp only [Act.put, List.getElem_toArray, List.getElem_cons_succ, List.getElem_cons_zero, List.setIfInBounds_toArray, List.set_cons_zero, List.set_cons_succ]
    refine wpAnyH_ready (rs := [1, 3]) (by kernel_rfl) (by simp) ?_
    refine AllReadyH.cons rfl (fun K hK => ?_) (AllReadyH.cons rfl (fun K hK => ?_) AllReadyH.nil)
    · try simp only [List.getElem_toArray, List.getElem_cons_succ, List.getElem_cons_zero]
      go_simp
      (go_at_call 109; refine (rcNext_ (M := fun b => M b ∨ b = w.heap.size) (CellsAt.step H.out (by (repeat (first | exact Step.refl _ | refine Step.alloc ?_ _ | refine Step.drew ?_ | refine Step.drewN ?_ _ | refine Step.setCell ?_ (by first | exact Nat.le_refl _ | assumption | omega | (simp; done) | (simp; omega)) _ | assumption | refine Step.trans ?_ (by assumption : Step _ _))))) (rep_beside HR.out (by (repeat (first | exact Step.refl _ | refine Step.alloc ?_ _ | refine Step.drew ?_ | refine Step.drewN ?_ _ | refine Step.setCell ?_ (by first | exact Nat.le_refl _ | assumption | omega | (simp; done) | (simp; omega)) _ | assumption | refine Step.trans ?_ (by assumption : Step _ _)))) (Nat.le_refl _)) (.inl hM)).mono ?_; rintro x w1 ⟨p', v', rfl, hp, hC, hv, hT⟩; have HP := Lib.hid hp; have HC := Lib.hid hC; have HV := Lib.hid hv; clear hp hC hv)
      refine hK.out _ _ ?_ (fun hHeld => ?_)
      · (trivial)
      clear hK K
      try simp only [Act.put, List.getElem_toArray, List.getElem_cons_succ, List.getElem_cons_zero, List.setIfInBounds_toArray, List.set_cons_zero, List.set_cons_succ]
      refine wpAnyH_take (i := 4) (v := ?_) rfl (by kernel_rfl) (by kernel_rfl) (by kernel_rfl) (fun _ _ _ h => h) (Or.inl ⟨by rfl, ?_⟩) (by assumption) ?_
      rotate_left 1
      · (intro w hSw; (try dsimp only at hSw); go_simp; (try with_reducible rfl))
      try simp only [Act.put, List.getElem_toArray, List.getElem_cons_succ, List.getElem_cons_zero, List.setIfInBounds_toArray, List.set_cons_zero, List.set_cons_succ]
      refine wpAnyH_take (i := 5) (v := ?_) rfl (by kernel_rfl) (by kernel_rfl) (by kernel_rfl) (fun _ _ _ h => h) (Or.inl ⟨by rfl, ?_⟩) (by assumption) ?_
      rotate_left 1
      · (intro w hSw; (try dsimp only at hSw); go_simp; (try with_reducible rfl))
      try simp only [Act.put, List.getElem_toArray, List.getElem_cons_succ, List.getElem_cons_zero, List.setIfInBounds_toArray, List.set_cons_zero, List.set_cons_succ]
      refine wpAnyH_ready (rs := [3]) (by kernel_rfl) (by simp) ?_
      refine AllReadyH.cons rfl (fun K hK => ?_) AllReadyH.nil
      try simp only [List.getElem_toArray, List.getElem_cons_succ, List.getElem_cons_zero]
      go_simp
      refine hK.out _ _ ?_ (fun hHeld => ?_)
      · (trivial)
      clear hK K
      try simp only [Act.put, List.getElem_toArray, List.getElem_cons_succ, List.getElem_cons_zero, List.setIfInBounds_toArray, List.set_cons_zero, List.set_cons_succ]
      refine wpAnyH_take (i := 6) (v := ?_) rfl (by kernel_rfl) (by kernel_rfl) (by kernel_rfl) (fun _ _ _ h => h) (Or.inl ⟨by rfl, ?_⟩) (by assumption) ?_
      rotate_left 1
      · (intro w hSw; (try dsimp only at hSw); go_simp; (try with_reducible rfl))
      try simp only [Act.put, List.getElem_toArray, List.getElem_cons_succ, List.getElem_cons_zero, List.setIfInBounds_toArray, List.set_cons_zero, List.set_cons_succ]
      refine wpAnyH_done (by kernel_rfl) ?_ _
      go_wp2_with fail
      go_meet
      case rel =>
        have hTT : Turn (· = rb) w w1 := (Turn.of (by (repeat (first | exact Step.refl _ | refine Step.alloc ?_ _ | refine Step.drew ?_ | refine Step.drewN ?_ _ | refine Step.setCell ?_ (by first | exact Nat.le_refl _ | assumption | omega | (simp; done) | (simp; omega)) _ | assumption | refine Step.trans ?_ (by assumption : Step _ _))))).trans hT
        have hz := hTT.size
        first
        | exact ⟨w1.heap.size, v', rfl, rfl, hz, made_urow n w1 rfl, by omega, Ty.step _ (Ty.less _ HP.out (fun b hb hm => hm.elim .inl (fun e => by omega))) (by (repeat (first | exact Step.refl _ | refine Step.alloc ?_ _ | refine Step.drew ?_ | refine Step.drewN ?_ _ | refine Step.setCell ?_ (by first | exact Nat.le_refl _ | assumption | omega | (simp; done) | (simp; omega)) _ | assumption | refine Step.trans ?_ (by assumption : Step _ _)))), CellsAt.step HC.out (by (repeat (first | exact Step.refl _ | refine Step.alloc ?_ _ | refine Step.drew ?_ | refine Step.drewN ?_ _ | refine Step.setCell ?_ (by first | exact Nat.le_refl _ | assumption | omega | (simp; done) | (simp; omega)) _ | assumption | refine Step.trans ?_ (by assumption : Step _ _)))), Ty.step _ (Ty.less _ HV.out (fun b hb hm => hm.elim .inl (fun e => by omega))) (by (repeat (first | exact Step.refl _ | refine Step.alloc ?_ _ | refine Step.drew ?_ | refine Step.drewN ?_ _ | refine Step.setCell ?_ (by first | exact Nat.le_refl _ | assumption | omega | (simp; done) | (simp; omega)) _ | assumption | refine Step.trans ?_ (by assumption : Step _ _)))), hTT.then (by (repeat (first | exact Step.refl _ | refine Step.alloc ?_ _ | refine Step.drew ?_ | refine Step.drewN ?_ _ | refine Step.setCell ?_ (by first | exact Nat.le_refl _ | assumption | omega | (simp; done) | (simp; omega)) _ | assumption | refine Step.trans ?_ (by assumption : Step _ _))))⟩
        | exact ⟨w.heap.size, v', rfl, rfl, Nat.le_refl _, (made_urow n w rfl).kept (hT.block _ (by simp) (by omega)), by omega, HP.out, HC.out, HV.out, hTT⟩
    · try simp only [List.getElem_toArray, List.getElem_cons_succ, List.getElem_cons_zero]
      go_simp
      refine hK.out _ _ ?_ (fun hHeld => ?_)
      · (trivial)
      clear hK K
      try simp only [Act.put, List.getElem_toArray, List.getElem_cons_succ, List.getElem_cons_zero, List.setIfInBounds_toArray, List.set_cons_zero, List.set_cons_succ]
      refine wpAnyH_ready (rs := [1]) (by kernel_rfl) (by simp) ?_
      refine AllReadyH.cons rfl (fun K hK => ?_) AllReadyH.nil
      try simp only [List.getElem_toArray, List.getElem_cons_succ, List.getElem_cons_zero]
      go_simp
      (go_at_call 109; refine (rcNext_ (M := fun b => M b ∨ b = w.heap.size) (CellsAt.step H.out (by (repeat (first | exact Step.refl _ | refine Step.alloc ?_ _ | refine Step.drew ?_ | refine Step.drewN ?_ _ | refine Step.setCell ?_ (by first | exact Nat.le_refl _ | assumption | omega | (simp; done) | (simp; omega)) _ | assumption | refine Step.trans ?_ (by assumption : Step _ _))))) (rep_beside HR.out (by (repeat (first | exact Step.refl _ | refine Step.alloc ?_ _ | refine Step.drew ?_ | refine Step.drewN ?_ _ | refine Step.setCell ?_ (by first | exact Nat.le_refl _ | assumption | omega | (simp; done) | (simp; omega)) _ | assumption | refine Step.trans ?_ (by assumption : Step _ _)))) (Nat.le_refl _)) (.inl hM)).mono ?_; rintro x w1 ⟨p', v', rfl, hp, hC, hv, hT⟩; have HP := Lib.hid hp; have HC := Lib.hid hC; have HV := Lib.hid hv; clear hp hC hv)
      refine hK.out _ _ ?_ (fun hHeld => ?_)
      · (trivial)
      clear hK K
      try simp only [Act.put, List.getElem_toArray, List.getElem_cons_succ, List.getElem_cons_zero, List.setIfInBounds_toArray, List.set_cons_zero, List.set_cons_succ]
      refine wpAnyH_take (i := 4) (v := ?_) rfl (by kernel_rfl) (by kernel_rfl) (by kernel_rfl) (fun _ _ _ h => h) (Or.inl ⟨by rfl, ?_⟩) (by assumption) ?_
      rotate_left 1
      · (intro w hSw; (try dsimp only at hSw); go_simp; (try with_reducible rfl))
      try simp only [Act.put, List.getElem_toArray, List.getElem_cons_succ, List.getElem_cons_zero, List.setIfInBounds_toArray, List.set_cons_zero, List.set_cons_succ]
      refine wpAnyH_take (i := 5) (v := ?_) rfl (by kernel_rfl) (by kernel_rfl) (by kernel_rfl) (fun _ _ _ h => h) (Or.inl ⟨by rfl, ?_⟩) (by assumption) ?_
      rotate_left 1
      · (intro w hSw; (try dsimp only at hSw); go_simp; (try with_reducible rfl))
      try simp only [Act.put, List.getElem_toArray, List.getElem_cons_succ, List.getElem_cons_zero, List.setIfInBounds_toArray, List.set_cons_zero, List.set_cons_succ]
      refine wpAnyH_take (i := 6) (v := ?_) rfl (by kernel_rfl) (by kernel_rfl) (by kernel_rfl) (fun _ _ _ h => h) (Or.inl ⟨by rfl, ?_⟩) (by assumption) ?_
      rotate_left 1
      · (intro w hSw; (try dsimp only at hSw); go_simp; (try with_reducible rfl))
      try simp only [Act.put, List.getElem_toArray, List.getElem_cons_succ, List.getElem_cons_zero, List.setIfInBounds_toArray, List.set_cons_zero, List.set_cons_succ]
      refine wpAnyH_done (by kernel_rfl) ?_ _
      go_wp2_with fail
      go_meet
      case rel =>
        have hTT : Turn (· = rb) w w1 := (Turn.of (by (repeat (first | exact Step.refl _ | refine Step.alloc ?_ _ | refine Step.drew ?_ | refine Step.drewN ?_ _ | refine Step.setCell ?_ (by first | exact Nat.le_refl _ | assumption | omega | (simp; done) | (simp; omega)) _ | assumption | refine Step.trans ?_ (by assumption : Step _ _))))).trans hT
        have hz := hTT.size
        first
        | exact ⟨w1.heap.size, v', rfl, rfl, hz, made_urow n w1 rfl, by omega, Ty.step _ (Ty.less _ HP.out (fun b hb hm => hm.elim .inl (fun e => by omega))) (by (repeat (first | exact Step.refl _ | refine Step.alloc ?_ _ | refine Step.drew ?_ | refine Step.drewN ?_ _ | refine Step.setCell ?_ (by first | exact Nat.le_refl _ | assumption | omega | (simp; done) | (simp; omega)) _ | assumption | refine Step.trans ?_ (by assumption : Step _ _)))), CellsAt.step HC.out (by (repeat (first | exact Step.refl _ | refine Step.alloc ?_ _ | refine Step.drew ?_ | refine Step.drewN ?_ _ | refine Step.setCell ?_ (by first | exact Nat.le_refl _ | assumption | omega | (simp; done) | (simp; omega)) _ | assumption | refine Step.trans ?_ (by assumption : Step _ _)))), Ty.step _ (Ty.less _ HV.out (fun b hb hm => hm.elim .inl (fun e => by omega))) (by (repeat (first | exact Step.refl _ | refine Step.alloc ?_ _ | refine Step.drew ?_ | refine Step.drewN ?_ _ | refine Step.setCell ?_ (by first | exact Nat.le_refl _ | assumption | omega | (simp; done) | (simp; omega)) _ | assumption | refine Step.trans ?_ (by assumption : Step _ _)))), hTT.then (by (repeat (first | exact Step.refl _ | refine Step.alloc ?_ _ | refine Step.drew ?_ | refine Step.drewN ?_ _ | refine Step.setCell ?_ (by first | exact Nat.le_refl _ | assumption | omega | (simp; done) | (simp; omega)) _ | assumption | refine Step.trans ?_ (by assumption : Step _ _))))⟩
        | exact ⟨w.heap.size, v', rfl, rfl, Nat.le_refl _, (made_urow n w rfl).kept (hT.block _ (by simp) (by omega)), by omega, HP.out, HC.out, HV.out, hTT⟩
  case rest =>
    obtain ⟨ob, v1, rfl, rfl, hob, hU, hobne, hP, hC, hV, hT⟩ := hcut
    obtain ⟨pa, pk, hp5, _, _, hpl⟩ := Ty.slice_val hP
    subst hp5
    rw [lim_eq] at hpl
    have HP := Lib.hid hP
    have HV := Lib.hid hV
    have HT := Lib.hid hT
    have HC0 := Lib.hid hC
    have HU0 := Lib.hid hU
    have hobl := hU.lt
    have hrbc := hC.lt
    have hF2 : someF n ps e = ((takesF (nextF ps e).1 n 0 (nextF ps e).2.2).1, (nextF ps e).2.1, if (takesF (nextF ps e).1 n 0 (nextF ps e).2.2).2.2 = 0 ∧ (takesF (nextF ps e).1 n 0 (nextF ps e).2.2).2.1 < (nextF ps e).1.length then 3 else (takesF (nextF ps e).1 n 0 (nextF ps e).2.2).2.2) := rfl
    clear hP hV hT hC hU H HR hmk
    generalize nextF ps e = N at *
    obtain ⟨p, r, e1⟩ := N
    simp only at hF2 HP HV HC0 hpl
    obtain ⟨S, hS⟩ : ∃ S, S = takesF p n 0 e1 := ⟨_, rfl⟩
    rw [← hS] at hF2
    have HF2 := Lib.hid hF2
    have HS := Lib.hid hS
    clear hF2 hS
    go_wp2
    go_loopw [6, 15] (fun at_ i w' => ∃ (k a : Nat) (pre : List Nat) (e2 : Int), i = .int .i64 k ∧ k ≤ n ∧ at_ = .int .i64 (a : Int) ∧ a ≤ p.length ∧ Hid (pre.length = k) ∧ Hid (S = (pre ++ (takesF p (n - k) a e2).1, (takesF p (n - k) a e2).2)) ∧ Hid (URow w' ob (pre ++ List.replicate (n - k) 0)) ∧ Hid (RcAt w' rb v1 e2) ∧ Hid (Turn (fun b => b = rb ∨ b = ob) wc w')) (fun _ i _ => n - (Go.RowKit.intOf i).toNat)
    case atStart => exact ⟨0, 0, [], e1, rfl, by omega, rfl, Nat.zero_le _, Lib.hid rfl, Lib.hid (by rw [HS.out]; simp), Lib.hid (by simpa using HU0.out), HC0, Lib.hid (Turn.refl _ _)⟩
    case round =>
      obtain ⟨k, a, pre, e2, rfl, hk, rfl, ha, hpre, hSS, hU, hC, hT⟩ := hrel
      have hPr := Ty.kept (M := fun b => M b ∨ b = ob) _ HP.out (hT.out.kept.mono (fun b hb => hb.elim (fun h => .inl (h ▸ hM)) .inr))
      have HPr := Lib.hid hPr
      have c1 : wr.cell? ⟨rb, 1, none⟩ = some (.int .i64 e2) := hC.out.cell 1
      have f1 : wr.frozen? ⟨rb, 1, none⟩ = false := hC.out.frozen 1
      clear hPr
      by_cases hlt : k < n
      · obtain ⟨d, hd⟩ : ∃ d, n - k = d + 1 := ⟨n - k - 1, by omega⟩
        have hd2 : n - (k + 1) = d := by omega
        have HD2 := Lib.hid hd2
        rw [hd] at hSS hU
        have hkl : k < (pre ++ List.replicate (d + 1) 0).length := by rw [List.length_append, List.length_replicate, hpre.out]; omega
        obtain ⟨o1, o2⟩ := hU.out.at hkl
        have hset : ∀ x, (pre ++ List.replicate (d + 1) 0).set k x = (pre ++ [x]) ++ List.replicate d 0 := fun x => by
          rw [List.set_append_right _ _ (by rw [hpre.out]; exact Nat.le_refl _), hpre.out, Nat.sub_self, List.replicate_succ]
          simp
        have HSET := Lib.hid hset
        have o1' : ∃ z, wr.cell? ⟨ob, k, none⟩ = some z := ⟨_, o1⟩
        clear o1 hset hkl
        obtain ⟨z, o1⟩ := o1'
        by_cases he : e2 = 0
        · subst he
          have HTK := Lib.hid (Take_ HPr.out ha)
          have hST : S = (pre ++ ((takeB p a).1 :: (takesF p d (takeB p a).2.1 (takeB p a).2.2).1), (takesF p d (takeB p a).2.1 (takeB p a).2.2).2) := by
            rw [hSS.out, takesF, if_pos rfl]
          have hal : (takeB p a).2.1 ≤ p.length := by
            by_cases h0 : (takeB p a).2.2 = 0
            · exact (takeB_ok h0).2.1
            · unfold takeB at h0 ⊢
              split at h0
              · rename_i q1
                rw [if_pos q1]
                split at h0
                · simp at h0
                · rename_i q2
                  rw [if_neg q2]
                  split at h0
                  · rename_i q3; rw [if_pos q3]; exact Nat.zero_le _
                  · rename_i q3
                    rw [if_neg q3]
                    split at h0
                    · rename_i q4; rw [if_pos q4]; exact Nat.zero_le _
                    · simp at h0
              · rename_i q1; rw [if_neg q1]; exact Nat.zero_le _
          have HST := Lib.hid hST
          clear hST
          generalize takeB p a = T at *
          obtain ⟨t1, t2, t3⟩ := T
          simp only at HTK HST hal
          have hne1 : ¬ ob = rb := hobne
          have hne2 : ¬ rb = ob := fun e => hobne e.symm
          go_wp2_with (go_at_call 108; refine HTK.out.mono ?_; rintro x w3 ⟨rfl, rfl⟩)
          go_roundw
          case rel =>
            refine ⟨k + 1, t2, pre ++ [t1], t3, by go_num, by omega, rfl, hal, Lib.hid (by simp [hpre.out]), Lib.hid ?_, Lib.hid ?_, Lib.hid ?_, Lib.hid ?_⟩
            · rw [HD2.out, HST.out]; simp
            · rw [HD2.out, ← HSET.out t1]
              exact (hU.out.set t1).kept (heap_setCell_other _ _ _ _ hne1)
            · exact CellsAt.set (hC.out.kept (heap_setCell_other _ _ _ _ hne2)) 1 _
            · exact (hT.out.setCell (p := ⟨ob, k, none⟩) (fun _ => .inr rfl) _).setCell (p := ⟨rb, 1, none⟩) (fun _ => .inl rfl) _
          case measure => simp [Go.RowKit.intOf]; omega
        · have he' : (e2 == 0) = false := beq_eq_false_iff_ne.2 he
          go_wp2
          go_roundw
          case rel =>
            refine ⟨k + 1, a, pre ++ [0], e2, by go_num, by omega, rfl, ha, Lib.hid (by simp [hpre.out]), Lib.hid ?_, Lib.hid ?_, hC, hT⟩
            · rw [HD2.out, hSS.out, takesF, if_neg he]; simp
            · rw [HD2.out]
              have := hU.out
              rw [List.replicate_succ] at this
              simpa using this
          case measure => simp [Go.RowKit.intOf]; omega
      · obtain rfl : k = n := by omega
        rw [Nat.sub_self] at hSS hU
        have hS0 : S = (pre, a, e2) := by rw [hSS.out]; simp [takesF]
        have hFE := HF2.out
        rw [hS0] at hFE
        simp only at hFE
        have hU' : Hid (URow wr ob pre) := Lib.hid (by simpa using hU.out)
        have hVr := Lib.hid (Ty.less (M' := M) _ (Ty.kept (M := fun b => M b ∨ b = ob) _ HV.out (hT.out.kept.mono (fun b hb => hb.elim (fun h => .inl (h ▸ hM)) .inr))) (fun b _ hb => .inl hb))
        have hTw : Hid (Turn (· = rb) w wr) := Lib.hid ⟨hT.out.os.trans HT.out.os, hT.out.tape.trans HT.out.tape, hT.out.output.trans HT.out.output, Nat.le_trans HT.out.size hT.out.size, fun b hb hm => (hT.out.block b (Nat.lt_of_lt_of_le hb HT.out.size) (fun h => h.elim hm (fun h => by omega))).trans (HT.out.block b hb hm)⟩
        clear hSS hU HF2 hS0
        by_cases he : e2 = 0
        · subst he
          by_cases hal : a < p.length
          · rw [if_pos ⟨rfl, hal⟩] at hFE
            have HFE := Lib.hid hFE
            have hd : decide ((a : Int) < (p.length : Int)) = true := decide_eq_true (by omega)
            clear hFE
            generalize p.length = L at *
            go_wp2
            go_ret
            rw [HFE.out]
            exact ⟨ob, rfl, hob, hU'.out.kept (heap_setCell_other _ _ _ _ (show ob ≠ rb from hobne)), ⟨v1, CellsAt.set hC.out 1 _, Ty.kept _ hVr.out (Kept.setCell _ _ _ hM)⟩, hTw.out.setCell (p := ⟨rb, 1, none⟩) (fun _ => rfl) _⟩
          · rw [if_neg (fun h => hal h.2)] at hFE
            have HFE := Lib.hid hFE
            have hd : decide ((a : Int) < (p.length : Int)) = false := decide_eq_false (by omega)
            clear hFE
            generalize p.length = L at *
            go_wp2
            go_ret
            rw [HFE.out]
            exact ⟨ob, rfl, hob, hU'.out, ⟨v1, hC.out, hVr.out⟩, hTw.out⟩
        · rw [if_neg (fun h => he h.1)] at hFE
          have HFE := Lib.hid hFE
          have he' : (e2 == 0) = false := beq_eq_false_iff_ne.2 he
          clear hFE
          go_wp2
          go_ret
          rw [HFE.out]
          exact ⟨ob, rfl, hob, hU'.out, ⟨v1, hC.out, hVr.out⟩, hTw.out⟩
end Go.Proofs.Ythflkfgiclcdiaa

namespace Go.Proofs.Ythflkfgiclcdiaa
open Go.RowKit Go.Gr
set_option linter.unusedSimpArgs false
theorem stU64 : SliceTy Try.prog 184 29 Ty.u64.n := .mk' (z := .int .u64 0) (by_ := 8) Try.underlying184 (by kernel_rfl) rfl (by decide) (by omega)
/-- What is left to be done: nothing behind an error. -/
def leftM (W : World) (rb L a : Nat) : Nat := match W.cell? ⟨rb, 1, none⟩ with
  | some (.int _ z) => if z = 0 then L + 1 - a else 0
  | _ => 0
theorem leftM_at {W : World} {rb L a : Nat} {z : Int} (h : W.cell? ⟨rb, 1, none⟩ = some (.int .i64 z)) : leftM W rb L a = if z = 0 then L + 1 - a else 0 := by
  unfold leftM
  rw [h]
set_option maxRecDepth 100000 in
set_option maxHeartbeats 4000000 in
theorem rcAll_ {w : World} {M : Nat → Prop} {rb : Nat} {v : Value} {e : Int} {ps : List (List UInt8)} (h : RcAt w rb v e) (hr : (Ty.slice Ty.bytes).rep w M [v] ps) (hM : M rb) :
    Calls Try.prog 128 #[.pointer (some ⟨rb, 0, none⟩)] w fun x w' => ∃ v' out, x = .returned v' ∧ Own Ty.u64 29 w' (fun _ => False) w.heap.size v' out ∧
      (∃ v1 e2, RcAt w' rb v1 e2 ∧ (Ty.slice Ty.bytes).rep w' M [v1] (nextF ps e).2.1) ∧ Turn (· = rb) w w' := by
  have hrb := h.lt
  have HN := Lib.hid (rcNext_ h hr hM)
  clear h hr
  generalize nextF ps e = N at *
  obtain ⟨p, r, e1⟩ := N
  simp only at HN ⊢
  go_enter Try.func128, Try.ntmps128
  go_upto_region 3 with (go_at_call 109; refine HN.out.mono ?_; rintro x w1 ⟨p', v', rfl, hp, hC, hv, hT⟩; obtain ⟨pa, pk, rfl, _, _, hpl⟩ := Ty.slice_val hp; have HP := Lib.hid hp; have HC0 := Lib.hid hC; have HV := Lib.hid hv; have HT := Lib.hid hT; have hrb1 := hC.lt; clear hC hv hT hp)
  have hz1 := HT.out.size
  rw [lim_eq] at hpl
  clear HN
  go_wp2
  go_loopw [3, 5] (fun o i w' => ∃ (a : Nat) (out : List Nat) (e2 : Int), i = .int .i64 (a : Int) ∧ a ≤ p.length ∧ (e2 = 0 → out.length ≤ a) ∧ Hid (Own Ty.u64 29 w' (fun _ => False) w1.heap.size o out) ∧ Hid (RcAt w' rb v' e2) ∧ Hid (Turn (· = rb) w1 w')) (fun _ i W => leftM W rb p.length (Go.RowKit.intOf i).toNat)
  case atStart => exact ⟨0, [], e1, rfl, Nat.zero_le _, fun _ => Nat.le_refl _, Lib.hid Own.nil, HC0, Lib.hid (Turn.refl _ _)⟩
  case round =>
    obtain ⟨a, out, e2, rfl, ha, hol, hA, hC, hT⟩ := hrel
    have c1 : wr.cell? ⟨rb, 1, none⟩ = some (.int .i64 e2) := hC.out.cell 1
    have f1 : wr.frozen? ⟨rb, 1, none⟩ = false := hC.out.frozen 1
    have hz2 := hT.out.size
    by_cases hgo : e2 = 0 ∧ a < p.length
    · obtain ⟨rfl, hal⟩ := hgo
      have hol' := hol rfl
      have HPr := Lib.hid (Ty.kept _ HP.out (hT.out.kept.mono (fun b hb => by subst hb; exact hM)))
      have HTK := Lib.hid (Take_ HPr.out ha)
      have hd : decide ((a : Int) < (p.length : Int)) = true := decide_eq_true (by omega)
      have hok := takeB_ok (b := p) (k := a)
      have hall : (takeB p a).2.1 ≤ p.length ∧ (takeB p a).1 < 18446744073709551616 := by
        by_cases h0 : (takeB p a).2.2 = 0
        · exact (hok h0).2
        · have hz : (takeB p a).1 = 0 ∧ (takeB p a).2.1 = 0 := by
            unfold takeB at h0 ⊢
            rw [if_pos hal] at h0 ⊢
            split at h0
            · simp at h0
            · rename_i q2
              rw [if_neg q2]
              split at h0
              · rename_i q3; rw [if_pos q3]; exact ⟨rfl, rfl⟩
              · rename_i q3
                rw [if_neg q3]
                split at h0
                · rename_i q4; rw [if_pos q4]; exact ⟨rfl, rfl⟩
                · simp at h0
          rw [hz.1, hz.2]
          exact ⟨Nat.zero_le _, by decide⟩
      have hlm := leftM_at (L := p.length) (a := a) c1
      have HLM := Lib.hid hlm
      clear hol hlm
      generalize takeB p a = T at *
      obtain ⟨t1, t2, t3⟩ := T
      simp only at HTK hok hall
      have hok' := Lib.hid hok
      clear hok
      go_wp2_with (first
        | (go_at_call 108; refine HTK.out.mono ?_; rintro x w3 ⟨rfl, rfl⟩)
        | (at_builtin; refine wpList_append_gen (E := Ty.u64) (B := w1.heap.size) (M := fun _ => False) (ys := [t1]) rfl (.tmp 30) (.tmp 32) rfl stU64 (hA.out.alloc _) (Src.oneAt (E := Ty.u64) (by simp) ⟨rfl, hall.2⟩) (by rw [lim_eq]; simp; omega) (by simp; omega) rfl rfl ?_; intro v4 w4 hA4 hG4 _; have hC4 := (CellsAt.step hC.out ((Step.refl _).alloc _)).kept (hG4.block rb (by simp; omega) (fun e => by have h1 := (hA.out.lt e.symm).1; omega)); have k1 : w4.cell? ⟨rb, 1, none⟩ = some (.int .i64 0) := hC4.cell 1; have g1 : w4.frozen? ⟨rb, 1, none⟩ = false := hC4.frozen 1; have HT4 := Lib.hid (Turn.grown (hT.out.then ((Step.refl _).alloc _)) hG4 (fun g hg hlt => by have h1 := (hA.out.lt hg).1; omega)); have HC4 := Lib.hid hC4; have HA4 := Lib.hid hA4; clear hA4 hG4 hC4))
      go_roundw
      case rel => exact ⟨t2, out ++ [t1], t3, rfl, hall.1, fun h => by have := (hok'.out h).1; simp; omega, Lib.hid (Own.flat (E := Ty.u64) (fun h => h) (Own.set (M := (· = rb)) (Own.flat (E := Ty.u64) (fun h => h) HA4.out) rfl (by show rb < w1.heap.size; exact hrb1) _)), Lib.hid (CellsAt.set HC4.out 1 _), Lib.hid (HT4.out.setCell (p := ⟨rb, 1, none⟩) (fun _ => rfl) _)⟩
      case measure =>
        have hm1 : leftM (w4.setCell ⟨rb, 1, none⟩ (.int .i64 t3)) rb p.length t2 = if t3 = 0 then p.length + 1 - t2 else 0 := leftM_at (World.cell?_setCell_same _ _ _ k1)
        have hm2 := HLM.out
        simp only [if_true] at hm2
        have e1 : (Go.RowKit.intOf (Value.int .i64 (t2 : Int))).toNat = t2 := by simp [Go.RowKit.intOf]
        have e2 : (Go.RowKit.intOf (Value.int .i64 (a : Int))).toNat = a := by simp [Go.RowKit.intOf]
        rw [e1, e2, hm1, hm2]
        split
        · rename_i h3
          have := (hok'.out h3).1
          omega
        · omega
    · have hVr := Lib.hid (Ty.kept _ HV.out (hT.out.kept.mono (fun b hb => by subst hb; exact hM)))
      have hTw := Lib.hid (HT.out.trans hT.out)
      have HAB := Lib.hid (Own.base hA.out hz1)
      clear hol
      by_cases he : e2 = 0
      · subst he
        have hal : ¬ a < p.length := fun h => hgo ⟨rfl, h⟩
        have hd : decide ((a : Int) < (p.length : Int)) = false := decide_eq_false (by omega)
        have hd2 : decide (a < p.length) = false := decide_eq_false hal
        clear hgo
        generalize p.length = L at *
        go_wp2
        go_ret
        exact ⟨_, out, rfl, HAB.out, ⟨_, _, hC.out, hVr.out⟩, hTw.out⟩
      · have he' : (e2 == 0) = false := beq_eq_false_iff_ne.2 he
        clear hgo
        go_wp2
        go_ret
        exact ⟨_, out, rfl, HAB.out, ⟨_, _, hC.out, hVr.out⟩, hTw.out⟩
end Go.Proofs.Ythflkfgiclcdiaa

namespace Go.Proofs.Ythflkfgiclcdiaa
open Go.RowKit Go.Gr
set_option linter.unusedSimpArgs false
/-- A record's cells. -/
def recC (kind : Int) (x : DTxn) (vw vr : Value) (cm : Bool) (vs vy : Value) (id : Nat) (nm : ByteArray) : Array Value :=
  #[.int .i64 kind, .int .u64 (x.boot : Int), .int .u64 (x.session : Int), .int .u64 (x.seq : Int), vw, vr, .bool cm, vs, vy, .int .u64 (id : Int), .string nm]
set_option maxRecDepth 100000 in
set_option maxHeartbeats 2000000 in
theorem rcField1_ {W : World} {M : Nat → Prop} {B ob bx : Nat} {kind : Int} {x : DTxn} {vw vr : Value} {cm g : Bool} {vs vy kv vv : Value} {id : Nat} {nm : ByteArray} {ws : List DWrite} {key value : List UInt8} (hC : CellsAt W ob (recC kind x vw vr cm vs vy id nm) 154)
    (hb : W.cell? ⟨bx, 0, none⟩ = some (.pointer (some ⟨ob, 0, none⟩))) (hA : Own tWrite 74 W M B vw ws) (hMo : M ob) (hoB : ob < B) (hB : B ≤ W.heap.size) (hbB : bx < B)
    (hk : Ty.bytes.rep W (fun b => M b ∨ vw.ownBlock = some b) [kv] key) (hv : Ty.bytes.rep W (fun b => M b ∨ vw.ownBlock = some b) [vv] value) (hl : ws.length + 1 ≤ lim) :
    Calls Try.prog 125 #[.bool g, kv, vv, .pointer (some ⟨bx, 0, none⟩)] W fun e w' => e = .returned (.tuple #[]) ∧ (∃ vw', CellsAt w' ob (recC kind x vw' vr cm vs vy id nm) 154 ∧ Own tWrite 74 w' M B vw' (ws ++ [⟨key, value, g⟩]) ∧ (vw'.ownBlock = vw.ownBlock ∨ vw'.ownBlock = some W.heap.size ∨ ∃ b, vw'.ownBlock = some b ∧ W.heap.size ≤ b)) ∧
      Turn (fun b => b = ob ∨ vw.ownBlock = some b) W w' := by
  have hob := hC.lt
  obtain ⟨wa, wn, wc, rfl, HWN⟩ := hA.valN
  obtain ⟨ka, kc, rfl, _⟩ := Ty.slice_val hk
  obtain ⟨va, vc, rfl, _⟩ := Ty.slice_val hv
  have p4 : W.cell? ⟨ob, 4, none⟩ = some (.slice wa wn wc) := hC.cell 4
  have f4 : W.frozen? ⟨ob, 4, none⟩ = false := hC.frozen 4
  have hbl := lt_of_cell hb
  have HC := Lib.hid hC
  have HA := Lib.hid hA
  have HK := Lib.hid hk
  have HV := Lib.hid hv
  clear hC hA hk hv
  go_enter Try.func125, Try.ntmps125
  go_upto_region 0 with fail
  refine wp_region_cut (S := (fun w' => w'.cell? ⟨bx, 0, none⟩ = some (.pointer (some ⟨ob, 0, none⟩)) ∧ w'.cell? ⟨ob, 4, none⟩ = some (.slice wa wn wc))) 13 (by kernel_rfl) ?_ (fun hHeld => ?_)
  · (go_keep)
  refine wpAnyC_take (i := 0) (v := ?_) rfl (by kernel_rfl) (by kernel_rfl) (by kernel_rfl) (by decide) [11, 12, 13] (by kernel_rfl) (fun _ _ _ h => h) (Or.inl ⟨by rfl, ?_⟩) (by assumption) ?_
  rotate_left 1
  · (intro w hSw; (try dsimp only at hSw); go_simp; (try with_reducible rfl))
  try simp only [Act.put, List.getElem_toArray, List.getElem_cons_succ, List.getElem_cons_zero, List.setIfInBounds_toArray, List.set_cons_zero, List.set_cons_succ]
  refine wpAnyC_take (i := 1) (v := ?_) rfl (by kernel_rfl) (by kernel_rfl) (by kernel_rfl) (by decide) [2, 3, 4, 10, 11, 12, 13] (by kernel_rfl) (fun _ _ _ h => h) (Or.inl ⟨by rfl, ?_⟩) (by assumption) ?_
  rotate_left 1
  · (intro w hSw; (try dsimp only at hSw); go_simp; (try with_reducible rfl))
  try simp only [Act.put, List.getElem_toArray, List.getElem_cons_succ, List.getElem_cons_zero, List.setIfInBounds_toArray, List.set_cons_zero, List.set_cons_succ]
  refine wpAnyC_take (i := 2) (v := ?_) rfl (by kernel_rfl) (by kernel_rfl) (by kernel_rfl) (by decide) [3, 4, 10, 11, 12, 13] (by kernel_rfl) (fun _ _ _ h => h) (Or.inl ⟨by rfl, ?_⟩) (by assumption) ?_
  rotate_left 1
  · (intro w hSw; (try dsimp only at hSw); go_simp; (try with_reducible rfl))
  try simp only [Act.put, List.getElem_toArray, List.getElem_cons_succ, List.getElem_cons_zero, List.setIfInBounds_toArray, List.set_cons_zero, List.set_cons_succ]
  refine wpAnyC_take (i := 3) (v := ?_) rfl (by kernel_rfl) (by kernel_rfl) (by kernel_rfl) (by decide) [4, 10, 11, 12, 13] (by kernel_rfl) (fun _ _ _ h => h) (Or.inl ⟨by rfl, ?_⟩) (by assumption) ?_
  rotate_left 1
  · (intro w hSw; (try dsimp only at hSw); go_simp; (try with_reducible rfl))
  try simp only [Act.put, List.getElem_toArray, List.getElem_cons_succ, List.getElem_cons_zero, List.setIfInBounds_toArray, List.set_cons_zero, List.set_cons_succ]
  refine wpAnyC_take (i := 4) (v := ?_) rfl (by kernel_rfl) (by kernel_rfl) (by kernel_rfl) (by decide) [10, 11, 12, 13] (by kernel_rfl) (fun _ _ _ h => h) (Or.inl ⟨by rfl, ?_⟩) (by assumption) ?_
  rotate_left 1
  · (intro w hSw; (try dsimp only at hSw); go_simp; (try with_reducible rfl))
  try simp only [Act.put, List.getElem_toArray, List.getElem_cons_succ, List.getElem_cons_zero, List.setIfInBounds_toArray, List.set_cons_zero, List.set_cons_succ]
  refine wpAnyC_take (i := 5) (v := ?_) rfl (by kernel_rfl) (by kernel_rfl) (by kernel_rfl) (by decide) [8, 9, 10, 11, 12, 13] (by kernel_rfl) (fun _ _ _ h => h) (Or.inl ⟨by rfl, ?_⟩) (by assumption) ?_
  rotate_left 1
  · (intro w hSw; (try dsimp only at hSw); go_simp; (try with_reducible rfl))
  try simp only [Act.put, List.getElem_toArray, List.getElem_cons_succ, List.getElem_cons_zero, List.setIfInBounds_toArray, List.set_cons_zero, List.set_cons_succ]
  refine wpAnyC_take (i := 6) (v := ?_) rfl (by kernel_rfl) (by kernel_rfl) (by kernel_rfl) (by decide) [8, 9, 10, 11, 12, 13] (by kernel_rfl) (fun _ _ _ h => h) (Or.inl ⟨by rfl, ?_⟩) (by assumption) ?_
  rotate_left 1
  · (intro w hSw; (try dsimp only at hSw); go_simp; (try with_reducible rfl))
  try simp only [Act.put, List.getElem_toArray, List.getElem_cons_succ, List.getElem_cons_zero, List.setIfInBounds_toArray, List.set_cons_zero, List.set_cons_succ]
  refine wpAnyC_take (i := 7) (v := ?_) rfl (by kernel_rfl) (by kernel_rfl) (by kernel_rfl) (by decide) [8, 9, 10, 11, 12, 13] (by kernel_rfl) (fun _ _ _ h => h) (Or.inl ⟨by rfl, ?_⟩) (by assumption) ?_
  rotate_left 1
  · (intro w hSw; (try dsimp only at hSw); go_simp; (try with_reducible rfl))
  try simp only [Act.put, List.getElem_toArray, List.getElem_cons_succ, List.getElem_cons_zero, List.setIfInBounds_toArray, List.set_cons_zero, List.set_cons_succ]
  refine wpAnyC_take (i := 8) (v := ?_) rfl (by kernel_rfl) (by kernel_rfl) (by kernel_rfl) (by decide) [9, 10, 11, 12, 13] (by kernel_rfl) (fun _ _ _ h => h) (Or.inl ⟨by rfl, ?_⟩) (by assumption) ?_
  rotate_left 1
  · (intro w hSw; (try dsimp only at hSw); go_simp; (try with_reducible rfl))
  try simp only [Act.put, List.getElem_toArray, List.getElem_cons_succ, List.getElem_cons_zero, List.setIfInBounds_toArray, List.set_cons_zero, List.set_cons_succ]
  refine wpAnyC_ready (rs := [9]) (by kernel_rfl) (by simp) ?_
  refine AllReadyC.cons rfl (by decide) (fun K hK => ?_) AllReadyC.nil
  try simp only [List.getElem_toArray, List.getElem_cons_succ, List.getElem_cons_zero]
  go_simp
  refine hK.out _ _ ?_ (fun hHeld => ?_)
  · (go_keep)
  clear hK K
  try simp only [Act.put, List.getElem_toArray, List.getElem_cons_succ, List.getElem_cons_zero, List.setIfInBounds_toArray, List.set_cons_zero, List.set_cons_succ]
  refine wpAnyC_ready (rs := [10]) (by kernel_rfl) (by simp) ?_
  refine AllReadyC.cons rfl (by decide) (fun K hK => ?_) AllReadyC.nil
  try simp only [List.getElem_toArray, List.getElem_cons_succ, List.getElem_cons_zero]
  refine ite_then rfl ?_; refine wp_append_gen (E := tWrite) (B := B) (M := M) (ys := [⟨key, value, g⟩]) (.tmp 11) (.tmp 16) rfl stWrites (Own.step HA.out (by (repeat (first | exact Step.refl _ | refine Step.alloc ?_ _ | refine Step.drew ?_ | refine Step.drewN ?_ _ | refine Step.setCell ?_ (by first | exact Nat.le_refl _ | assumption | omega | (simp; done) | (simp; omega)) _ | assumption | refine Step.trans ?_ (by assumption : Step _ _))))) (Src.oneAt (E := tWrite) (by simp) ⟨_, _, rfl, Ty.step _ HK.out (by (repeat (first | exact Step.refl _ | refine Step.alloc ?_ _ | refine Step.drew ?_ | refine Step.drewN ?_ _ | refine Step.setCell ?_ (by first | exact Nat.le_refl _ | assumption | omega | (simp; done) | (simp; omega)) _ | assumption | refine Step.trans ?_ (by assumption : Step _ _)))), Ty.step _ HV.out (by (repeat (first | exact Step.refl _ | refine Step.alloc ?_ _ | refine Step.drew ?_ | refine Step.drewN ?_ _ | refine Step.setCell ?_ (by first | exact Nat.le_refl _ | assumption | omega | (simp; done) | (simp; omega)) _ | assumption | refine Step.trans ?_ (by assumption : Step _ _))))⟩) (by (simp; omega)) (by first | assumption | omega | (simp; done) | (simp; omega)) rfl rfl ?_; intro v6 w6 hA6 hG6 hn6; have hC6 := (CellsAt.step HC.out (by (repeat (first | exact Step.refl _ | refine Step.alloc ?_ _ | refine Step.drew ?_ | refine Step.drewN ?_ _ | refine Step.setCell ?_ (by first | exact Nat.le_refl _ | assumption | omega | (simp; done) | (simp; omega)) _ | assumption | refine Step.trans ?_ (by assumption : Step _ _))))).kept (hG6.block ob (by first | assumption | omega | (simp; done) | (simp; omega)) (fun e => absurd (HA.out.lt e.symm).1 (by omega))); have HT6 := Lib.hid (Turn.grown (M := fun b => b = ob ∨ (Value.slice wa wn wc).ownBlock = some b) (Turn.of (by (repeat (first | exact Step.refl _ | refine Step.alloc ?_ _ | refine Step.drew ?_ | refine Step.drewN ?_ _ | refine Step.setCell ?_ (by first | exact Nat.le_refl _ | assumption | omega | (simp; done) | (simp; omega)) _ | assumption | refine Step.trans ?_ (by assumption : Step _ _))) : Step W _)) hG6 (fun g hg hlt => .inr hg)); have k0 : w6.cell? ⟨bx, 0, none⟩ = some (.pointer (some ⟨ob, 0, none⟩)) := (grown_cell hG6 (by first | assumption | omega | (simp; done) | (simp; omega)) (fun e => absurd (HA.out.lt e).1 (by omega)) 0).trans ((Step.cell (by (repeat (first | exact Step.refl _ | refine Step.alloc ?_ _ | refine Step.drew ?_ | refine Step.drewN ?_ _ | refine Step.setCell ?_ (by first | exact Nat.le_refl _ | assumption | omega | (simp; done) | (simp; omega)) _ | assumption | refine Step.trans ?_ (by assumption : Step _ _)))) hbl 0).trans hb); obtain ⟨b6, n6, m6, rfl, HN6⟩ := hA6.valN; have k4 : w6.cell? ⟨ob, 4, none⟩ = some (.slice wa wn wc) := hC6.cell 4; have g4 : w6.frozen? ⟨ob, 4, none⟩ = false := hC6.frozen 4; have HC6 := Lib.hid hC6; have HA6 := Lib.hid hA6; have HN6' := Lib.hid hn6; clear hA6 hG6 hC6 hn6
  refine hK.out _ _ ?_ (fun hHeld => ?_)
  · (go_keep)
  clear hK K
  try simp only [Act.put, List.getElem_toArray, List.getElem_cons_succ, List.getElem_cons_zero, List.setIfInBounds_toArray, List.set_cons_zero, List.set_cons_succ]
  refine wpAnyC_take (i := 11) (v := ?_) rfl (by kernel_rfl) (by kernel_rfl) (by kernel_rfl) (by decide) [12, 13] (by kernel_rfl) (fun _ _ _ h => h) (Or.inl ⟨by rfl, ?_⟩) (by assumption) ?_
  rotate_left 1
  · (intro w hSw; (try dsimp only at hSw); go_simp; (try with_reducible rfl))
  try simp only [Act.put, List.getElem_toArray, List.getElem_cons_succ, List.getElem_cons_zero, List.setIfInBounds_toArray, List.set_cons_zero, List.set_cons_succ]
  refine wpAnyC_take (i := 12) (v := ?_) rfl (by kernel_rfl) (by kernel_rfl) (by kernel_rfl) (by decide) [13] (by kernel_rfl) (fun _ _ _ h => h) (Or.inl ⟨by rfl, ?_⟩) (by assumption) ?_
  rotate_left 1
  · (intro w hSw; (try dsimp only at hSw); go_simp; (try with_reducible rfl))
  try simp only [Act.put, List.getElem_toArray, List.getElem_cons_succ, List.getElem_cons_zero, List.setIfInBounds_toArray, List.set_cons_zero, List.set_cons_succ]
  refine wpAnyC_ready (rs := [13]) (by kernel_rfl) (by simp) ?_
  refine AllReadyC.cut rfl (fun K hK => ?_)
  try simp only [List.getElem_toArray, List.getElem_cons_succ, List.getElem_cons_zero]
  go_simp
  refine hK.out _ _ trivial (fun hHeld => ?_)
  clear hK K
  try simp only [Act.put, List.getElem_toArray, List.getElem_cons_succ, List.getElem_cons_zero, List.setIfInBounds_toArray, List.set_cons_zero, List.set_cons_succ]
  have hTrue : True := trivial
  refine wpAnyH_done (by kernel_rfl) ?_ _
  refine wp_at (fun W' => W' = w6.setCell ⟨ob, 4, none⟩ (.slice b6 n6 m6) ∨ W' = (w6.setCell ⟨ob, 4, none⟩ (.slice b6 n6 m6)).drew) (by first | exact .inl rfl | exact .inr rfl) ?_
  rintro W' hW'
  have hfin : CellsAt W' ob (recC kind x (.slice b6 n6 m6) vr cm vs vy id nm) 154 ∧ Own tWrite 74 W' M B (.slice b6 n6 m6) (ws ++ [⟨key, value, g⟩]) ∧ Turn (fun b => b = ob ∨ (Value.slice wa wn wc).ownBlock = some b) W W' := by
    have c1 : CellsAt (w6.setCell ⟨ob, 4, none⟩ (.slice b6 n6 m6)) ob (recC kind x (.slice b6 n6 m6) vr cm vs vy id nm) 154 := CellsAt.set HC6.out 4 _
    have c2 := Own.set HA6.out (p := ⟨ob, 4, none⟩) hMo hoB (Value.slice b6 n6 m6)
    have c3 := HT6.out.setCell (p := ⟨ob, 4, none⟩) (fun _ => .inl rfl) (Value.slice b6 n6 m6)
    rcases hW' with rfl | rfl
    · exact ⟨c1, c2, c3⟩
    · exact ⟨c1, c2.drew, c3.drew⟩
  refine bodyPost_end (results_none rfl _ _ _) rfl ?_
  refine ⟨rfl, ⟨_, hfin.1, hfin.2.1, ?_⟩, hfin.2.2⟩
  rcases HN6'.out with h | h
  · exact .inl h
  · exact .inr (.inr ⟨_, h, by simp⟩)
end Go.Proofs.Ythflkfgiclcdiaa

namespace Go.Proofs.Ythflkfgiclcdiaa
open Go.RowKit Go.Gr
set_option linter.unusedSimpArgs false
theorem stRanges : SliceTy Try.prog 63 97 tRange.n := .mk' (z := .agg #[.slice none 0 0, .slice none 0 0, .bool false]) (by_ := 56) Try.underlying63 (by kernel_rfl) rfl (by decide) (by omega)
set_option maxRecDepth 100000 in
set_option maxHeartbeats 2000000 in
theorem rcField2_ {W : World} {M : Nat → Prop} {B ob bx : Nat} {kind : Int} {x : DTxn} {vr vw : Value} {cm g : Bool} {vs vy kv vv : Value} {id : Nat} {nm : ByteArray} {ws : List DRange} {key value : List UInt8} (hC : CellsAt W ob (recC kind x vw vr cm vs vy id nm) 154)
    (hb : W.cell? ⟨bx, 0, none⟩ = some (.pointer (some ⟨ob, 0, none⟩))) (hA : Own tRange 97 W M B vr ws) (hMo : M ob) (hoB : ob < B) (hB : B ≤ W.heap.size) (hbB : bx < B)
    (hk : Ty.bytes.rep W (fun b => M b ∨ vr.ownBlock = some b) [kv] key) (hv : Ty.bytes.rep W (fun b => M b ∨ vr.ownBlock = some b) [vv] value) (hl : ws.length + 1 ≤ lim) :
    Calls Try.prog 126 #[.bool g, kv, vv, .pointer (some ⟨bx, 0, none⟩)] W fun e w' => e = .returned (.tuple #[]) ∧ (∃ vr', CellsAt w' ob (recC kind x vw vr' cm vs vy id nm) 154 ∧ Own tRange 97 w' M B vr' (ws ++ [⟨key, value, g⟩]) ∧ (vr'.ownBlock = vr.ownBlock ∨ vr'.ownBlock = some W.heap.size ∨ ∃ b, vr'.ownBlock = some b ∧ W.heap.size ≤ b)) ∧
      Turn (fun b => b = ob ∨ vr.ownBlock = some b) W w' := by
  have hob := hC.lt
  obtain ⟨wa, wn, wc, rfl, HWN⟩ := hA.valN
  obtain ⟨ka, kc, rfl, _⟩ := Ty.slice_val hk
  obtain ⟨va, vc, rfl, _⟩ := Ty.slice_val hv
  have p4 : W.cell? ⟨ob, 5, none⟩ = some (.slice wa wn wc) := hC.cell 5
  have f4 : W.frozen? ⟨ob, 5, none⟩ = false := hC.frozen 5
  have hbl := lt_of_cell hb
  have HC := Lib.hid hC
  have HA := Lib.hid hA
  have HK := Lib.hid hk
  have HV := Lib.hid hv
  clear hC hA hk hv
  go_enter Try.func126, Try.ntmps126
  go_upto_region 0 with fail
  refine wp_region_cut (S := (fun w' => w'.cell? ⟨bx, 0, none⟩ = some (.pointer (some ⟨ob, 0, none⟩)) ∧ w'.cell? ⟨ob, 5, none⟩ = some (.slice wa wn wc))) 13 (by kernel_rfl) ?_ (fun hHeld => ?_)
  · (go_keep)
  refine wpAnyC_take (i := 0) (v := ?_) rfl (by kernel_rfl) (by kernel_rfl) (by kernel_rfl) (by decide) [11, 12, 13] (by kernel_rfl) (fun _ _ _ h => h) (Or.inl ⟨by rfl, ?_⟩) (by assumption) ?_
  rotate_left 1
  · (intro w hSw; (try dsimp only at hSw); go_simp; (try with_reducible rfl))
  try simp only [Act.put, List.getElem_toArray, List.getElem_cons_succ, List.getElem_cons_zero, List.setIfInBounds_toArray, List.set_cons_zero, List.set_cons_succ]
  refine wpAnyC_take (i := 1) (v := ?_) rfl (by kernel_rfl) (by kernel_rfl) (by kernel_rfl) (by decide) [2, 3, 4, 10, 11, 12, 13] (by kernel_rfl) (fun _ _ _ h => h) (Or.inl ⟨by rfl, ?_⟩) (by assumption) ?_
  rotate_left 1
  · (intro w hSw; (try dsimp only at hSw); go_simp; (try with_reducible rfl))
  try simp only [Act.put, List.getElem_toArray, List.getElem_cons_succ, List.getElem_cons_zero, List.setIfInBounds_toArray, List.set_cons_zero, List.set_cons_succ]
  refine wpAnyC_take (i := 2) (v := ?_) rfl (by kernel_rfl) (by kernel_rfl) (by kernel_rfl) (by decide) [3, 4, 10, 11, 12, 13] (by kernel_rfl) (fun _ _ _ h => h) (Or.inl ⟨by rfl, ?_⟩) (by assumption) ?_
  rotate_left 1
  · (intro w hSw; (try dsimp only at hSw); go_simp; (try with_reducible rfl))
  try simp only [Act.put, List.getElem_toArray, List.getElem_cons_succ, List.getElem_cons_zero, List.setIfInBounds_toArray, List.set_cons_zero, List.set_cons_succ]
  refine wpAnyC_take (i := 3) (v := ?_) rfl (by kernel_rfl) (by kernel_rfl) (by kernel_rfl) (by decide) [4, 10, 11, 12, 13] (by kernel_rfl) (fun _ _ _ h => h) (Or.inl ⟨by rfl, ?_⟩) (by assumption) ?_
  rotate_left 1
  · (intro w hSw; (try dsimp only at hSw); go_simp; (try with_reducible rfl))
  try simp only [Act.put, List.getElem_toArray, List.getElem_cons_succ, List.getElem_cons_zero, List.setIfInBounds_toArray, List.set_cons_zero, List.set_cons_succ]
  refine wpAnyC_take (i := 4) (v := ?_) rfl (by kernel_rfl) (by kernel_rfl) (by kernel_rfl) (by decide) [10, 11, 12, 13] (by kernel_rfl) (fun _ _ _ h => h) (Or.inl ⟨by rfl, ?_⟩) (by assumption) ?_
  rotate_left 1
  · (intro w hSw; (try dsimp only at hSw); go_simp; (try with_reducible rfl))
  try simp only [Act.put, List.getElem_toArray, List.getElem_cons_succ, List.getElem_cons_zero, List.setIfInBounds_toArray, List.set_cons_zero, List.set_cons_succ]
  refine wpAnyC_take (i := 5) (v := ?_) rfl (by kernel_rfl) (by kernel_rfl) (by kernel_rfl) (by decide) [8, 9, 10, 11, 12, 13] (by kernel_rfl) (fun _ _ _ h => h) (Or.inl ⟨by rfl, ?_⟩) (by assumption) ?_
  rotate_left 1
  · (intro w hSw; (try dsimp only at hSw); go_simp; (try with_reducible rfl))
  try simp only [Act.put, List.getElem_toArray, List.getElem_cons_succ, List.getElem_cons_zero, List.setIfInBounds_toArray, List.set_cons_zero, List.set_cons_succ]
  refine wpAnyC_take (i := 6) (v := ?_) rfl (by kernel_rfl) (by kernel_rfl) (by kernel_rfl) (by decide) [8, 9, 10, 11, 12, 13] (by kernel_rfl) (fun _ _ _ h => h) (Or.inl ⟨by rfl, ?_⟩) (by assumption) ?_
  rotate_left 1
  · (intro w hSw; (try dsimp only at hSw); go_simp; (try with_reducible rfl))
  try simp only [Act.put, List.getElem_toArray, List.getElem_cons_succ, List.getElem_cons_zero, List.setIfInBounds_toArray, List.set_cons_zero, List.set_cons_succ]
  refine wpAnyC_take (i := 7) (v := ?_) rfl (by kernel_rfl) (by kernel_rfl) (by kernel_rfl) (by decide) [8, 9, 10, 11, 12, 13] (by kernel_rfl) (fun _ _ _ h => h) (Or.inl ⟨by rfl, ?_⟩) (by assumption) ?_
  rotate_left 1
  · (intro w hSw; (try dsimp only at hSw); go_simp; (try with_reducible rfl))
  try simp only [Act.put, List.getElem_toArray, List.getElem_cons_succ, List.getElem_cons_zero, List.setIfInBounds_toArray, List.set_cons_zero, List.set_cons_succ]
  refine wpAnyC_take (i := 8) (v := ?_) rfl (by kernel_rfl) (by kernel_rfl) (by kernel_rfl) (by decide) [9, 10, 11, 12, 13] (by kernel_rfl) (fun _ _ _ h => h) (Or.inl ⟨by rfl, ?_⟩) (by assumption) ?_
  rotate_left 1
  · (intro w hSw; (try dsimp only at hSw); go_simp; (try with_reducible rfl))
  try simp only [Act.put, List.getElem_toArray, List.getElem_cons_succ, List.getElem_cons_zero, List.setIfInBounds_toArray, List.set_cons_zero, List.set_cons_succ]
  refine wpAnyC_ready (rs := [9]) (by kernel_rfl) (by simp) ?_
  refine AllReadyC.cons rfl (by decide) (fun K hK => ?_) AllReadyC.nil
  try simp only [List.getElem_toArray, List.getElem_cons_succ, List.getElem_cons_zero]
  go_simp
  refine hK.out _ _ ?_ (fun hHeld => ?_)
  · (go_keep)
  clear hK K
  try simp only [Act.put, List.getElem_toArray, List.getElem_cons_succ, List.getElem_cons_zero, List.setIfInBounds_toArray, List.set_cons_zero, List.set_cons_succ]
  refine wpAnyC_ready (rs := [10]) (by kernel_rfl) (by simp) ?_
  refine AllReadyC.cons rfl (by decide) (fun K hK => ?_) AllReadyC.nil
  try simp only [List.getElem_toArray, List.getElem_cons_succ, List.getElem_cons_zero]
  refine ite_then rfl ?_; refine wp_append_gen (E := tRange) (B := B) (M := M) (ys := [⟨key, value, g⟩]) (.tmp 11) (.tmp 16) rfl stRanges (Own.step HA.out (by (repeat (first | exact Step.refl _ | refine Step.alloc ?_ _ | refine Step.drew ?_ | refine Step.drewN ?_ _ | refine Step.setCell ?_ (by first | exact Nat.le_refl _ | assumption | omega | (simp; done) | (simp; omega)) _ | assumption | refine Step.trans ?_ (by assumption : Step _ _))))) (Src.oneAt (E := tRange) (by simp) ⟨_, _, rfl, Ty.step _ HK.out (by (repeat (first | exact Step.refl _ | refine Step.alloc ?_ _ | refine Step.drew ?_ | refine Step.drewN ?_ _ | refine Step.setCell ?_ (by first | exact Nat.le_refl _ | assumption | omega | (simp; done) | (simp; omega)) _ | assumption | refine Step.trans ?_ (by assumption : Step _ _)))), Ty.step _ HV.out (by (repeat (first | exact Step.refl _ | refine Step.alloc ?_ _ | refine Step.drew ?_ | refine Step.drewN ?_ _ | refine Step.setCell ?_ (by first | exact Nat.le_refl _ | assumption | omega | (simp; done) | (simp; omega)) _ | assumption | refine Step.trans ?_ (by assumption : Step _ _))))⟩) (by (simp; omega)) (by first | assumption | omega | (simp; done) | (simp; omega)) rfl rfl ?_; intro v6 w6 hA6 hG6 hn6; have hC6 := (CellsAt.step HC.out (by (repeat (first | exact Step.refl _ | refine Step.alloc ?_ _ | refine Step.drew ?_ | refine Step.drewN ?_ _ | refine Step.setCell ?_ (by first | exact Nat.le_refl _ | assumption | omega | (simp; done) | (simp; omega)) _ | assumption | refine Step.trans ?_ (by assumption : Step _ _))))).kept (hG6.block ob (by first | assumption | omega | (simp; done) | (simp; omega)) (fun e => absurd (HA.out.lt e.symm).1 (by omega))); have HT6 := Lib.hid (Turn.grown (M := fun b => b = ob ∨ (Value.slice wa wn wc).ownBlock = some b) (Turn.of (by (repeat (first | exact Step.refl _ | refine Step.alloc ?_ _ | refine Step.drew ?_ | refine Step.drewN ?_ _ | refine Step.setCell ?_ (by first | exact Nat.le_refl _ | assumption | omega | (simp; done) | (simp; omega)) _ | assumption | refine Step.trans ?_ (by assumption : Step _ _))) : Step W _)) hG6 (fun g hg hlt => .inr hg)); have k0 : w6.cell? ⟨bx, 0, none⟩ = some (.pointer (some ⟨ob, 0, none⟩)) := (grown_cell hG6 (by first | assumption | omega | (simp; done) | (simp; omega)) (fun e => absurd (HA.out.lt e).1 (by omega)) 0).trans ((Step.cell (by (repeat (first | exact Step.refl _ | refine Step.alloc ?_ _ | refine Step.drew ?_ | refine Step.drewN ?_ _ | refine Step.setCell ?_ (by first | exact Nat.le_refl _ | assumption | omega | (simp; done) | (simp; omega)) _ | assumption | refine Step.trans ?_ (by assumption : Step _ _)))) hbl 0).trans hb); obtain ⟨b6, n6, m6, rfl, HN6⟩ := hA6.valN; have k4 : w6.cell? ⟨ob, 5, none⟩ = some (.slice wa wn wc) := hC6.cell 5; have g4 : w6.frozen? ⟨ob, 5, none⟩ = false := hC6.frozen 5; have HC6 := Lib.hid hC6; have HA6 := Lib.hid hA6; have HN6' := Lib.hid hn6; clear hA6 hG6 hC6 hn6
  refine hK.out _ _ ?_ (fun hHeld => ?_)
  · (go_keep)
  clear hK K
  try simp only [Act.put, List.getElem_toArray, List.getElem_cons_succ, List.getElem_cons_zero, List.setIfInBounds_toArray, List.set_cons_zero, List.set_cons_succ]
  refine wpAnyC_take (i := 11) (v := ?_) rfl (by kernel_rfl) (by kernel_rfl) (by kernel_rfl) (by decide) [12, 13] (by kernel_rfl) (fun _ _ _ h => h) (Or.inl ⟨by rfl, ?_⟩) (by assumption) ?_
  rotate_left 1
  · (intro w hSw; (try dsimp only at hSw); go_simp; (try with_reducible rfl))
  try simp only [Act.put, List.getElem_toArray, List.getElem_cons_succ, List.getElem_cons_zero, List.setIfInBounds_toArray, List.set_cons_zero, List.set_cons_succ]
  refine wpAnyC_take (i := 12) (v := ?_) rfl (by kernel_rfl) (by kernel_rfl) (by kernel_rfl) (by decide) [13] (by kernel_rfl) (fun _ _ _ h => h) (Or.inl ⟨by rfl, ?_⟩) (by assumption) ?_
  rotate_left 1
  · (intro w hSw; (try dsimp only at hSw); go_simp; (try with_reducible rfl))
  try simp only [Act.put, List.getElem_toArray, List.getElem_cons_succ, List.getElem_cons_zero, List.setIfInBounds_toArray, List.set_cons_zero, List.set_cons_succ]
  refine wpAnyC_ready (rs := [13]) (by kernel_rfl) (by simp) ?_
  refine AllReadyC.cut rfl (fun K hK => ?_)
  try simp only [List.getElem_toArray, List.getElem_cons_succ, List.getElem_cons_zero]
  go_simp
  refine hK.out _ _ trivial (fun hHeld => ?_)
  clear hK K
  try simp only [Act.put, List.getElem_toArray, List.getElem_cons_succ, List.getElem_cons_zero, List.setIfInBounds_toArray, List.set_cons_zero, List.set_cons_succ]
  have hTrue : True := trivial
  refine wpAnyH_done (by kernel_rfl) ?_ _
  refine wp_at (fun W' => W' = w6.setCell ⟨ob, 5, none⟩ (.slice b6 n6 m6) ∨ W' = (w6.setCell ⟨ob, 5, none⟩ (.slice b6 n6 m6)).drew) (by first | exact .inl rfl | exact .inr rfl) ?_
  rintro W' hW'
  have hfin : CellsAt W' ob (recC kind x vw (.slice b6 n6 m6) cm vs vy id nm) 154 ∧ Own tRange 97 W' M B (.slice b6 n6 m6) (ws ++ [⟨key, value, g⟩]) ∧ Turn (fun b => b = ob ∨ (Value.slice wa wn wc).ownBlock = some b) W W' := by
    have c1 : CellsAt (w6.setCell ⟨ob, 5, none⟩ (.slice b6 n6 m6)) ob (recC kind x vw (.slice b6 n6 m6) cm vs vy id nm) 154 := CellsAt.set HC6.out 5 _
    have c2 := Own.set HA6.out (p := ⟨ob, 5, none⟩) hMo hoB (Value.slice b6 n6 m6)
    have c3 := HT6.out.setCell (p := ⟨ob, 5, none⟩) (fun _ => .inl rfl) (Value.slice b6 n6 m6)
    rcases hW' with rfl | rfl
    · exact ⟨c1, c2, c3⟩
    · exact ⟨c1, c2.drew, c3.drew⟩
  refine bodyPost_end (results_none rfl _ _ _) rfl ?_
  refine ⟨rfl, ⟨_, hfin.1, hfin.2.1, ?_⟩, hfin.2.2⟩
  rcases HN6'.out with h | h
  · exact .inl h
  · exact .inr (.inr ⟨_, h, by simp⟩)
end Go.Proofs.Ythflkfgiclcdiaa
