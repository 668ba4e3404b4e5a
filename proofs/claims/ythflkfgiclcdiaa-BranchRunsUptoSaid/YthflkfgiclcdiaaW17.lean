/-
  Walks: a record's parts (T, W, A).
-/
import Derived.Test.YthflkfgiclcdiaaW16
namespace Go.Proofs.Ythflkfgiclcdiaa
open Go.RowKit Go.Gr
set_option linter.unusedSimpArgs false
theorem numB_pos (n : Nat) : 0 < (numB n).length := by unfold numB; split <;> simp
theorem textB_len : ∀ xs : List (List UInt8), xs.length ≤ (textB xs).length
  | [] => by simp [textB]
  | x :: xs => by
    have h1 := textB_len xs
    have h2 := numB_pos x.length
    simp only [textB, List.flatMap_cons, List.length_append, List.length_cons] at *
    omega
theorem joinB_len (xs : List (List UInt8)) : xs.length ≤ (joinB xs).length := by
  have := textB_len xs
  unfold joinB
  rw [List.length_append]
  omega
def triB (ws : List DWrite) : List (List UInt8) := ws.flatMap fun x => [truthB x.gone, x.key, x.value]
theorem triB_snoc (ws : List DWrite) (x : DWrite) : triB (ws ++ [x]) = triB ws ++ [truthB x.gone, x.key, x.value] := by simp [triB]
theorem triB_len : ∀ ws : List DWrite, (triB ws).length = 3 * ws.length
  | [] => by simp [triB]
  | x :: xs => by
    have h1 := triB_len xs
    simp only [triB, List.flatMap_cons, List.length_append, List.length_cons] at *
    simp at *
    omega
theorem grp_three {u1 u2 u3 : Value} : grp [u1, u2, u3] 1 0 = [u1] ∧ grp [u1, u2, u3] 1 1 = [u2] ∧ grp [u1, u2, u3] 1 2 = [u3] := ⟨rfl, rfl, rfl⟩
theorem Src.three {α : Type} {E : Ty α} {w : World} {M : Nat → Prop} {e : TypeId} {k : Nat} {u1 u2 u3 : Value} {y1 y2 y3 : α} (hn : E.n = 1) (hk : k = w.heap.size) (h1 : E.rep w M [u1] y1) (h2 : E.rep w M [u2] y2) (h3 : E.rep w M [u3] y3) :
    Src E (w.alloc (.cells #[u1, u2, u3] e)) M (.slice (some ⟨k, 0, none⟩) 3 3) [y1, y2, y3] := by
  subst hk
  refine Src.lit rfl (by simp [hn]) fun i hi => ?_
  rw [hn]
  have : i = 0 ∨ i = 1 ∨ i = 2 := by simp at hi; omega
  rcases this with rfl | rfl | rfl
  · exact h1
  · exact h2
  · exact h3
theorem Own.rows2 {w : World} {e : TypeId} {k : Nat} {u1 u2 : Value} {y1 y2 : List UInt8} {M : Nat → Prop} {B : Nat} (hk : k = w.heap.size) (hB : B ≤ w.heap.size) (h1 : Ty.bytes.rep w M [u1] y1) (h2 : Ty.bytes.rep w M [u2] y2) :
    Own Ty.bytes e (w.alloc (.cells #[u1, u2] e)) M B (.slice (some ⟨k, 0, none⟩) 2 2) [y1, y2] := by
  subst hk
  refine Own.lit (E := Ty.bytes) (xs := [y1, y2]) rfl (by simp [lim]) hB rfl (fun i hi => ?_)
  have : i = 0 ∨ i = 1 := by simp at hi; omega
  rcases this with rfl | rfl
  · exact h1
  · exact h2
theorem nums3_lit {w : World} {e : TypeId} {k a b c : Nat} (hk : k = w.heap.size) (ha : a < 18446744073709551616) (hb : b < 18446744073709551616) (hc : c < 18446744073709551616) :
    (Ty.slice Ty.u64).rep (w.alloc (.cells #[.int .u64 (a : Int), .int .u64 (b : Int), .int .u64 (c : Int)] e)) (fun _ => False) [.slice (some ⟨k, 0, none⟩) 3 3] [a, b, c] := by
  subst hk
  refine Own.rep' (Own.lit (E := Ty.u64) (e := e) (M := fun _ => False) (B := 0) (xs := [a, b, c]) rfl (by simp [lim]) (Nat.zero_le _) rfl (fun i hi => ?_)) (fun _ _ h => h)
  have : i = 0 ∨ i = 1 ∨ i = 2 := by simp at hi; omega
  rcases this with rfl | rfl | rfl
  · exact ⟨rfl, ha⟩
  · exact ⟨rfl, hb⟩
  · exact ⟨rfl, hc⟩
set_option maxRecDepth 100000 in
theorem recPart_T {w : World} {k : Int} {x : DTxn} {a4 a5 a7 a8 : Option Addr} {n4 n5 n7 n8 c4 c5 c7 c8 : Nat} {cm : Bool} {id : Int} {nm : ByteArray} (hx : x.boot < 18446744073709551616 ∧ x.session < 18446744073709551616 ∧ x.seq < 18446744073709551616) :
    Calls Try.prog 112 #[.agg #[.int .i64 k, .int .u64 (x.boot : Int), .int .u64 (x.session : Int), .int .u64 (x.seq : Int), .slice a4 n4 c4, .slice a5 n5 c5, .bool cm, .slice a7 n7 c7, .slice a8 n8 c8, .int .u64 id, .string nm], .int .i32 84] w fun e w' =>
      ∃ v', e = .returned v' ∧ Own Ty.byte 5 w' (· < w.heap.size) w.heap.size v' (numsB [x.boot, x.session, x.seq]) ∧ Step w w' := by
  have HX := Lib.hid hx
  clear hx
  go_enter Try.func112, Try.ntmps112
  go_wp2_with (go_at_call 129; refine (recNumbers_ (nums3_lit (by first | rfl | simp) HX.out.1 HX.out.2.1 HX.out.2.2) (by simp)).mono ?_; rintro e w2 ⟨v2, rfl, hA2, hS2⟩; have hz := hS2.size; simp only [World.size_alloc] at hz; have HA2 := Lib.hid hA2; clear hA2)
  go_ret
  exact ⟨_, rfl, (Own.base HA2.out (by simp; omega)).less (fun b _ hb => by simp; omega), by (repeat (first | exact Step.refl _ | refine Step.alloc ?_ _ | refine Step.drew ?_ | refine Step.drewN ?_ _ | refine Step.setCell ?_ (by first | exact Nat.le_refl _ | assumption | omega | (simp; done) | (simp; omega)) _ | assumption | refine Step.trans ?_ (by assumption : Step _ _)))⟩
set_option maxRecDepth 100000 in
theorem recPart_A {w : World} {k b s q : Int} {a4 a5 a7 a8 : Option Addr} {n4 n5 n7 n8 c4 c5 c7 c8 : Nat} {cm : Bool} {id : Int} {nm : ByteArray} :
    Calls Try.prog 112 #[.agg #[.int .i64 k, .int .u64 b, .int .u64 s, .int .u64 q, .slice a4 n4 c4, .slice a5 n5 c5, .bool cm, .slice a7 n7 c7, .slice a8 n8 c8, .int .u64 id, .string nm], .int .i32 65] w fun e w' =>
      e = .returned (.slice a8 n8 c8) ∧ Step w w' := by
  go_enter Try.func112, Try.ntmps112
  go_wp2
  go_ret
  exact ⟨rfl, by (repeat (first | exact Step.refl _ | refine Step.alloc ?_ _ | refine Step.drew ?_ | refine Step.drewN ?_ _ | refine Step.setCell ?_ (by first | exact Nat.le_refl _ | assumption | omega | (simp; done) | (simp; omega)) _ | assumption | refine Step.trans ?_ (by assumption : Step _ _)))⟩
set_option maxRecDepth 100000 in
set_option maxHeartbeats 2000000 in
theorem recPart_W {w : World} {M : Nat → Prop} {ws : List DWrite} {k b s q : Int} {a4 a5 a7 a8 : Option Addr} {n4 n5 n7 n8 c4 c5 c7 c8 : Nat} {cm : Bool} {id : Int} {nm : ByteArray} (h : (Ty.slice tWrite).rep w M [.slice a4 n4 c4] ws) (hl : (joinB (triB ws)).length ≤ lim) :
    Calls Try.prog 112 #[.agg #[.int .i64 k, .int .u64 b, .int .u64 s, .int .u64 q, .slice a4 n4 c4, .slice a5 n5 c5, .bool cm, .slice a7 n7 c7, .slice a8 n8 c8, .int .u64 id, .string nm], .int .i32 87] w fun e w' =>
      ∃ v', e = .returned v' ∧ Own Ty.byte 5 w' (· < w.heap.size) w.heap.size v' (joinB (triB ws)) ∧ Step w w' := by
  obtain rfl : n4 = ws.length := by obtain ⟨_, _, hv, _⟩ := Ty.slice_val h; injection hv
  have hws : ws.length * 3 ≤ lim := by
    have h1 := joinB_len (triB ws)
    rw [triB_len] at h1
    omega
  rw [lim_eq] at hws
  have H := Lib.hid h
  have HL := Lib.hid hl
  clear h hl
  go_enter Try.func112, Try.ntmps112
  go_wp2
  go_loopw [5, 35] (fun o i w' => ∃ k : Nat, i = .int .i64 k ∧ k ≤ ws.length ∧ Own Ty.bytes 42 w' (fun _ => False) w.heap.size o (triB (ws.take k)) ∧ Step w w') (fun _ i _ => ws.length - (intOf i).toNat)
  case atStart => exact ⟨0, rfl, by omega, by simpa [triB] using Own.nil, by (repeat (first | exact Step.refl _ | refine Step.alloc ?_ _ | refine Step.drew ?_ | refine Step.drewN ?_ _ | refine Step.setCell ?_ (by first | exact Nat.le_refl _ | assumption | omega | (simp; done) | (simp; omega)) _ | assumption | refine Step.trans ?_ (by assumption : Step _ _)))⟩
  case round =>
    obtain ⟨k, rfl, hk, hA, hB⟩ := hrel
    have HA := Lib.hid hA
    have hsz := hB.size
    clear hA
    by_cases hlt : k < ws.length
    · have htk : Hid (triB (ws.take (k + 1)) = triB (ws.take k) ++ [truthB ws[k].gone, ws[k].key, ws[k].value]) := Lib.hid (by rw [List.take_succ_eq_append_getElem hlt, triB_snoc])
      have hln : Hid ((triB (ws.take k)).length = 3 * k) := Lib.hid (by rw [triB_len, List.length_take]; omega)
      obtain ⟨ob, oo, oes, rfl, ohb, _, ou, ocu⟩ := Ty.slice_at H.out hlt
      obtain ⟨oc0, oc1, rfl, oh0, oh1⟩ := ou
      have oq0 := (Step.cell (w' := wr) (by (repeat (first | exact Step.refl _ | refine Step.alloc ?_ _ | refine Step.drew ?_ | refine Step.drewN ?_ _ | refine Step.setCell ?_ (by first | exact Nat.le_refl _ | assumption | omega | (simp; done) | (simp; omega)) _ | assumption | refine Step.trans ?_ (by assumption : Step _ _)))) ohb _).trans (ocu 0 _ rfl)
      have oq1 := (Step.cell (w' := wr) (by (repeat (first | exact Step.refl _ | refine Step.alloc ?_ _ | refine Step.drew ?_ | refine Step.drewN ?_ _ | refine Step.setCell ?_ (by first | exact Nat.le_refl _ | assumption | omega | (simp; done) | (simp; omega)) _ | assumption | refine Step.trans ?_ (by assumption : Step _ _)))) ohb _).trans (ocu 1 _ rfl)
      have oq2 := (Step.cell (w' := wr) (by (repeat (first | exact Step.refl _ | refine Step.alloc ?_ _ | refine Step.drew ?_ | refine Step.drewN ?_ _ | refine Step.setCell ?_ (by first | exact Nat.le_refl _ | assumption | omega | (simp; done) | (simp; omega)) _ | assumption | refine Step.trans ?_ (by assumption : Step _ _)))) ohb _).trans (ocu 2 _ rfl)
      simp only [show tWrite.n = 3 from rfl, Nat.add_zero] at oq0 oq1 oq2
      obtain ⟨oa0, on0, rfl, _⟩ := Ty.slice_val oh0
      obtain ⟨oa1, on1, rfl, _⟩ := Ty.slice_val oh1
      have oH0 := Lib.hid oh0
      have oH1 := Lib.hid oh1
      clear ocu oh0 oh1
      have nE : Hid (∀ b, False ∨ u5.ownBlock = some b → w.heap.size ≤ b ∧ b < wr.heap.size) := Lib.hid (fun b h => h.elim False.elim (fun h => HA.out.lt h))
      go_wp2
      refine wp_region_held_drew (S := (fun w' => w'.cell? ⟨wr.heap.size, 0, none⟩ = some (.slice oa0 ws[k].key.length on0) ∧ w'.cell? ⟨wr.heap.size, 1, none⟩ = some (.slice oa1 ws[k].value.length on1) ∧ w'.cell? ⟨wr.heap.size, 2, none⟩ = some (.bool ws[k].gone))) (by kernel_rfl) ?_ (fun hHeld => ?_)
      · (go_keep)
      refine wpAnyH_take (i := 0) (v := ?_) rfl (by kernel_rfl) (by kernel_rfl) (by kernel_rfl) (fun _ _ _ h => h) (Or.inl ⟨by rfl, ?_⟩) (by assumption) ?_
      rotate_left 1
      · (intro w hSw; (try dsimp only at hSw); go_simp; (try with_reducible rfl))
      try simp only [Act.put, List.getElem_toArray, List.getElem_cons_succ, List.getElem_cons_zero, List.setIfInBounds_toArray, List.set_cons_zero, List.set_cons_succ]
      refine wpAnyH_take (i := 1) (v := ?_) rfl (by kernel_rfl) (by kernel_rfl) (by kernel_rfl) (fun _ _ _ h => h) (Or.inl ⟨by rfl, ?_⟩) (by assumption) ?_
      rotate_left 1
      · (intro w hSw; (try dsimp only at hSw); go_simp; (try with_reducible rfl))
      try simp only [Act.put, List.getElem_toArray, List.getElem_cons_succ, List.getElem_cons_zero, List.setIfInBounds_toArray, List.set_cons_zero, List.set_cons_succ]
      refine wpAnyH_take (i := 2) (v := ?_) rfl (by kernel_rfl) (by kernel_rfl) (by kernel_rfl) (fun _ _ _ h => h) (Or.inl ⟨by rfl, ?_⟩) (by assumption) ?_
      rotate_left 1
      · (intro w hSw; (try dsimp only at hSw); go_simp; (try with_reducible rfl))
      try simp only [Act.put, List.getElem_toArray, List.getElem_cons_succ, List.getElem_cons_zero, List.setIfInBounds_toArray, List.set_cons_zero, List.set_cons_succ]
      refine wpAnyH_take (i := 4) (v := ?_) rfl (by kernel_rfl) (by kernel_rfl) (by kernel_rfl) (fun _ _ _ h => h) (Or.inl ⟨by rfl, ?_⟩) (by assumption) ?_
      rotate_left 1
      · (intro w hSw; (try dsimp only at hSw); go_simp; (try with_reducible rfl))
      try simp only [Act.put, List.getElem_toArray, List.getElem_cons_succ, List.getElem_cons_zero, List.setIfInBounds_toArray, List.set_cons_zero, List.set_cons_succ]
      refine wpAnyH_take (i := 5) (v := ?_) rfl (by kernel_rfl) (by kernel_rfl) (by kernel_rfl) (fun _ _ _ h => h) (Or.inl ⟨by rfl, ?_⟩) (by assumption) ?_
      rotate_left 1
      · (intro w hSw; (try dsimp only at hSw); go_simp; (try with_reducible rfl))
      try simp only [Act.put, List.getElem_toArray, List.getElem_cons_succ, List.getElem_cons_zero, List.setIfInBounds_toArray, List.set_cons_zero, List.set_cons_succ]
      refine wpAnyH_take (i := 6) (v := ?_) rfl (by kernel_rfl) (by kernel_rfl) (by kernel_rfl) (fun _ _ _ h => h) (Or.inl ⟨by rfl, ?_⟩) (by assumption) ?_
      rotate_left 1
      · (intro w hSw; (try dsimp only at hSw); go_simp; (try with_reducible rfl))
      try simp only [Act.put, List.getElem_toArray, List.getElem_cons_succ, List.getElem_cons_zero, List.setIfInBounds_toArray, List.set_cons_zero, List.set_cons_succ]
      refine wpAnyH_take (i := 7) (v := ?_) rfl (by kernel_rfl) (by kernel_rfl) (by kernel_rfl) (fun _ _ _ h => h) (Or.inl ⟨by rfl, ?_⟩) (by assumption) ?_
      rotate_left 1
      · (intro w hSw; (try dsimp only at hSw); go_simp; (try with_reducible rfl))
      try simp only [Act.put, List.getElem_toArray, List.getElem_cons_succ, List.getElem_cons_zero, List.setIfInBounds_toArray, List.set_cons_zero, List.set_cons_succ]
      refine wpAnyH_ready (rs := [3]) (by kernel_rfl) (by simp) ?_
      refine AllReadyH.cons rfl (fun K hK => ?_) AllReadyH.nil
      try simp only [List.getElem_toArray, List.getElem_cons_succ, List.getElem_cons_zero]
      go_simp
      (go_at_call 130; refine (recTruth_ _ _).mono ?_; rintro e2 w2 ⟨v2, rfl, hA2, hS2⟩; obtain ⟨b2, m2, rfl⟩ := hA2.val; have s2_0 : ∀ j, w2.cell? ⟨wr.heap.size, j, none⟩ = _ := fun j => hS2.cell (by first | assumption | omega | (simp; done) | (simp; omega)) j; have z2_0 : wr.heap.size < w2.heap.size := Nat.lt_of_lt_of_le (by first | assumption | omega | (simp; done) | (simp; omega)) hS2.size; have HA2 := Lib.hid hA2; clear hA2)
      refine hK.out _ _ ?_ (fun hHeld => ?_)
      · (go_keep)
      clear hK K
      try simp only [Act.put, List.getElem_toArray, List.getElem_cons_succ, List.getElem_cons_zero, List.setIfInBounds_toArray, List.set_cons_zero, List.set_cons_succ]
      refine wpAnyH_ready (rs := [8]) (by kernel_rfl) (by simp) ?_
      refine AllReadyH.cons rfl (fun K hK => ?_) AllReadyH.nil
      try simp only [List.getElem_toArray, List.getElem_cons_succ, List.getElem_cons_zero]
      go_simp
      refine hK.out _ _ ?_ (fun hHeld => ?_)
      · (go_keep)
      clear hK K
      try simp only [Act.put, List.getElem_toArray, List.getElem_cons_succ, List.getElem_cons_zero, List.setIfInBounds_toArray, List.set_cons_zero, List.set_cons_succ]
      refine wpAnyH_ready (rs := [9]) (by kernel_rfl) (by simp) ?_
      refine AllReadyH.cons rfl (fun K hK => ?_) AllReadyH.nil
      try simp only [List.getElem_toArray, List.getElem_cons_succ, List.getElem_cons_zero]
      refine ite_then rfl ?_; refine wp_append_acc (w0 := w) (E := Ty.bytes) (M := fun _ => False) (ys := [truthB ws[k].gone, ws[k].key, ws[k].value]) (.tmp 39) (.tmp 47) rfl stList (by (repeat (first | exact Step.refl _ | refine Step.alloc ?_ _ | refine Step.drew ?_ | refine Step.drewN ?_ _ | refine Step.setCell ?_ (by first | exact Nat.le_refl _ | assumption | omega | (simp; done) | (simp; omega)) _ | assumption | refine Step.trans ?_ (by assumption : Step _ _)))) (Own.step HA.out (by (repeat (first | exact Step.refl _ | refine Step.alloc ?_ _ | refine Step.drew ?_ | refine Step.drewN ?_ _ | refine Step.setCell ?_ (by first | exact Nat.le_refl _ | assumption | omega | (simp; done) | (simp; omega)) _ | assumption | refine Step.trans ?_ (by assumption : Step _ _))))) ?_ ?_ rfl rfl ?_; (first | refine Src.drew (Src.three rfl (by simp) ?_ ?_ ?_) | refine Src.three rfl (by simp) ?_ ?_ ?_); exact Ty.step _ (Own.rep' (Own.flat Ty.flat_byte HA2.out) (fun b hb hm => absurd (HA2.out.lt hb).1 (by have h7 := (nE.out b hm).2; (try simp only [World.size_alloc, World.size_drew]); omega))) (by (repeat (first | exact Step.refl _ | refine Step.alloc ?_ _ | refine Step.drew ?_ | refine Step.drewN ?_ _ | refine Step.setCell ?_ (by first | exact Nat.le_refl _ | assumption | omega | (simp; done) | (simp; omega)) _ | assumption | refine Step.trans ?_ (by assumption : Step _ _)))); exact Ty.step _ (Ty.less _ oH0.out (fun b hb hm => absurd (nE.out b hm).1 (by omega))) (by (repeat (first | exact Step.refl _ | refine Step.alloc ?_ _ | refine Step.drew ?_ | refine Step.drewN ?_ _ | refine Step.setCell ?_ (by first | exact Nat.le_refl _ | assumption | omega | (simp; done) | (simp; omega)) _ | assumption | refine Step.trans ?_ (by assumption : Step _ _)))); exact Ty.step _ (Ty.less _ oH1.out (fun b hb hm => absurd (nE.out b hm).1 (by omega))) (by (repeat (first | exact Step.refl _ | refine Step.alloc ?_ _ | refine Step.drew ?_ | refine Step.drewN ?_ _ | refine Step.setCell ?_ (by first | exact Nat.le_refl _ | assumption | omega | (simp; done) | (simp; omega)) _ | assumption | refine Step.trans ?_ (by assumption : Step _ _)))); exact (by rw [hln.out, lim_eq]; simp; omega); intro v4 w4 hA4 hS4 hG4 _; have HA4 := Lib.hid hA4; have s4 : ∀ j, w4.cell? ⟨wr.heap.size, j, none⟩ = _ := fun j => grown_cell hG4 (by first | assumption | omega | (simp; done) | (simp; omega)) (fun e => absurd (HA.out.lt e).2 (Nat.lt_irrefl _)) j; clear hA4
      refine hK.out _ _ ?_ (fun hHeld => ?_)
      · (go_keep)
      clear hK K
      try simp only [Act.put, List.getElem_toArray, List.getElem_cons_succ, List.getElem_cons_zero, List.setIfInBounds_toArray, List.set_cons_zero, List.set_cons_succ]
      refine wpAnyH_take (i := 10) (v := ?_) rfl (by kernel_rfl) (by kernel_rfl) (by kernel_rfl) (fun _ _ _ h => h) (Or.inl ⟨by rfl, ?_⟩) (by assumption) ?_
      rotate_left 1
      · (intro w hSw; (try dsimp only at hSw); go_simp; (try with_reducible rfl))
      try simp only [Act.put, List.getElem_toArray, List.getElem_cons_succ, List.getElem_cons_zero, List.setIfInBounds_toArray, List.set_cons_zero, List.set_cons_succ]
      refine wpAnyH_done (by kernel_rfl) ?_ _
      go_wp2
      go_roundw
      case rel => exact ⟨k + 1, by go_num, by omega, by rw [htk.out]; exact HA4.out, hS4⟩
      case measure => simp [intOf]; omega
    · obtain rfl : k = ws.length := by omega
      have HA1 : Hid (Own Ty.bytes 42 wr (fun _ => False) w.heap.size u5 (triB ws)) := Lib.hid (by simpa using HA.out)
      obtain ⟨a1, c1, rfl⟩ := HA1.out.val
      go_wp2_with (go_at_call 85; refine (pJoin_ (M := fun _ => False) (Own.rep HA1.out (fun _ h => h.elim)) HL.out).mono ?_; rintro e w2 ⟨v2, rfl, hA2, hS2⟩; have HA2 := Lib.hid hA2; clear hA2)
      go_ret
      exact ⟨_, rfl, (Own.base HA2.out hsz).less (fun b _ hb => Nat.lt_of_lt_of_le hb hsz), hB.trans hS2⟩
end Go.Proofs.Ythflkfgiclcdiaa
