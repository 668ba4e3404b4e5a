/-
  Walks: an outcome as bytes (Outcome.Reply).
-/
import Derived.Test.YthflkfgiclcdiaaZW18
import Derived.Deep.DeepCutAuto
set_option linter.unusedVariables false
set_option linter.unusedSimpArgs false
namespace Go.Proofs.Ythflkfgiclcdiaa
open Go.RowKit Go.Gr
set_option linter.unusedSimpArgs false
/-- An int as an unsigned number. -/
def u64 (x : Int) : Nat := (IntKind.u64.wrap x).toNat
theorem wrap_u64 (x : Int) : IntKind.u64.wrap x = x % 18446744073709551616 := by
  simp [IntKind.wrap, IntKind.bits, IntKind.signed]
theorem u64_eq (x : Int) : IntKind.u64.wrap x = (u64 x : Int) := by
  unfold u64
  rw [wrap_u64]
  omega
theorem u64_lt (x : Int) : u64 x < 18446744073709551616 := by
  unfold u64
  rw [wrap_u64]
  omega
def rowB (r : List DPair) : List UInt8 := oneB ⟨0, 0, 0⟩ (r.map fun p => ⟨p.key, p.value, false⟩) []
/-- The parts of a reply. -/
def replyParts (err at_ : Int) (rows : List (List DPair)) : List (List UInt8) := [numB (u64 err), numB (u64 at_)] ++ rows.map rowB
def replyB (err at_ : Int) (rows : List (List DPair)) : List UInt8 := joinB (replyParts err at_ rows)
theorem replyParts_take {err at_ : Int} {rows : List (List DPair)} {k : Nat} (h : k < rows.length) : (replyParts err at_ rows).take (2 + (k + 1)) = (replyParts err at_ rows).take (2 + k) ++ [rowB rows[k]] := by
  unfold replyParts
  rw [show 2 + (k + 1) = k + 1 + 1 + 1 by omega, show 2 + k = k + 1 + 1 by omega]
  simp only [List.cons_append, List.nil_append, List.take_succ_cons]
  have h1 : (rows.map rowB).take (k + 1) = (rows.map rowB).take k ++ [rowB rows[k]] := by
    rw [List.take_succ_eq_append_getElem (by simpa using h), List.getElem_map]
  rw [h1]
theorem replyParts_mem {err at_ : Int} {rows : List (List DPair)} {k : Nat} (h : k < rows.length) : rowB rows[k] ∈ replyParts err at_ rows := List.mem_append_right _ (List.mem_map_of_mem (List.getElem_mem h))
theorem nums_litA {w : World} {e : TypeId} {n k : Nat} {o : Obj} (hk : k = w.heap.size) (hn : n < 18446744073709551616) : (Ty.slice Ty.u64).rep ((w.alloc (.cells #[.int .u64 (n : Int)] e)).alloc o) (fun _ => False) [.slice (some ⟨k, 0, none⟩) 1 1] [n] :=
  Ty.step _ (nums_lit hk hn) ((Step.refl _).alloc _)
theorem nums_litD {w : World} {e : TypeId} {n k : Nat} (hk : k = w.heap.size) (hn : n < 18446744073709551616) : (Ty.slice Ty.u64).rep (w.alloc (.cells #[.int .u64 (n : Int)] e)).drew (fun _ => False) [.slice (some ⟨k, 0, none⟩) 1 1] [n] :=
  Ty.step _ (nums_lit hk hn) ((Step.refl _).drew)
theorem nums_litAD {w : World} {e : TypeId} {n k : Nat} {o : Obj} (hk : k = w.heap.size) (hn : n < 18446744073709551616) : (Ty.slice Ty.u64).rep ((w.alloc (.cells #[.int .u64 (n : Int)] e)).alloc o).drew (fun _ => False) [.slice (some ⟨k, 0, none⟩) 1 1] [n] :=
  Ty.step _ (nums_litA hk hn) ((Step.refl _).drew)
theorem joinB_mem {ps : List (List UInt8)} {p : List UInt8} (h : p ∈ ps) : p.length ≤ (joinB ps).length := by
  have : p.length ≤ (textB ps).length := by
    induction ps with
    | nil => simp at h
    | cons q qs ih =>
      simp only [textB, List.flatMap_cons, List.length_append]
      rcases List.mem_cons.1 h with rfl | h
      · omega
      · have := ih h
        simp only [textB] at this
        omega
  unfold joinB
  rw [List.length_append]
  omega
set_option maxRecDepth 100000 in
theorem recBytes_zero {w : World} {M : Nat → Prop} {ws : List DWrite} {a4 : Option Addr} {n4 c4 : Nat} (h : (Ty.slice tWrite).rep w M [.slice a4 n4 c4] ws) (hl : (oneB ⟨0, 0, 0⟩ ws []).length ≤ lim) :
    Calls Try.prog 84 #[.agg #[.int .i64 4, .int .u64 0, .int .u64 0, .int .u64 0, .slice a4 n4 c4, .slice none 0 0, .bool false, .slice none 0 0, .slice none 0 0, .int .u64 0, .string ⟨#[]⟩]] w fun e w' =>
      ∃ v', e = .returned v' ∧ Own Ty.byte 5 w' (· < w.heap.size) w.heap.size v' (oneB ⟨0, 0, 0⟩ ws []) ∧ Step w w' :=
  recBytes_one (x := ⟨0, 0, 0⟩) ⟨by decide, by decide, by decide⟩ h nil_rep hl
set_option maxRecDepth 100000 in
set_option maxHeartbeats 4000000 in
theorem oReply_ {w : World} {M : Nat → Prop} {err at_ : Int} {rows : List (List DPair)} {a2 a3 : Option Addr} {n2 n3 c2 c3 : Nat} (h : (Ty.slice (Ty.slice tPair)).rep w M [.slice a2 n2 c2] rows) (hl : (replyB err at_ rows).length ≤ lim) :
    Calls Try.prog 43 #[.agg #[.int .i64 err, .int .i64 at_, .slice a2 n2 c2, .slice a3 n3 c3]] w fun e w' =>
      ∃ v', e = .returned v' ∧ Own Ty.byte 5 w' (· < w.heap.size) w.heap.size v' (replyB err at_ rows) ∧ Step w w' := by
  obtain rfl : n2 = rows.length := by obtain ⟨_, _, hv, _⟩ := Ty.slice_val h; injection hv
  have hrl : rows.length + 2 ≤ lim := by
    have := joinB_len (replyParts err at_ rows)
    have e1 : (replyParts err at_ rows).length = rows.length + 2 := by simp [replyParts]
    have e2 : (joinB (replyParts err at_ rows)).length ≤ lim := hl
    omega
  rw [lim_eq] at hrl
  have H := Lib.hid h
  have HL := Lib.hid hl
  have U1 := Lib.hid (u64_lt err)
  have U2 := Lib.hid (u64_lt at_)
  have e1 := u64_eq err
  have e2 := u64_eq at_
  clear h hl
  go_enter Try.func43, Try.ntmps43
  go_upto_region 1 with fail
  go_cut [3] (fun s3 wx => ∃ a c, s3 = .slice a 2 c ∧ Own Ty.bytes 42 wx (fun _ => False) w.heap.size (.slice a 2 c) [numB (u64 err), numB (u64 at_)] ∧ Step w wx ∧ w.heap.size < wx.heap.size ∧ wx.cell? ⟨w.heap.size, 2, none⟩ = some (.slice a2 rows.length c2))
  case first =>
    refine wp_region_held_drew (S := (fun w' => w'.cell? ⟨w.heap.size, 0, none⟩ = some (.int .i64 err) ∧ w'.cell? ⟨w.heap.size, 1, none⟩ = some (.int .i64 at_) ∧ w'.cell? ⟨w.heap.size, 2, none⟩ = some (.slice a2 rows.length c2))) (by kernel_rfl) ?_ (fun hHeld => ?_)
    · (go_keep)
    refine wpAnyH_take (i := 0) (v := ?_) rfl (by kernel_rfl) (by kernel_rfl) (by kernel_rfl) (fun _ _ _ h => h) (Or.inl ⟨by rfl, ?_⟩) (by assumption) ?_
    rotate_left 1
    · (intro w hSw; (try dsimp only at hSw); go_simp; (try with_reducible rfl))
    try simp only [Act.put, List.getElem_toArray, List.getElem_cons_succ, List.getElem_cons_zero, List.setIfInBounds_toArray, List.set_cons_zero, List.set_cons_succ]
    refine wpAnyH_take (i := 1) (v := ?_) rfl (by kernel_rfl) (by kernel_rfl) (by kernel_rfl) (fun _ _ _ h => h) (Or.inl ⟨by rfl, ?_⟩) (by assumption) ?_
    rotate_left 1
    · (intro w hSw; (try dsimp only at hSw); go_simp; (try with_reducible rfl))
    try simp only [Act.put, List.getElem_toArray, List.getElem_cons_succ, List.getElem_cons_zero, List.setIfInBounds_toArray, List.set_cons_zero, List.set_cons_succ]
    refine wpAnyH_take (i := 2) (v := ?_) rfl (by kernel_rfl) (by kernel_rfl) (by kernel_rfl) (fun _ _ _ h => h) (Or.inl ⟨by rfl, ?_⟩) (by assumption) ?_
    rotate_left 1
    · (intro w hSw; (try dsimp only at hSw); go_simp; (try with_reducible rfl))
    try simp only [Act.put, List.getElem_toArray, List.getElem_cons_succ, List.getElem_cons_zero, List.setIfInBounds_toArray, List.set_cons_zero, List.set_cons_succ]
    refine wpAnyH_take (i := 5) (v := ?_) rfl (by kernel_rfl) (by kernel_rfl) (by kernel_rfl) (fun _ _ _ h => h) (Or.inl ⟨by rfl, ?_⟩) (by assumption) ?_
    rotate_left 1
    · (intro w hSw; (try dsimp only at hSw); go_simp; (try with_reducible rfl))
    try simp only [Act.put, List.getElem_toArray, List.getElem_cons_succ, List.getElem_cons_zero, List.setIfInBounds_toArray, List.set_cons_zero, List.set_cons_succ]
    refine wpAnyH_take (i := 6) (v := ?_) rfl (by kernel_rfl) (by kernel_rfl) (by kernel_rfl) (fun _ _ _ h => h) (Or.inl ⟨by rfl, ?_⟩) (by assumption) ?_
    rotate_left 1
    · (intro w hSw; (try dsimp only at hSw); go_simp; (try with_reducible rfl))
    try simp only [Act.put, List.getElem_toArray, List.getElem_cons_succ, List.getElem_cons_zero, List.setIfInBounds_toArray, List.set_cons_zero, List.set_cons_succ]
    refine wpAnyH_take (i := 7) (v := ?_) rfl (by kernel_rfl) (by kernel_rfl) (by kernel_rfl) (fun _ _ _ h => h) (Or.inl ⟨by rfl, ?_⟩) (by assumption) ?_
    rotate_left 1
    · (intro w hSw; (try dsimp only at hSw); go_simp; (try with_reducible rfl))
    try simp only [Act.put, List.getElem_toArray, List.getElem_cons_succ, List.getElem_cons_zero, List.setIfInBounds_toArray, List.set_cons_zero, List.set_cons_succ]
    refine wpAnyH_ready (rs := [3, 8]) (by kernel_rfl) (by simp) ?_
    refine AllReadyH.cons rfl (fun K hK => ?_) (AllReadyH.cons rfl (fun K hK => ?_) AllReadyH.nil)
    · try simp only [List.getElem_toArray, List.getElem_cons_succ, List.getElem_cons_zero]
      go_simp
      refine hK.out _ _ ?_ (fun hHeld => ?_)
      · (go_keep)
      clear hK K
      try simp only [Act.put, List.getElem_toArray, List.getElem_cons_succ, List.getElem_cons_zero, List.setIfInBounds_toArray, List.set_cons_zero, List.set_cons_succ]
      refine wpAnyH_ready (rs := [4, 8]) (by kernel_rfl) (by simp) ?_
      refine AllReadyH.cons rfl (fun K hK => ?_) (AllReadyH.cons rfl (fun K hK => ?_) AllReadyH.nil)
      · try simp only [List.getElem_toArray, List.getElem_cons_succ, List.getElem_cons_zero]
        go_simp
        (go_at_call 83; refine (Number_ _ (fun _ => False) _ [u64 err] ?_ (by simp)).mono ?_; (first | exact nums_litD (by first | rfl | simp) U1.out | exact nums_litAD (by first | rfl | simp) U1.out); rintro e w2 ⟨v2, rfl, hA2, hS2⟩; rw [numsB_one] at hA2; obtain ⟨b2, m2, rfl⟩ := hA2.val; have z2 := hS2.size; (try simp at z2); have s2 : ∀ j, w2.cell? ⟨w.heap.size, j, none⟩ = _ := fun j => hS2.cell (by first | assumption | omega | (simp; done) | (simp; omega)) j; have HA2 := Lib.hid hA2; clear hA2)
        refine hK.out _ _ ?_ (fun hHeld => ?_)
        · (go_keep)
        clear hK K
        try simp only [Act.put, List.getElem_toArray, List.getElem_cons_succ, List.getElem_cons_zero, List.setIfInBounds_toArray, List.set_cons_zero, List.set_cons_succ]
        refine wpAnyH_ready (rs := [8]) (by kernel_rfl) (by simp) ?_
        refine AllReadyH.cons rfl (fun K hK => ?_) AllReadyH.nil
        try simp only [List.getElem_toArray, List.getElem_cons_succ, List.getElem_cons_zero]
        go_simp
        refine hK.out _ _ ?_ (fun hHeld => ?_)
        · (go_keep)
        clear hK K
        try simp only [Act.put, List.getElem_toArray, List.getElem_cons_succ, List.getElem_cons_zero, List.setIfInBounds_toArray, List.set_cons_zero, List.set_cons_succ]
        refine wpAnyH_ready (rs := [9]) (by kernel_rfl) (by simp) ?_
        refine AllReadyH.cons rfl (fun K hK => ?_) AllReadyH.nil
        try simp only [List.getElem_toArray, List.getElem_cons_succ, List.getElem_cons_zero]
        go_simp
        (go_at_call 83; refine (Number_ _ (fun _ => False) _ [u64 at_] ?_ (by simp)).mono ?_; (first | exact nums_litD (by first | rfl | simp) U2.out | exact Ty.step _ (nums_litD (by first | rfl | simp) U2.out) (Step.drew hS2) | exact Ty.step _ (nums_litAD (by first | rfl | simp) U2.out) (Step.drew hS2) | exact Ty.step _ (nums_litD (by first | rfl | simp) U2.out) hS2 | exact Ty.step _ (nums_litAD (by first | rfl | simp) U2.out) hS2); rintro e w3 ⟨v3, rfl, hA3, hS3⟩; rw [numsB_one] at hA3; obtain ⟨b3, m3, rfl⟩ := hA3.val; have z3 := hS3.size; (try simp at z3); have s3 : ∀ j, w3.cell? ⟨w.heap.size, j, none⟩ = _ := fun j => hS3.cell (by first | assumption | omega | (simp; done) | (simp; omega)) j; have HA3 := Lib.hid hA3; clear hA3)
        refine hK.out _ _ ?_ (fun hHeld => ?_)
        · (go_keep)
        clear hK K
        try simp only [Act.put, List.getElem_toArray, List.getElem_cons_succ, List.getElem_cons_zero, List.setIfInBounds_toArray, List.set_cons_zero, List.set_cons_succ]
        refine wpAnyH_ready (rs := [10]) (by kernel_rfl) (by simp) ?_
        refine AllReadyH.cons rfl (fun K hK => ?_) AllReadyH.nil
        try simp only [List.getElem_toArray, List.getElem_cons_succ, List.getElem_cons_zero]
        go_simp
        refine hK.out _ _ ?_ (fun hHeld => ?_)
        · (go_keep)
        clear hK K
        try simp only [Act.put, List.getElem_toArray, List.getElem_cons_succ, List.getElem_cons_zero, List.setIfInBounds_toArray, List.set_cons_zero, List.set_cons_succ]
        refine wpAnyH_take (i := 11) (v := ?_) rfl (by kernel_rfl) (by kernel_rfl) (by kernel_rfl) (fun _ _ _ h => h) (Or.inl ⟨by rfl, ?_⟩) (by assumption) ?_
        rotate_left 1
        · (intro w hSw; (try dsimp only at hSw); go_simp; (try with_reducible rfl))
        try simp only [Act.put, List.getElem_toArray, List.getElem_cons_succ, List.getElem_cons_zero, List.setIfInBounds_toArray, List.set_cons_zero, List.set_cons_succ]
        refine wpAnyH_done (by kernel_rfl) ?_ _
        go_wp2_with fail
        go_meet
        case rel => exact ⟨_, _, rfl, Own.rows2 rfl (by first | assumption | omega | (simp; done) | (simp; omega)) (Ty.step _ (Own.rep' (Own.flat Ty.flat_byte HA2.out) (fun _ _ h => h)) (by (repeat (first | exact Step.refl _ | refine Step.alloc ?_ _ | refine Step.drew ?_ | refine Step.drewN ?_ _ | refine Step.setCell ?_ (by first | exact Nat.le_refl _ | assumption | omega | (simp; done) | (simp; omega)) _ | assumption | refine Step.trans ?_ (by assumption : Step _ _))))) (Own.rep' (Own.flat Ty.flat_byte HA3.out) (fun _ _ h => h)), by (repeat (first | exact Step.refl _ | refine Step.alloc ?_ _ | refine Step.drew ?_ | refine Step.drewN ?_ _ | refine Step.setCell ?_ (by first | exact Nat.le_refl _ | assumption | omega | (simp; done) | (simp; omega)) _ | assumption | refine Step.trans ?_ (by assumption : Step _ _))), (by first | assumption | omega | (simp; done) | (simp; omega)), by first | exact hHeld.2.2 | (have h1 := hHeld.2.2; trace_state; exact h1)⟩
      · try simp only [List.getElem_toArray, List.getElem_cons_succ, List.getElem_cons_zero]
        go_simp
        refine hK.out _ _ ?_ (fun hHeld => ?_)
        · (go_keep)
        clear hK K
        try simp only [Act.put, List.getElem_toArray, List.getElem_cons_succ, List.getElem_cons_zero, List.setIfInBounds_toArray, List.set_cons_zero, List.set_cons_succ]
        refine wpAnyH_ready (rs := [4]) (by kernel_rfl) (by simp) ?_
        refine AllReadyH.cons rfl (fun K hK => ?_) AllReadyH.nil
        try simp only [List.getElem_toArray, List.getElem_cons_succ, List.getElem_cons_zero]
        go_simp
        (go_at_call 83; refine (Number_ _ (fun _ => False) _ [u64 err] ?_ (by simp)).mono ?_; (first | exact nums_litD (by first | rfl | simp) U1.out | exact nums_litAD (by first | rfl | simp) U1.out); rintro e w2 ⟨v2, rfl, hA2, hS2⟩; rw [numsB_one] at hA2; obtain ⟨b2, m2, rfl⟩ := hA2.val; have z2 := hS2.size; (try simp at z2); have s2 : ∀ j, w2.cell? ⟨w.heap.size, j, none⟩ = _ := fun j => hS2.cell (by first | assumption | omega | (simp; done) | (simp; omega)) j; have HA2 := Lib.hid hA2; clear hA2)
        refine hK.out _ _ ?_ (fun hHeld => ?_)
        · (go_keep)
        clear hK K
        try simp only [Act.put, List.getElem_toArray, List.getElem_cons_succ, List.getElem_cons_zero, List.setIfInBounds_toArray, List.set_cons_zero, List.set_cons_succ]
        refine wpAnyH_ready (rs := [9]) (by kernel_rfl) (by simp) ?_
        refine AllReadyH.cons rfl (fun K hK => ?_) AllReadyH.nil
        try simp only [List.getElem_toArray, List.getElem_cons_succ, List.getElem_cons_zero]
        go_simp
        (go_at_call 83; refine (Number_ _ (fun _ => False) _ [u64 at_] ?_ (by simp)).mono ?_; (first | exact nums_litD (by first | rfl | simp) U2.out | exact Ty.step _ (nums_litD (by first | rfl | simp) U2.out) (Step.drew hS2) | exact Ty.step _ (nums_litAD (by first | rfl | simp) U2.out) (Step.drew hS2) | exact Ty.step _ (nums_litD (by first | rfl | simp) U2.out) hS2 | exact Ty.step _ (nums_litAD (by first | rfl | simp) U2.out) hS2); rintro e w3 ⟨v3, rfl, hA3, hS3⟩; rw [numsB_one] at hA3; obtain ⟨b3, m3, rfl⟩ := hA3.val; have z3 := hS3.size; (try simp at z3); have s3 : ∀ j, w3.cell? ⟨w.heap.size, j, none⟩ = _ := fun j => hS3.cell (by first | assumption | omega | (simp; done) | (simp; omega)) j; have HA3 := Lib.hid hA3; clear hA3)
        refine hK.out _ _ ?_ (fun hHeld => ?_)
        · (go_keep)
        clear hK K
        try simp only [Act.put, List.getElem_toArray, List.getElem_cons_succ, List.getElem_cons_zero, List.setIfInBounds_toArray, List.set_cons_zero, List.set_cons_succ]
        refine wpAnyH_ready (rs := [10]) (by kernel_rfl) (by simp) ?_
        refine AllReadyH.cons rfl (fun K hK => ?_) AllReadyH.nil
        try simp only [List.getElem_toArray, List.getElem_cons_succ, List.getElem_cons_zero]
        go_simp
        refine hK.out _ _ ?_ (fun hHeld => ?_)
        · (go_keep)
        clear hK K
        try simp only [Act.put, List.getElem_toArray, List.getElem_cons_succ, List.getElem_cons_zero, List.setIfInBounds_toArray, List.set_cons_zero, List.set_cons_succ]
        refine wpAnyH_take (i := 11) (v := ?_) rfl (by kernel_rfl) (by kernel_rfl) (by kernel_rfl) (fun _ _ _ h => h) (Or.inl ⟨by rfl, ?_⟩) (by assumption) ?_
        rotate_left 1
        · (intro w hSw; (try dsimp only at hSw); go_simp; (try with_reducible rfl))
        try simp only [Act.put, List.getElem_toArray, List.getElem_cons_succ, List.getElem_cons_zero, List.setIfInBounds_toArray, List.set_cons_zero, List.set_cons_succ]
        refine wpAnyH_done (by kernel_rfl) ?_ _
        go_wp2_with fail
        go_meet
        case rel => exact ⟨_, _, rfl, Own.rows2 rfl (by first | assumption | omega | (simp; done) | (simp; omega)) (Ty.step _ (Own.rep' (Own.flat Ty.flat_byte HA2.out) (fun _ _ h => h)) (by (repeat (first | exact Step.refl _ | refine Step.alloc ?_ _ | refine Step.drew ?_ | refine Step.drewN ?_ _ | refine Step.setCell ?_ (by first | exact Nat.le_refl _ | assumption | omega | (simp; done) | (simp; omega)) _ | assumption | refine Step.trans ?_ (by assumption : Step _ _))))) (Own.rep' (Own.flat Ty.flat_byte HA3.out) (fun _ _ h => h)), by (repeat (first | exact Step.refl _ | refine Step.alloc ?_ _ | refine Step.drew ?_ | refine Step.drewN ?_ _ | refine Step.setCell ?_ (by first | exact Nat.le_refl _ | assumption | omega | (simp; done) | (simp; omega)) _ | assumption | refine Step.trans ?_ (by assumption : Step _ _))), (by first | assumption | omega | (simp; done) | (simp; omega)), by first | exact hHeld.2.2 | (have h1 := hHeld.2.2; trace_state; exact h1)⟩
    · try simp only [List.getElem_toArray, List.getElem_cons_succ, List.getElem_cons_zero]
      go_simp
      refine hK.out _ _ ?_ (fun hHeld => ?_)
      · (go_keep)
      clear hK K
      try simp only [Act.put, List.getElem_toArray, List.getElem_cons_succ, List.getElem_cons_zero, List.setIfInBounds_toArray, List.set_cons_zero, List.set_cons_succ]
      refine wpAnyH_ready (rs := [3]) (by kernel_rfl) (by simp) ?_
      refine AllReadyH.cons rfl (fun K hK => ?_) AllReadyH.nil
      try simp only [List.getElem_toArray, List.getElem_cons_succ, List.getElem_cons_zero]
      go_simp
      refine hK.out _ _ ?_ (fun hHeld => ?_)
      · (go_keep)
      clear hK K
      try simp only [Act.put, List.getElem_toArray, List.getElem_cons_succ, List.getElem_cons_zero, List.setIfInBounds_toArray, List.set_cons_zero, List.set_cons_succ]
      refine wpAnyH_ready (rs := [4]) (by kernel_rfl) (by simp) ?_
      refine AllReadyH.cons rfl (fun K hK => ?_) AllReadyH.nil
      try simp only [List.getElem_toArray, List.getElem_cons_succ, List.getElem_cons_zero]
      go_simp
      (go_at_call 83; refine (Number_ _ (fun _ => False) _ [u64 err] ?_ (by simp)).mono ?_; (first | exact nums_litD (by first | rfl | simp) U1.out | exact nums_litAD (by first | rfl | simp) U1.out); rintro e w2 ⟨v2, rfl, hA2, hS2⟩; rw [numsB_one] at hA2; obtain ⟨b2, m2, rfl⟩ := hA2.val; have z2 := hS2.size; (try simp at z2); have s2 : ∀ j, w2.cell? ⟨w.heap.size, j, none⟩ = _ := fun j => hS2.cell (by first | assumption | omega | (simp; done) | (simp; omega)) j; have HA2 := Lib.hid hA2; clear hA2)
      refine hK.out _ _ ?_ (fun hHeld => ?_)
      · (go_keep)
      clear hK K
      try simp only [Act.put, List.getElem_toArray, List.getElem_cons_succ, List.getElem_cons_zero, List.setIfInBounds_toArray, List.set_cons_zero, List.set_cons_succ]
      refine wpAnyH_ready (rs := [9]) (by kernel_rfl) (by simp) ?_
      refine AllReadyH.cons rfl (fun K hK => ?_) AllReadyH.nil
      try simp only [List.getElem_toArray, List.getElem_cons_succ, List.getElem_cons_zero]
      go_simp
      (go_at_call 83; refine (Number_ _ (fun _ => False) _ [u64 at_] ?_ (by simp)).mono ?_; (first | exact nums_litD (by first | rfl | simp) U2.out | exact Ty.step _ (nums_litD (by first | rfl | simp) U2.out) (Step.drew hS2) | exact Ty.step _ (nums_litAD (by first | rfl | simp) U2.out) (Step.drew hS2) | exact Ty.step _ (nums_litD (by first | rfl | simp) U2.out) hS2 | exact Ty.step _ (nums_litAD (by first | rfl | simp) U2.out) hS2); rintro e w3 ⟨v3, rfl, hA3, hS3⟩; rw [numsB_one] at hA3; obtain ⟨b3, m3, rfl⟩ := hA3.val; have z3 := hS3.size; (try simp at z3); have s3 : ∀ j, w3.cell? ⟨w.heap.size, j, none⟩ = _ := fun j => hS3.cell (by first | assumption | omega | (simp; done) | (simp; omega)) j; have HA3 := Lib.hid hA3; clear hA3)
      refine hK.out _ _ ?_ (fun hHeld => ?_)
      · (go_keep)
      clear hK K
      try simp only [Act.put, List.getElem_toArray, List.getElem_cons_succ, List.getElem_cons_zero, List.setIfInBounds_toArray, List.set_cons_zero, List.set_cons_succ]
      refine wpAnyH_ready (rs := [10]) (by kernel_rfl) (by simp) ?_
      refine AllReadyH.cons rfl (fun K hK => ?_) AllReadyH.nil
      try simp only [List.getElem_toArray, List.getElem_cons_succ, List.getElem_cons_zero]
      go_simp
      refine hK.out _ _ ?_ (fun hHeld => ?_)
      · (go_keep)
      clear hK K
      try simp only [Act.put, List.getElem_toArray, List.getElem_cons_succ, List.getElem_cons_zero, List.setIfInBounds_toArray, List.set_cons_zero, List.set_cons_succ]
      refine wpAnyH_take (i := 11) (v := ?_) rfl (by kernel_rfl) (by kernel_rfl) (by kernel_rfl) (fun _ _ _ h => h) (Or.inl ⟨by rfl, ?_⟩) (by assumption) ?_
      rotate_left 1
      · (intro w hSw; (try dsimp only at hSw); go_simp; (try with_reducible rfl))
      try simp only [Act.put, List.getElem_toArray, List.getElem_cons_succ, List.getElem_cons_zero, List.setIfInBounds_toArray, List.set_cons_zero, List.set_cons_succ]
      refine wpAnyH_done (by kernel_rfl) ?_ _
      go_wp2_with fail
      go_meet
      case rel => exact ⟨_, _, rfl, Own.rows2 rfl (by first | assumption | omega | (simp; done) | (simp; omega)) (Ty.step _ (Own.rep' (Own.flat Ty.flat_byte HA2.out) (fun _ _ h => h)) (by (repeat (first | exact Step.refl _ | refine Step.alloc ?_ _ | refine Step.drew ?_ | refine Step.drewN ?_ _ | refine Step.setCell ?_ (by first | exact Nat.le_refl _ | assumption | omega | (simp; done) | (simp; omega)) _ | assumption | refine Step.trans ?_ (by assumption : Step _ _))))) (Own.rep' (Own.flat Ty.flat_byte HA3.out) (fun _ _ h => h)), by (repeat (first | exact Step.refl _ | refine Step.alloc ?_ _ | refine Step.drew ?_ | refine Step.drewN ?_ _ | refine Step.setCell ?_ (by first | exact Nat.le_refl _ | assumption | omega | (simp; done) | (simp; omega)) _ | assumption | refine Step.trans ?_ (by assumption : Step _ _))), (by first | assumption | omega | (simp; done) | (simp; omega)), by first | exact hHeld.2.2 | (have h1 := hHeld.2.2; trace_state; exact h1)⟩
  case rest =>
    obtain ⟨pa, pc, rfl, hA, hS, hz, hp2⟩ := hcut
    have HA := Lib.hid hA
    have hz0 := hz
    clear hA
    go_wp2
    go_loopw [3, 6, 23] (fun o l i w' => ∃ k : Nat, i = .int .i64 k ∧ k ≤ rows.length ∧ Own Ty.bytes 42 w' (fun _ => False) w.heap.size o ((replyParts err at_ rows).take (2 + k)) ∧ Step w w') (fun _ _ i _ => rows.length - (Go.RowKit.intOf i).toNat)
    case atStart => exact ⟨0, rfl, by omega, by simpa [replyParts] using HA.out, hS⟩
    case round =>
      obtain ⟨k, rfl, hk, hA, hB⟩ := hrel
      have HA := Lib.hid hA
      clear hA
      have hsz := hB.size
      obtain ⟨wo, hwo⟩ : ∃ x, x = wr := ⟨_, rfl⟩
      subst hwo
      by_cases hlt : k < rows.length
      · obtain ⟨rb, ro, ru, rfl, rhb, _, hru, rcu⟩ := Ty.slice_at1 rfl H.out hlt
        obtain ⟨ra, rn, rfl, _, _, hrl2⟩ := Ty.slice_val hru
        rw [lim_eq] at hrl2
        have RU := Lib.hid hru
        have rq := (hB.cell rhb _).trans rcu
        have htk : Hid ((replyParts err at_ rows).take (2 + (k + 1)) = (replyParts err at_ rows).take (2 + k) ++ [rowB rows[k]]) := Lib.hid (replyParts_take hlt)
        have hbl : Hid ((rowB rows[k]).length ≤ lim) := Lib.hid (Nat.le_trans (joinB_mem (ps := replyParts err at_ rows) (replyParts_mem hlt)) HL.out)
        clear hru rcu
        generalize rows[k] = row at *
        go_wp2
        go_loopw [6, 29] (fun l i w' => ∃ m : Nat, i = .int .i64 m ∧ m ≤ row.length ∧ Own tWrite 74 w' (fun _ => False) wo.heap.size l ((row.map fun p => (⟨p.key, p.value, false⟩ : DWrite)).take m) ∧ Step wo w') (fun _ i _ => row.length - (Go.RowKit.intOf i).toNat)
        case atStart => exact ⟨0, rfl, by omega, Own.nil, Step.refl _⟩
        case round =>
          obtain ⟨m, rfl, hm, hAl, hBl⟩ := hrel
          have HAl := Lib.hid hAl
          clear hAl
          have hszl := hBl.size
          have hSw := hB.trans hBl
          by_cases hlm : m < row.length
          · obtain ⟨ob, oo, oes, rfl, ohb, _, ou, ocu⟩ := Ty.slice_at RU.out hlm
            obtain ⟨oc0, oc1, rfl, oh0, oh1⟩ := ou
            have oq0 := (Step.cell (w' := wr) (by (repeat (first | exact Step.refl _ | refine Step.alloc ?_ _ | refine Step.drew ?_ | refine Step.drewN ?_ _ | refine Step.setCell ?_ (by first | exact Nat.le_refl _ | assumption | omega | (simp; done) | (simp; omega)) _ | assumption | refine Step.trans ?_ (by assumption : Step _ _)))) ohb _).trans (ocu 0 _ rfl)
            have oq1 := (Step.cell (w' := wr) (by (repeat (first | exact Step.refl _ | refine Step.alloc ?_ _ | refine Step.drew ?_ | refine Step.drewN ?_ _ | refine Step.setCell ?_ (by first | exact Nat.le_refl _ | assumption | omega | (simp; done) | (simp; omega)) _ | assumption | refine Step.trans ?_ (by assumption : Step _ _)))) ohb _).trans (ocu 1 _ rfl)
            simp only [show tPair.n = 2 from rfl, Nat.add_zero] at oq0 oq1
            obtain ⟨oa0, on0, rfl, _⟩ := Ty.slice_val oh0
            obtain ⟨oa1, on1, rfl, _⟩ := Ty.slice_val oh1
            have oH0 := Lib.hid oh0
            have oH1 := Lib.hid oh1
            clear ocu oh0 oh1
            have htm : Hid ((row.map fun p => (⟨p.key, p.value, false⟩ : DWrite)).take (m + 1) = (row.map fun p => (⟨p.key, p.value, false⟩ : DWrite)).take m ++ [⟨row[m].key, row[m].value, false⟩]) := Lib.hid (by rw [List.take_succ_eq_append_getElem (by simpa using hlm)]; simp)
            have nE : Hid (∀ b, False ∨ u6.ownBlock = some b → wo.heap.size ≤ b ∧ b < wr.heap.size) := Lib.hid (fun b h => h.elim False.elim (fun h => HAl.out.lt h))
            go_wp2_with (at_builtin; refine wpList_append_acc (w0 := wo) (E := tWrite) (M := fun _ => False) (ys := [⟨row[m].key, row[m].value, false⟩]) rfl (.tmp 33) (.tmp 39) rfl stWrites (by (repeat (first | exact Step.refl _ | refine Step.alloc ?_ _ | refine Step.drew ?_ | refine Step.drewN ?_ _ | refine Step.setCell ?_ (by first | exact Nat.le_refl _ | assumption | omega | (simp; done) | (simp; omega)) _ | assumption | refine Step.trans ?_ (by assumption : Step _ _)))) (Own.step HAl.out (by (repeat (first | exact Step.refl _ | refine Step.alloc ?_ _ | refine Step.drew ?_ | refine Step.drewN ?_ _ | refine Step.setCell ?_ (by first | exact Nat.le_refl _ | assumption | omega | (simp; done) | (simp; omega)) _ | assumption | refine Step.trans ?_ (by assumption : Step _ _))))) (Src.oneAt (E := tWrite) (y := ⟨row[m].key, row[m].value, false⟩) (by simp) ⟨_, _, rfl, Ty.step _ (Ty.less _ oH0.out (fun b hb hm => absurd (nE.out b hm).1 (by omega))) (by (repeat (first | exact Step.refl _ | refine Step.alloc ?_ _ | refine Step.drew ?_ | refine Step.drewN ?_ _ | refine Step.setCell ?_ (by first | exact Nat.le_refl _ | assumption | omega | (simp; done) | (simp; omega)) _ | assumption | refine Step.trans ?_ (by assumption : Step _ _)))), Ty.step _ (Ty.less _ oH1.out (fun b hb hm => absurd (nE.out b hm).1 (by omega))) (by (repeat (first | exact Step.refl _ | refine Step.alloc ?_ _ | refine Step.drew ?_ | refine Step.drewN ?_ _ | refine Step.setCell ?_ (by first | exact Nat.le_refl _ | assumption | omega | (simp; done) | (simp; omega)) _ | assumption | refine Step.trans ?_ (by assumption : Step _ _))))⟩) (by rw [List.length_take, lim_eq]; simp; omega) rfl rfl ?_; intro v5 w5 hA5 hB5 _ _; have HA5 := Lib.hid hA5; clear hA5)
            go_roundw
            case rel => exact ⟨m + 1, by go_num, by omega, by rw [htm.out]; exact HA5.out, hB5⟩
            case measure => simp [Go.RowKit.intOf]; omega
          · obtain rfl : m = row.length := by omega
            have HA6 : Hid (Own tWrite 74 wr (fun _ => False) wo.heap.size u6 (row.map fun p => (⟨p.key, p.value, false⟩ : DWrite))) := Lib.hid (by have := HAl.out; rwa [List.take_of_length_le (by simp)] at this)
            obtain ⟨la, ln, lc, rfl, HLN⟩ := HA6.out.valN
            go_wp2_with (first
              | (go_at_call 84; refine (recBytes_zero (M := fun _ => False) (Own.rep HA6.out (fun _ h => h.elim)) hbl.out).mono ?_; rintro e w7 ⟨v7, rfl, hA7, hS7⟩; obtain ⟨b7, m7, rfl⟩ := hA7.val; have HA7 := Lib.hid hA7; clear hA7)
              | (at_builtin; refine wpList_append_acc (w0 := w) (E := Ty.bytes) (M := fun _ => False) (ys := [rowB row]) rfl (.tmp 42) (.tmp 46) rfl stList (by (repeat (first | exact Step.refl _ | refine Step.alloc ?_ _ | refine Step.drew ?_ | refine Step.drewN ?_ _ | refine Step.setCell ?_ (by first | exact Nat.le_refl _ | assumption | omega | (simp; done) | (simp; omega)) _ | assumption | refine Step.trans ?_ (by assumption : Step _ _)))) (Own.step HA.out (by (repeat (first | exact Step.refl _ | refine Step.alloc ?_ _ | refine Step.drew ?_ | refine Step.drewN ?_ _ | refine Step.setCell ?_ (by first | exact Nat.le_refl _ | assumption | omega | (simp; done) | (simp; omega)) _ | assumption | refine Step.trans ?_ (by assumption : Step _ _))))) (Src.oneAt (E := Ty.bytes) (y := rowB row) (by simp) (Own.rep' (Own.flat Ty.flat_byte HA7.out) (fun b hb hm => hm.elim id (fun hm => by have h1 := (HA7.out.lt hb).1; have h2 := (HA.out.lt hm).2; omega)))) (by rw [List.length_take, lim_eq]; simp [replyParts]; omega) rfl rfl ?_; intro v8 w8 hA8 hB8 _ _; have HA8 := Lib.hid hA8; clear hA8))
            go_roundw
            case rel => exact ⟨k + 1, by go_num, by omega, by rw [htk.out]; exact HA8.out, hB8⟩
            case measure => simp [Go.RowKit.intOf]; omega
      · obtain rfl : k = rows.length := by omega
        have HA1 : Hid (Own Ty.bytes 42 wo (fun _ => False) w.heap.size u3 (replyParts err at_ rows)) := Lib.hid (by have := HA.out; rwa [List.take_of_length_le (by simp [replyParts]; omega)] at this)
        obtain ⟨a1, n1, c1, rfl, HN1⟩ := HA1.out.valN
        go_wp2_with (go_at_call 85; refine (pJoin_ (M := fun _ => False) (Own.rep' HA1.out (fun _ _ h => h)) HL.out).mono ?_; rintro e w7 ⟨v7, rfl, hA7, hS7⟩; have HA7 := Lib.hid hA7; clear hA7)
        go_ret
        exact ⟨_, rfl, (Own.base HA7.out hsz).less (fun b _ hb => Nat.lt_of_lt_of_le hb hsz), hB.trans hS7⟩
end Go.Proofs.Ythflkfgiclcdiaa
