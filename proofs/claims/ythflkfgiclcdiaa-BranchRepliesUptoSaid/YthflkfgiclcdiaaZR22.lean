/-
  Walk: BranchReplies. Printed by gen_r22.py.
-/
import Derived.Test.YthflkfgiclcdiaaZB19
import Derived.Test.YthflkfgiclcdiaaZR21
namespace Go.Proofs.Ythflkfgiclcdiaa
open Go.RowKit Go.Gr Go.Sort
set_option linter.unusedSimpArgs false
set_option linter.unusedVariables false
set_option maxRecDepth 100000 in
set_option maxHeartbeats 8000000 in
theorem branchReplies_ {w : World} {M M' : Nat → Prop} {er at_ : Int} {rv bv : Value} {rows : List (List DPair)} {b : List UInt8} (he : I64 er) (ha : I64 at_) (hr : (Ty.slice (Ty.slice tPair)).rep w M [rv] rows) (hb : Ty.bytes.rep w M' [bv] b)
    (hz : (replyB er at_ (rows.take 20)).length ≤ 4294967296) (hbl : b.length ≤ 4294967296) :
    Calls Try.prog 8 #[.agg #[.int .i64 er, .int .i64 at_], rv, bv] w fun e w' => e = .returned (.bool true) ∧ Step w w' := by
  obtain ⟨ra, rc, rfl, hrc, hrm, hrl⟩ := Ty.slice_val hr
  obtain ⟨ba, bc, rfl, _⟩ := Ty.slice_val hb
  have hcv : ∀ (W : World) (C : Array Value) (n c g : Nat), g = W.heap.size → (convert 42 42 (.slice (some ⟨g, 0, none⟩) n c)).run Try.prog (W.alloc (.cells C 5)) = .ok (.slice (some ⟨g, 0, none⟩) n c) (W.alloc (.cells C 5 (C.size, C.size + 1))) := fun W C n c g hg => Joins.run_convert_bytes_const_at W _ _ C n c g hg Try.underlying42 Try.underlying5
  have htr := toReplyF_reply he ha (Nat.lt_of_le_of_lt hz (by omega))
  have hter := toReplyF_err b
  have HB := Lib.hid hb
  have hlim : (replyB er at_ (rows.take 20)).length ≤ lim := by rw [lim_eq]; omega
  have HL := Lib.hid hlim
  have HT1 : Hid (∀ (W : World) (v : Value) (M : Nat → Prop), Ty.bytes.rep W M [v] (replyB er at_ (rows.take 20)) → Calls Try.prog 42 #[v] W fun y w' => ∃ rv, y = .returned (.tuple #[.agg (oC er at_ rv (.slice none 0 0)), .int .i64 0]) ∧ (Ty.slice (Ty.slice tPair)).rep w' (fun _ => False) [rv] (rows.take 20) ∧ Step W w') := Lib.hid (fun W v M h => by
    have := ToReply_ h hz
    unfold TrRet at this
    rw [htr] at this
    exact this)
  have HT2 : Hid (∀ (W : World) (v : Value) (M : Nat → Prop), Ty.bytes.rep W M [v] b → Calls Try.prog 42 #[v] W fun y w' => ∃ rv, y = .returned (.tuple #[.agg (oC (toReplyF b).1.err (toReplyF b).1.at_ rv (.slice none 0 0)), .int .i64 (toReplyF b).2]) ∧ (Ty.slice (Ty.slice tPair)).rep w' (fun _ => False) [rv] (toReplyF b).1.rows ∧ Step W w') := Lib.hid (fun W v M h => ToReply_ h hbl)
  generalize toReplyF b = TB at *
  obtain ⟨⟨te, ta, tr, tw⟩, tf⟩ := TB
  simp only at hter HT2
  obtain ⟨rfl, hter⟩ := hter
  have HTER := Lib.hid hter
  have HR : Hid ((Ty.slice (Ty.slice tPair)).rep w M [.slice ra rows.length rc] rows) := Lib.hid hr
  rw [lim_eq] at hrl
  unfold maxLen at hrm
  clear hr hb htr hlim hz hbl hter he ha
  by_cases hx : 20 < rows.length
  · have HR2 : Hid ((Ty.slice (Ty.slice tPair)).rep w M [.slice ra 20 rc] (rows.take 20)) := Lib.hid (Ty.slice_take HR.out (by omega))
    obtain ⟨R20, hR20⟩ : ∃ R, rows.take 20 = R := ⟨_, rfl⟩
    rw [hR20] at HT1 HL HR2
    clear hR20
    obtain ⟨rb0, ro0, ru0, rfl, _⟩ := Ty.slice_at1 rfl HR.out (k := 0) (by omega)
    have hcc : ¬ rc = 0 := by omega
    go_enter Try.func8, Try.ntmps8
    go_upto_region 3 with (go_at_call 23; refine (lawAwake_ _).mono ?_; rintro e w1 ⟨rfl, hS1⟩; have HS1 := Lib.hid hS1; have s1 : ∀ j, w1.cell? ⟨w.heap.size, j, none⟩ = _ := fun j => hS1.cell (by simp) j; have hz1 := hS1.size; simp only [World.size_alloc] at hz1; clear hS1)
    have hS1' : Hid (Step w w1) := Lib.hid (((Step.refl w).alloc _).trans HS1.out)
    refine wp_region_held_drew (S := (fun w' => w'.cell? ⟨w.heap.size, 0, none⟩ = some (.int .i64 er) ∧ w'.cell? ⟨w.heap.size, 1, none⟩ = some (.int .i64 at_))) (by kernel_rfl) ?_ (fun hHeld => ?_)
    · (go_keep)
    refine wpAnyH_take (i := 0) (v := ?_) rfl (by kernel_rfl) (by kernel_rfl) (by kernel_rfl) (fun _ _ _ h => h) (Or.inl ⟨by rfl, ?_⟩) (by assumption) ?_
    rotate_left 1
    · (intro w hSw; (try dsimp only at hSw); go_simp; (try with_reducible rfl))
    try simp only [Act.put, List.getElem_toArray, List.getElem_cons_succ, List.getElem_cons_zero, List.setIfInBounds_toArray, List.set_cons_zero, List.set_cons_succ]
    refine wpAnyH_take (i := 1) (v := ?_) rfl (by kernel_rfl) (by kernel_rfl) (by kernel_rfl) (fun _ _ _ h => h) (Or.inl ⟨by rfl, ?_⟩) (by assumption) ?_
    rotate_left 1
    · (intro w hSw; (try dsimp only at hSw); go_simp; (try with_reducible rfl))
    try simp only [Act.put, List.getElem_toArray, List.getElem_cons_succ, List.getElem_cons_zero, List.setIfInBounds_toArray, List.set_cons_zero, List.set_cons_succ]
    refine wpAnyH_take (i := 2) (v := ?_) rfl (by kernel_rfl) (by kernel_rfl) (by kernel_rfl) (fun _ _ _ h => h) (Or.inl ⟨by rfl, ?_⟩) (by assumption) ?_
    rotate_left 1
    · (intro w hSw; (try dsimp only at hSw); go_simp; (try with_reducible rfl))
    try simp only [Act.put, List.getElem_toArray, List.getElem_cons_succ, List.getElem_cons_zero, List.setIfInBounds_toArray, List.set_cons_zero, List.set_cons_succ]
    refine wpAnyH_take (i := 3) (v := ?_) rfl (by kernel_rfl) (by kernel_rfl) (by kernel_rfl) (fun _ _ _ h => h) (Or.inl ⟨by rfl, ?_⟩) (by assumption) ?_
    rotate_left 1
    · (intro w hSw; (try dsimp only at hSw); go_simp; (try with_reducible rfl))
    try simp only [Act.put, List.getElem_toArray, List.getElem_cons_succ, List.getElem_cons_zero, List.setIfInBounds_toArray, List.set_cons_zero, List.set_cons_succ]
    refine wpAnyH_take (i := 4) (v := ?_) rfl (by kernel_rfl) (by kernel_rfl) (by kernel_rfl) (fun _ _ _ h => h) (Or.inl ⟨by rfl, ?_⟩) (by assumption) ?_
    rotate_left 1
    · (intro w hSw; (try dsimp only at hSw); go_simp; (try with_reducible rfl))
    try simp only [Act.put, List.getElem_toArray, List.getElem_cons_succ, List.getElem_cons_zero, List.setIfInBounds_toArray, List.set_cons_zero, List.set_cons_succ]
    refine wpAnyH_take (i := 5) (v := ?_) rfl (by kernel_rfl) (by kernel_rfl) (by kernel_rfl) (fun _ _ _ h => h) (Or.inl ⟨by rfl, ?_⟩) (by assumption) ?_
    rotate_left 1
    · (intro w hSw; (try dsimp only at hSw); go_simp; (try with_reducible rfl))
    try simp only [Act.put, List.getElem_toArray, List.getElem_cons_succ, List.getElem_cons_zero, List.setIfInBounds_toArray, List.set_cons_zero, List.set_cons_succ]
    refine wpAnyH_done (by kernel_rfl) ?_ _
    refine wp_at (fun w9 => Step w w9) (by first | exact hS1'.out.drew | exact hS1'.out) ?_
    clear s1 HS1 hS1' hz1
    intro w3 hS3
    have HS3 := Lib.hid hS3
    have hzw := hS3.size
    clear hS3
    go_upto_region 7 with fail
    have HRr := Lib.hid (Ty.step _ HR2.out HS3.out)
    go_upto_region 8 with (first
      | (go_at_call 43; refine (oReply_ (M := M) (Ty.step _ HRr.out (by (repeat (first | exact Step.refl _ | refine Step.alloc ?_ _ | refine Step.drew ?_ | refine Step.drewN ?_ _ | refine Step.setCell ?_ (by first | exact Nat.le_refl _ | assumption | omega | (simp; done) | (simp; omega)) _ | assumption | refine Step.trans ?_ (by assumption : Step _ _))))) HL.out).mono ?_; rintro e w4 ⟨v4, rfl, hA4, hS4⟩; obtain ⟨b4, n4, c4, rfl, HN4⟩ := hA4.valN; have HR4 := Lib.hid (hA4.rep (fun _ h => h)); have HS4 := Lib.hid hS4; clear hA4 hS4)
      | (go_at_call 42; refine (HT1.out _ _ _ HR4.out).mono ?_; rintro e w5 ⟨v5, rfl, hR5, hS5⟩; obtain ⟨a5, c5, rfl, _⟩ := Ty.slice_val hR5; have HR5 := Lib.hid hR5; have HS5 := Lib.hid hS5; clear hR5 hS5))
    have hz3 := HS4.out.size
    have hS35 : Hid (Step w3 w5) := Lib.hid ((by (repeat (first | exact Step.refl _ | refine Step.alloc ?_ _ | refine Step.drew ?_ | refine Step.drewN ?_ _ | refine Step.setCell ?_ (by first | exact Nat.le_refl _ | assumption | omega | (simp; done) | (simp; omega)) _ | assumption | refine Step.trans ?_ (by assumption : Step _ _))) : Step w3 _).trans (HS4.out.trans HS5.out))
    go_upto_region 10 with (go_at_call 28; refine (OutcomeIs_ (ws := []) (M := fun _ => False) (M' := M) (Ty.step _ HR5.out (by (repeat (first | exact Step.refl _ | refine Step.alloc ?_ _ | refine Step.drew ?_ | refine Step.drewN ?_ _ | refine Step.setCell ?_ (by first | exact Nat.le_refl _ | assumption | omega | (simp; done) | (simp; omega)) _ | assumption | refine Step.trans ?_ (by assumption : Step _ _))))) nil_repW (Ty.step _ HRr.out (hS35.out.trans (by (repeat (first | exact Step.refl _ | refine Step.alloc ?_ _ | refine Step.drew ?_ | refine Step.drewN ?_ _ | refine Step.setCell ?_ (by first | exact Nat.le_refl _ | assumption | omega | (simp; done) | (simp; omega)) _ | assumption | refine Step.trans ?_ (by assumption : Step _ _)))))) nil_repW).mono ?_; rintro e w6 ⟨rfl, hS6⟩; have HS6 := Lib.hid hS6; clear hS6)
    have hS6w : Hid (Step w w6) := Lib.hid (HS3.out.trans (hS35.out.trans (Step.trans ((Step.refl _).alloc _) HS6.out)))
    clear HS4 HS5 HS6 hS35 HR4 HR5 HRr HS3 HR2 HN4 hz3
    go_upto_region 11 with (first
      | (go_at_call 44; refine (Copy_ _ M' _ _ (Ty.step _ HB.out (by exact hS6w.out))).mono ?_; rintro e w7 ⟨v7, rfl, hA7, hS7⟩; obtain ⟨b7, n7, c7, rfl, HN7⟩ := hA7.valN; have HR7 := Lib.hid (hA7.rep (fun _ h => h)); have HS7 := Lib.hid hS7; clear hA7 hS7)
      | (go_at_call 42; refine (HT2.out _ _ _ HR7.out).mono ?_; rintro e w8 ⟨v8, rfl, hR8, hS8⟩; obtain ⟨a8, c8, rfl, _⟩ := Ty.slice_val hR8; have HR8 := Lib.hid hR8; have HS8 := Lib.hid hS8; clear hR8 hS8))
    have hS8w : Hid (Step w w8) := Lib.hid (hS6w.out.trans (HS7.out.trans HS8.out))
    clear hS6w HS7 HS8 HR7
    rcases HTER.out with h0 | ⟨h0, h1⟩
    · obtain rfl : tf = 0 := h0
      go_wp2
      go_ret
      exact ⟨rfl, hS8w.out.alloc _⟩
    · simp only [DOutcome.mk.injEq] at h1
      obtain ⟨rfl, rfl, rfl, _⟩ := h1
      simp only [List.length_nil] at HR8 ⊢
      rcases h0 with h0 | h0
      · obtain rfl : tf = 3 := h0
        go_wp2_with (go_at_call 28; refine (OutcomeIs_ (rows := []) (ws := []) (M := fun _ => False) (M' := M) (Ty.step _ HR8.out (by (repeat (first | exact Step.refl _ | refine Step.alloc ?_ _ | refine Step.drew ?_ | refine Step.drewN ?_ _ | refine Step.setCell ?_ (by first | exact Nat.le_refl _ | assumption | omega | (simp; done) | (simp; omega)) _ | assumption | refine Step.trans ?_ (by assumption : Step _ _))))) nil_repW nil_repR nil_repW).mono ?_; rintro e w9 ⟨rfl, hS9⟩; have HS9 := Lib.hid hS9; clear hS9)
        go_ret
        exact ⟨rfl, (hS8w.out.alloc _).trans HS9.out⟩
      · obtain rfl : tf = 5 := h0
        go_wp2_with (go_at_call 28; refine (OutcomeIs_ (rows := []) (ws := []) (M := fun _ => False) (M' := M) (Ty.step _ HR8.out (by (repeat (first | exact Step.refl _ | refine Step.alloc ?_ _ | refine Step.drew ?_ | refine Step.drewN ?_ _ | refine Step.setCell ?_ (by first | exact Nat.le_refl _ | assumption | omega | (simp; done) | (simp; omega)) _ | assumption | refine Step.trans ?_ (by assumption : Step _ _))))) nil_repW nil_repR nil_repW).mono ?_; rintro e w9 ⟨rfl, hS9⟩; have HS9 := Lib.hid hS9; clear hS9)
        go_ret
        exact ⟨rfl, (hS8w.out.alloc _).trans HS9.out⟩
  · have htk : rows.take 20 = rows := List.take_of_length_le (by omega)
    rw [htk] at HT1 HL
    have HR2 := HR
    go_enter Try.func8, Try.ntmps8
    go_upto_region 3 with (go_at_call 23; refine (lawAwake_ _).mono ?_; rintro e w1 ⟨rfl, hS1⟩; have HS1 := Lib.hid hS1; have s1 : ∀ j, w1.cell? ⟨w.heap.size, j, none⟩ = _ := fun j => hS1.cell (by simp) j; have hz1 := hS1.size; simp only [World.size_alloc] at hz1; clear hS1)
    have hS1' : Hid (Step w w1) := Lib.hid (((Step.refl w).alloc _).trans HS1.out)
    refine wp_region_held_drew (S := (fun w' => w'.cell? ⟨w.heap.size, 0, none⟩ = some (.int .i64 er) ∧ w'.cell? ⟨w.heap.size, 1, none⟩ = some (.int .i64 at_))) (by kernel_rfl) ?_ (fun hHeld => ?_)
    · (go_keep)
    refine wpAnyH_take (i := 0) (v := ?_) rfl (by kernel_rfl) (by kernel_rfl) (by kernel_rfl) (fun _ _ _ h => h) (Or.inl ⟨by rfl, ?_⟩) (by assumption) ?_
    rotate_left 1
    · (intro w hSw; (try dsimp only at hSw); go_simp; (try with_reducible rfl))
    try simp only [Act.put, List.getElem_toArray, List.getElem_cons_succ, List.getElem_cons_zero, List.setIfInBounds_toArray, List.set_cons_zero, List.set_cons_succ]
    refine wpAnyH_take (i := 1) (v := ?_) rfl (by kernel_rfl) (by kernel_rfl) (by kernel_rfl) (fun _ _ _ h => h) (Or.inl ⟨by rfl, ?_⟩) (by assumption) ?_
    rotate_left 1
    · (intro w hSw; (try dsimp only at hSw); go_simp; (try with_reducible rfl))
    try simp only [Act.put, List.getElem_toArray, List.getElem_cons_succ, List.getElem_cons_zero, List.setIfInBounds_toArray, List.set_cons_zero, List.set_cons_succ]
    refine wpAnyH_take (i := 2) (v := ?_) rfl (by kernel_rfl) (by kernel_rfl) (by kernel_rfl) (fun _ _ _ h => h) (Or.inl ⟨by rfl, ?_⟩) (by assumption) ?_
    rotate_left 1
    · (intro w hSw; (try dsimp only at hSw); go_simp; (try with_reducible rfl))
    try simp only [Act.put, List.getElem_toArray, List.getElem_cons_succ, List.getElem_cons_zero, List.setIfInBounds_toArray, List.set_cons_zero, List.set_cons_succ]
    refine wpAnyH_take (i := 3) (v := ?_) rfl (by kernel_rfl) (by kernel_rfl) (by kernel_rfl) (fun _ _ _ h => h) (Or.inl ⟨by rfl, ?_⟩) (by assumption) ?_
    rotate_left 1
    · (intro w hSw; (try dsimp only at hSw); go_simp; (try with_reducible rfl))
    try simp only [Act.put, List.getElem_toArray, List.getElem_cons_succ, List.getElem_cons_zero, List.setIfInBounds_toArray, List.set_cons_zero, List.set_cons_succ]
    refine wpAnyH_take (i := 4) (v := ?_) rfl (by kernel_rfl) (by kernel_rfl) (by kernel_rfl) (fun _ _ _ h => h) (Or.inl ⟨by rfl, ?_⟩) (by assumption) ?_
    rotate_left 1
    · (intro w hSw; (try dsimp only at hSw); go_simp; (try with_reducible rfl))
    try simp only [Act.put, List.getElem_toArray, List.getElem_cons_succ, List.getElem_cons_zero, List.setIfInBounds_toArray, List.set_cons_zero, List.set_cons_succ]
    refine wpAnyH_take (i := 5) (v := ?_) rfl (by kernel_rfl) (by kernel_rfl) (by kernel_rfl) (fun _ _ _ h => h) (Or.inl ⟨by rfl, ?_⟩) (by assumption) ?_
    rotate_left 1
    · (intro w hSw; (try dsimp only at hSw); go_simp; (try with_reducible rfl))
    try simp only [Act.put, List.getElem_toArray, List.getElem_cons_succ, List.getElem_cons_zero, List.setIfInBounds_toArray, List.set_cons_zero, List.set_cons_succ]
    refine wpAnyH_done (by kernel_rfl) ?_ _
    refine wp_at (fun w9 => Step w w9) (by first | exact hS1'.out.drew | exact hS1'.out) ?_
    clear s1 HS1 hS1' hz1
    intro w3 hS3
    have HS3 := Lib.hid hS3
    have hzw := hS3.size
    clear hS3
    go_upto_region 7 with fail
    have HRr := Lib.hid (Ty.step _ HR2.out HS3.out)
    go_upto_region 8 with (first
      | (go_at_call 43; refine (oReply_ (M := M) (Ty.step _ HRr.out (by (repeat (first | exact Step.refl _ | refine Step.alloc ?_ _ | refine Step.drew ?_ | refine Step.drewN ?_ _ | refine Step.setCell ?_ (by first | exact Nat.le_refl _ | assumption | omega | (simp; done) | (simp; omega)) _ | assumption | refine Step.trans ?_ (by assumption : Step _ _))))) HL.out).mono ?_; rintro e w4 ⟨v4, rfl, hA4, hS4⟩; obtain ⟨b4, n4, c4, rfl, HN4⟩ := hA4.valN; have HR4 := Lib.hid (hA4.rep (fun _ h => h)); have HS4 := Lib.hid hS4; clear hA4 hS4)
      | (go_at_call 42; refine (HT1.out _ _ _ HR4.out).mono ?_; rintro e w5 ⟨v5, rfl, hR5, hS5⟩; obtain ⟨a5, c5, rfl, _⟩ := Ty.slice_val hR5; have HR5 := Lib.hid hR5; have HS5 := Lib.hid hS5; clear hR5 hS5))
    have hz3 := HS4.out.size
    have hS35 : Hid (Step w3 w5) := Lib.hid ((by (repeat (first | exact Step.refl _ | refine Step.alloc ?_ _ | refine Step.drew ?_ | refine Step.drewN ?_ _ | refine Step.setCell ?_ (by first | exact Nat.le_refl _ | assumption | omega | (simp; done) | (simp; omega)) _ | assumption | refine Step.trans ?_ (by assumption : Step _ _))) : Step w3 _).trans (HS4.out.trans HS5.out))
    go_upto_region 10 with (go_at_call 28; refine (OutcomeIs_ (ws := []) (M := fun _ => False) (M' := M) (Ty.step _ HR5.out (by (repeat (first | exact Step.refl _ | refine Step.alloc ?_ _ | refine Step.drew ?_ | refine Step.drewN ?_ _ | refine Step.setCell ?_ (by first | exact Nat.le_refl _ | assumption | omega | (simp; done) | (simp; omega)) _ | assumption | refine Step.trans ?_ (by assumption : Step _ _))))) nil_repW (Ty.step _ HRr.out (hS35.out.trans (by (repeat (first | exact Step.refl _ | refine Step.alloc ?_ _ | refine Step.drew ?_ | refine Step.drewN ?_ _ | refine Step.setCell ?_ (by first | exact Nat.le_refl _ | assumption | omega | (simp; done) | (simp; omega)) _ | assumption | refine Step.trans ?_ (by assumption : Step _ _)))))) nil_repW).mono ?_; rintro e w6 ⟨rfl, hS6⟩; have HS6 := Lib.hid hS6; clear hS6)
    have hS6w : Hid (Step w w6) := Lib.hid (HS3.out.trans (hS35.out.trans (Step.trans ((Step.refl _).alloc _) HS6.out)))
    clear HS4 HS5 HS6 hS35 HR4 HR5 HRr HS3 HR2 HN4 hz3
    go_upto_region 11 with (first
      | (go_at_call 44; refine (Copy_ _ M' _ _ (Ty.step _ HB.out (by exact hS6w.out))).mono ?_; rintro e w7 ⟨v7, rfl, hA7, hS7⟩; obtain ⟨b7, n7, c7, rfl, HN7⟩ := hA7.valN; have HR7 := Lib.hid (hA7.rep (fun _ h => h)); have HS7 := Lib.hid hS7; clear hA7 hS7)
      | (go_at_call 42; refine (HT2.out _ _ _ HR7.out).mono ?_; rintro e w8 ⟨v8, rfl, hR8, hS8⟩; obtain ⟨a8, c8, rfl, _⟩ := Ty.slice_val hR8; have HR8 := Lib.hid hR8; have HS8 := Lib.hid hS8; clear hR8 hS8))
    have hS8w : Hid (Step w w8) := Lib.hid (hS6w.out.trans (HS7.out.trans HS8.out))
    clear hS6w HS7 HS8 HR7
    rcases HTER.out with h0 | ⟨h0, h1⟩
    · obtain rfl : tf = 0 := h0
      go_wp2
      go_ret
      exact ⟨rfl, hS8w.out.alloc _⟩
    · simp only [DOutcome.mk.injEq] at h1
      obtain ⟨rfl, rfl, rfl, _⟩ := h1
      simp only [List.length_nil] at HR8 ⊢
      rcases h0 with h0 | h0
      · obtain rfl : tf = 3 := h0
        go_wp2_with (go_at_call 28; refine (OutcomeIs_ (rows := []) (ws := []) (M := fun _ => False) (M' := M) (Ty.step _ HR8.out (by (repeat (first | exact Step.refl _ | refine Step.alloc ?_ _ | refine Step.drew ?_ | refine Step.drewN ?_ _ | refine Step.setCell ?_ (by first | exact Nat.le_refl _ | assumption | omega | (simp; done) | (simp; omega)) _ | assumption | refine Step.trans ?_ (by assumption : Step _ _))))) nil_repW nil_repR nil_repW).mono ?_; rintro e w9 ⟨rfl, hS9⟩; have HS9 := Lib.hid hS9; clear hS9)
        go_ret
        exact ⟨rfl, (hS8w.out.alloc _).trans HS9.out⟩
      · obtain rfl : tf = 5 := h0
        go_wp2_with (go_at_call 28; refine (OutcomeIs_ (rows := []) (ws := []) (M := fun _ => False) (M' := M) (Ty.step _ HR8.out (by (repeat (first | exact Step.refl _ | refine Step.alloc ?_ _ | refine Step.drew ?_ | refine Step.drewN ?_ _ | refine Step.setCell ?_ (by first | exact Nat.le_refl _ | assumption | omega | (simp; done) | (simp; omega)) _ | assumption | refine Step.trans ?_ (by assumption : Step _ _))))) nil_repW nil_repR nil_repW).mono ?_; rintro e w9 ⟨rfl, hS9⟩; have HS9 := Lib.hid hS9; clear hS9)
        go_ret
        exact ⟨rfl, (hS8w.out.alloc _).trans HS9.out⟩
end Go.Proofs.Ythflkfgiclcdiaa
