/-
  Walks: a record that is being read, field by field (field): the letters A, C, N, I, T.
  Walks: a record that is being read, field by field: the letters I, T.
  Walks: a record that is being read, field by field: the letters W, R.
-/
import Derived.Test.YthflkfgiclcdiaaZP14
import Derived.Test.YthflkfgiclcdiaaZConvB
namespace Go.Proofs.Ythflkfgiclcdiaa
open Go.RowKit Go.Gr
set_option linter.unusedSimpArgs false
/-- A record that is being read: the reader at rb, the record's cells at ob, its writes from block B on; the parts meet nothing of M, nor the writes' block. -/
def RS (W : World) (M : Nat → Prop) (B rb ob : Nat) (kind : Int) (ps : List (List UInt8)) (e : Int) (ws : List DWrite) (fw fr fs : Bool) : Prop :=
  ∃ (v : Value) (x : DTxn) (vw : Value) (ra : Option Addr) (rn rc : Nat) (cm : Bool) (sa : Option Addr) (sn sc : Nat) (ya : Option Addr) (yn yc id : Nat) (nm : ByteArray),
    RcAt W rb v e ∧ (Ty.slice Ty.bytes).rep W (fun b => M b ∨ vw.ownBlock = some b) [v] ps ∧
    CellsAt W ob (recC kind x vw (.slice ra rn rc) cm (.slice sa sn sc) (.slice ya yn yc) id nm) 154 ∧ Own tWrite 74 W (· < B) B vw ws ∧
    (fw = true → vw = .slice none 0 0) ∧ (fr = true → Value.slice ra rn rc = .slice none 0 0) ∧ (fs = true → Value.slice sa sn sc = .slice none 0 0)
/-- Where the reader and the record lie. -/
structure RK (M : Nat → Prop) (B rb ob : Nat) : Prop where
  mr : M rb
  mo : M ob
  mb : ∀ b, M b → b < B
  ne : rb ≠ ob
abbrev TB (B rb ob : Nat) (W w' : World) : Prop := Turn (fun b => b = rb ∨ b = ob ∨ B ≤ b) W w'
theorem RS.ends {W Wb w1 : World} {M : Nat → Prop} {B rb ob : Nat} {kind : Int} {x : DTxn} {vw vr : Value} {cm : Bool} {vs vy : Value} {id : Nat} {nm : ByteArray} {ws : List DWrite} (K : RK M B rb ob)
    (hC : CellsAt W ob (recC kind x vw vr cm vs vy id nm) 154) (hA : Own tWrite 74 W (· < B) B vw ws) (hs : Step W Wb) (hT : Turn (· = rb) Wb w1) :
    CellsAt w1 ob (recC kind x vw vr cm vs vy id nm) 154 ∧ Own tWrite 74 w1 (· < B) B vw ws ∧ TB B rb ob W w1 := by
  have hz := hs.size
  have hol := hC.lt
  have hrB := K.mb _ K.mr
  refine ⟨(hC.step hs).kept (hT.block ob (by omega) (fun e => K.ne e.symm)), Own.kept (hA.step hs) (hT.kept.mono (fun b hb => by subst hb; exact hrB)) (fun g hg => hT.block g (by have := (hA.lt hg).2; omega) (fun e => by have := (hA.lt hg).1; omega)), ?_⟩
  exact ((Turn.of hs).trans hT).mono (fun b _ hb => .inl hb)
theorem RS.fin {W w1 W' : World} {M : Nat → Prop} {B rb ob : Nat} {v vw : Value} {e : Int} {ps : List (List UInt8)} {cs : Array Value} {ws : List DWrite} (K : RK M B rb ob) (hR : RcAt w1 rb v e) (hP : (Ty.slice Ty.bytes).rep w1 (fun b => M b ∨ vw.ownBlock = some b) [v] ps)
    (hC : CellsAt w1 ob cs 154) (hA : Own tWrite 74 w1 (· < B) B vw ws) (hT : TB B rb ob W w1) {j : Nat} {u : Value} (hW : W' = w1.setCell ⟨ob, j, none⟩ u ∨ W' = (w1.setCell ⟨ob, j, none⟩ u).drew) :
    RcAt W' rb v e ∧ (Ty.slice Ty.bytes).rep W' (fun b => M b ∨ vw.ownBlock = some b) [v] ps ∧ CellsAt W' ob (cs.setIfInBounds j u) 154 ∧ Own tWrite 74 W' (· < B) B vw ws ∧ TB B rb ob W W' := by
  have h1 : RcAt (w1.setCell ⟨ob, j, none⟩ u) rb v e := CellsAt.other hR (p := ⟨ob, j, none⟩) K.ne u
  have h2 := Ty.kept _ hP (Kept.setCell (M := fun b => M b ∨ vw.ownBlock = some b) w1 ⟨ob, j, none⟩ u (.inl K.mo))
  have h3 := CellsAt.set hC j u
  have h4 := Own.set hA (p := ⟨ob, j, none⟩) (K.mb _ K.mo) (K.mb _ K.mo) u
  have h5 := hT.setCell (p := ⟨ob, j, none⟩) (fun _ => .inr (.inl rfl)) u
  rcases hW with rfl | rfl
  · exact ⟨h1, h2, h3, h4, h5⟩
  · exact ⟨CellsAt.step h1 ((Step.refl _).drew), Ty.step _ h2 ((Step.refl _).drew), CellsAt.step h3 ((Step.refl _).drew), h4.drew, h5.drew⟩
set_option maxRecDepth 100000 in
set_option maxHeartbeats 4000000 in
theorem rcField_A {W : World} {M : Nat → Prop} {B rb ob : Nat} {kind : Int} {ps : List (List UInt8)} {e : Int} {ws : List DWrite} {fw fr fs : Bool} (h : RS W M B rb ob kind ps e ws fw fr fs) (K : RK M B rb ob) (hB : B ≤ W.heap.size) :
    Calls Try.prog 111 #[.pointer (some ⟨rb, 0, none⟩), .pointer (some ⟨ob, 0, none⟩), .int .i32 65] W fun y w' => y = .returned (.tuple #[]) ∧ RS w' M B rb ob kind (nextF ps e).2.1 (nextF ps e).2.2 ws fw fr fs ∧ TB B rb ob W w' := by
  obtain ⟨v, x, vw, ra, rn, rc, cm, sa, sn, sc, ya, yn, yc, id, nm, hR, hP, hC, hA, h1, h2, h3⟩ := h
  have HR := Lib.hid hR
  have HP := Lib.hid hP
  have HC := Lib.hid hC
  have HA := Lib.hid hA
  have H1 := Lib.hid h1
  have H2 := Lib.hid h2
  have H3 := Lib.hid h3
  have HK := Lib.hid K
  have hob := hC.lt
  clear hR hP hC hA h1 h2 h3 K
  go_enter Try.func111, Try.ntmps111
  go_upto_region 19 with fail
  refine wp_region_cut (S := (fun w' => w'.cell? ⟨W.heap.size, 0, none⟩ = some (.pointer (some ⟨ob, 0, none⟩)))) 5 (by kernel_rfl) ?_ (fun hHeld => ?_)
  · (go_keep)
  refine wpAnyC_take (i := 0) (v := ?_) rfl (by kernel_rfl) (by kernel_rfl) (by kernel_rfl) (by decide) [3, 4, 5] (by kernel_rfl) (fun _ _ _ h => h) (Or.inl ⟨by rfl, ?_⟩) (by assumption) ?_
  rotate_left 1
  · (intro w hSw; (try dsimp only at hSw); go_simp; (try with_reducible rfl))
  try simp only [Act.put, List.getElem_toArray, List.getElem_cons_succ, List.getElem_cons_zero, List.setIfInBounds_toArray, List.set_cons_zero, List.set_cons_succ]
  refine wpAnyC_take (i := 1) (v := ?_) rfl (by kernel_rfl) (by kernel_rfl) (by kernel_rfl) (by decide) [2, 3, 4, 5] (by kernel_rfl) (fun _ _ _ h => h) (Or.inl ⟨by rfl, ?_⟩) (by assumption) ?_
  rotate_left 1
  · (intro w hSw; (try dsimp only at hSw); go_simp; (try with_reducible rfl))
  try simp only [Act.put, List.getElem_toArray, List.getElem_cons_succ, List.getElem_cons_zero, List.setIfInBounds_toArray, List.set_cons_zero, List.set_cons_succ]
  refine wpAnyC_ready (rs := [2]) (by kernel_rfl) (by simp) ?_
  refine AllReadyC.cons rfl (by decide) (fun K hK => ?_) AllReadyC.nil
  try simp only [List.getElem_toArray, List.getElem_cons_succ, List.getElem_cons_zero]
  go_simp
  (go_at_call 109; refine (rcNext_ (CellsAt.step HR.out (by (repeat (first | exact Step.refl _ | refine Step.alloc ?_ _ | refine Step.drew ?_ | refine Step.drewN ?_ _ | refine Step.setCell ?_ (by first | exact Nat.le_refl _ | assumption | omega | (simp; done) | (simp; omega)) _ | assumption | refine Step.trans ?_ (by assumption : Step _ _))))) (Ty.step _ HP.out (by (repeat (first | exact Step.refl _ | refine Step.alloc ?_ _ | refine Step.drew ?_ | refine Step.drewN ?_ _ | refine Step.setCell ?_ (by first | exact Nat.le_refl _ | assumption | omega | (simp; done) | (simp; omega)) _ | assumption | refine Step.trans ?_ (by assumption : Step _ _))))) (.inl HK.out.mr)).mono ?_; rintro y w1 ⟨p', v', rfl, hp, hC1, hv, hT⟩; obtain ⟨pa, pk, rfl, _⟩ := Ty.slice_val hp; have k0 : w1.cell? ⟨W.heap.size, 0, none⟩ = some (.pointer (some ⟨ob, 0, none⟩)) := (hT.cell (by simp) (fun e => by have := HK.out.mb _ HK.out.mr; omega) 0).trans (by simp); have hE := Lib.hid (RS.ends HK.out HC.out HA.out (by (repeat (first | exact Step.refl _ | refine Step.alloc ?_ _ | refine Step.drew ?_ | refine Step.drewN ?_ _ | refine Step.setCell ?_ (by first | exact Nat.le_refl _ | assumption | omega | (simp; done) | (simp; omega)) _ | assumption | refine Step.trans ?_ (by assumption : Step _ _)))) hT); have g6 : w1.frozen? ⟨ob, 8, none⟩ = false := hE.out.1.frozen 8; have c6 : w1.cell? ⟨ob, 8, none⟩ = some _ := hE.out.1.cell 8; have HC1 := Lib.hid hC1; have HV := Lib.hid hv; clear hp hC1 hv hT)
  refine hK.out _ _ ?_ (fun hHeld => ?_)
  · (go_keep)
  clear hK K
  try simp only [Act.put, List.getElem_toArray, List.getElem_cons_succ, List.getElem_cons_zero, List.setIfInBounds_toArray, List.set_cons_zero, List.set_cons_succ]
  refine wpAnyC_take (i := 3) (v := ?_) rfl (by kernel_rfl) (by kernel_rfl) (by kernel_rfl) (by decide) [4, 5] (by kernel_rfl) (fun _ _ _ h => h) (Or.inl ⟨by rfl, ?_⟩) (by assumption) ?_
  rotate_left 1
  · (intro w hSw; (try dsimp only at hSw); go_simp; (try with_reducible rfl))
  try simp only [Act.put, List.getElem_toArray, List.getElem_cons_succ, List.getElem_cons_zero, List.setIfInBounds_toArray, List.set_cons_zero, List.set_cons_succ]
  refine wpAnyC_take (i := 4) (v := ?_) rfl (by kernel_rfl) (by kernel_rfl) (by kernel_rfl) (by decide) [5] (by kernel_rfl) (fun _ _ _ h => h) (Or.inl ⟨by rfl, ?_⟩) (by assumption) ?_
  rotate_left 1
  · (intro w hSw; (try dsimp only at hSw); go_simp; (try with_reducible rfl))
  try simp only [Act.put, List.getElem_toArray, List.getElem_cons_succ, List.getElem_cons_zero, List.setIfInBounds_toArray, List.set_cons_zero, List.set_cons_succ]
  refine wpAnyC_ready (rs := [5]) (by kernel_rfl) (by simp) ?_
  refine AllReadyC.cut rfl (fun K hK => ?_)
  try simp only [List.getElem_toArray, List.getElem_cons_succ, List.getElem_cons_zero]
  go_simp
  refine hK.out _ _ trivial (fun hHeld => ?_)
  clear hK K
  try simp only [Act.put, List.getElem_toArray, List.getElem_cons_succ, List.getElem_cons_zero, List.setIfInBounds_toArray, List.set_cons_zero, List.set_cons_succ]
  have hTrue : True := trivial
  refine wpAnyH_done (by kernel_rfl) ?_ _
  refine wp_at (fun W' => W' = w1.setCell ⟨ob, 8, none⟩ (.slice pa (nextF ps e).1.length pk) ∨ W' = (w1.setCell ⟨ob, 8, none⟩ (.slice pa (nextF ps e).1.length pk)).drew) (by first | exact .inl rfl | exact .inr rfl) ?_
  rintro W' hW'
  have HW' := Lib.hid hW'
  clear hW'
  go_wp2
  refine bodyPost_end (results_none rfl _ _ _) rfl ?_
  obtain ⟨z1, z2, z3, z4, z5⟩ := RS.fin HK.out HC1.out HV.out hE.out.1 hE.out.2.1 hE.out.2.2 HW'.out
  exact ⟨rfl, ⟨_, x, vw, ra, rn, rc, cm, sa, sn, sc, pa, _, pk, id, nm, z1, z2, z3, z4, H1.out, H2.out, H3.out⟩, z5⟩
set_option maxRecDepth 100000 in
set_option maxHeartbeats 4000000 in
theorem rcField_C {W : World} {M : Nat → Prop} {B rb ob : Nat} {kind : Int} {ps : List (List UInt8)} {e : Int} {ws : List DWrite} {fw fr fs : Bool} (h : RS W M B rb ob kind ps e ws fw fr fs) (K : RK M B rb ob) (hB : B ≤ W.heap.size) :
    Calls Try.prog 111 #[.pointer (some ⟨rb, 0, none⟩), .pointer (some ⟨ob, 0, none⟩), .int .i32 67] W fun y w' => y = .returned (.tuple #[]) ∧ RS w' M B rb ob kind (truthF ps e).2.1 (truthF ps e).2.2 ws fw fr fs ∧ TB B rb ob W w' := by
  obtain ⟨v, x, vw, ra, rn, rc, cm, sa, sn, sc, ya, yn, yc, id, nm, hR, hP, hC, hA, h1, h2, h3⟩ := h
  have HR := Lib.hid hR
  have HP := Lib.hid hP
  have HC := Lib.hid hC
  have HA := Lib.hid hA
  have H1 := Lib.hid h1
  have H2 := Lib.hid h2
  have H3 := Lib.hid h3
  have HK := Lib.hid K
  have hob := hC.lt
  clear hR hP hC hA h1 h2 h3 K
  go_enter Try.func111, Try.ntmps111
  go_upto_region 11 with fail
  refine wp_region_cut (S := (fun w' => w'.cell? ⟨W.heap.size, 0, none⟩ = some (.pointer (some ⟨ob, 0, none⟩)))) 5 (by kernel_rfl) ?_ (fun hHeld => ?_)
  · (go_keep)
  refine wpAnyC_take (i := 0) (v := ?_) rfl (by kernel_rfl) (by kernel_rfl) (by kernel_rfl) (by decide) [3, 4, 5] (by kernel_rfl) (fun _ _ _ h => h) (Or.inl ⟨by rfl, ?_⟩) (by assumption) ?_
  rotate_left 1
  · (intro w hSw; (try dsimp only at hSw); go_simp; (try with_reducible rfl))
  try simp only [Act.put, List.getElem_toArray, List.getElem_cons_succ, List.getElem_cons_zero, List.setIfInBounds_toArray, List.set_cons_zero, List.set_cons_succ]
  refine wpAnyC_take (i := 1) (v := ?_) rfl (by kernel_rfl) (by kernel_rfl) (by kernel_rfl) (by decide) [2, 3, 4, 5] (by kernel_rfl) (fun _ _ _ h => h) (Or.inl ⟨by rfl, ?_⟩) (by assumption) ?_
  rotate_left 1
  · (intro w hSw; (try dsimp only at hSw); go_simp; (try with_reducible rfl))
  try simp only [Act.put, List.getElem_toArray, List.getElem_cons_succ, List.getElem_cons_zero, List.setIfInBounds_toArray, List.set_cons_zero, List.set_cons_succ]
  refine wpAnyC_ready (rs := [2]) (by kernel_rfl) (by simp) ?_
  refine AllReadyC.cons rfl (by decide) (fun K hK => ?_) AllReadyC.nil
  try simp only [List.getElem_toArray, List.getElem_cons_succ, List.getElem_cons_zero]
  go_simp
  (go_at_call 127; refine (rcTruth_ (CellsAt.step HR.out (by (repeat (first | exact Step.refl _ | refine Step.alloc ?_ _ | refine Step.drew ?_ | refine Step.drewN ?_ _ | refine Step.setCell ?_ (by first | exact Nat.le_refl _ | assumption | omega | (simp; done) | (simp; omega)) _ | assumption | refine Step.trans ?_ (by assumption : Step _ _))))) (Ty.step _ HP.out (by (repeat (first | exact Step.refl _ | refine Step.alloc ?_ _ | refine Step.drew ?_ | refine Step.drewN ?_ _ | refine Step.setCell ?_ (by first | exact Nat.le_refl _ | assumption | omega | (simp; done) | (simp; omega)) _ | assumption | refine Step.trans ?_ (by assumption : Step _ _))))) (.inl HK.out.mr)).mono ?_; rintro y w1 ⟨rfl, ⟨v', hC1, hv⟩, hT⟩; have k0 : w1.cell? ⟨W.heap.size, 0, none⟩ = some (.pointer (some ⟨ob, 0, none⟩)) := (hT.cell (by simp) (fun e => by have := HK.out.mb _ HK.out.mr; omega) 0).trans (by simp); have hE := Lib.hid (RS.ends HK.out HC.out HA.out (by (repeat (first | exact Step.refl _ | refine Step.alloc ?_ _ | refine Step.drew ?_ | refine Step.drewN ?_ _ | refine Step.setCell ?_ (by first | exact Nat.le_refl _ | assumption | omega | (simp; done) | (simp; omega)) _ | assumption | refine Step.trans ?_ (by assumption : Step _ _)))) hT); have g6 : w1.frozen? ⟨ob, 6, none⟩ = false := hE.out.1.frozen 6; have c6 : w1.cell? ⟨ob, 6, none⟩ = some _ := hE.out.1.cell 6; have HC1 := Lib.hid hC1; have HV := Lib.hid hv; clear hC1 hv hT)
  refine hK.out _ _ ?_ (fun hHeld => ?_)
  · (go_keep)
  clear hK K
  try simp only [Act.put, List.getElem_toArray, List.getElem_cons_succ, List.getElem_cons_zero, List.setIfInBounds_toArray, List.set_cons_zero, List.set_cons_succ]
  refine wpAnyC_take (i := 3) (v := ?_) rfl (by kernel_rfl) (by kernel_rfl) (by kernel_rfl) (by decide) [4, 5] (by kernel_rfl) (fun _ _ _ h => h) (Or.inl ⟨by rfl, ?_⟩) (by assumption) ?_
  rotate_left 1
  · (intro w hSw; (try dsimp only at hSw); go_simp; (try with_reducible rfl))
  try simp only [Act.put, List.getElem_toArray, List.getElem_cons_succ, List.getElem_cons_zero, List.setIfInBounds_toArray, List.set_cons_zero, List.set_cons_succ]
  refine wpAnyC_take (i := 4) (v := ?_) rfl (by kernel_rfl) (by kernel_rfl) (by kernel_rfl) (by decide) [5] (by kernel_rfl) (fun _ _ _ h => h) (Or.inl ⟨by rfl, ?_⟩) (by assumption) ?_
  rotate_left 1
  · (intro w hSw; (try dsimp only at hSw); go_simp; (try with_reducible rfl))
  try simp only [Act.put, List.getElem_toArray, List.getElem_cons_succ, List.getElem_cons_zero, List.setIfInBounds_toArray, List.set_cons_zero, List.set_cons_succ]
  refine wpAnyC_ready (rs := [5]) (by kernel_rfl) (by simp) ?_
  refine AllReadyC.cut rfl (fun K hK => ?_)
  try simp only [List.getElem_toArray, List.getElem_cons_succ, List.getElem_cons_zero]
  go_simp
  refine hK.out _ _ trivial (fun hHeld => ?_)
  clear hK K
  try simp only [Act.put, List.getElem_toArray, List.getElem_cons_succ, List.getElem_cons_zero, List.setIfInBounds_toArray, List.set_cons_zero, List.set_cons_succ]
  have hTrue : True := trivial
  refine wpAnyH_done (by kernel_rfl) ?_ _
  refine wp_at (fun W' => W' = w1.setCell ⟨ob, 6, none⟩ (.bool (truthF ps e).1) ∨ W' = (w1.setCell ⟨ob, 6, none⟩ (.bool (truthF ps e).1)).drew) (by first | exact .inl rfl | exact .inr rfl) ?_
  rintro W' hW'
  have HW' := Lib.hid hW'
  clear hW'
  go_wp2
  refine bodyPost_end (results_none rfl _ _ _) rfl ?_
  obtain ⟨z1, z2, z3, z4, z5⟩ := RS.fin HK.out HC1.out HV.out hE.out.1 hE.out.2.1 hE.out.2.2 HW'.out
  exact ⟨rfl, ⟨_, x, vw, ra, rn, rc, (truthF ps e).1, sa, sn, sc, ya, yn, yc, id, nm, z1, z2, z3, z4, H1.out, H2.out, H3.out⟩, z5⟩
set_option maxRecDepth 100000 in
set_option maxHeartbeats 4000000 in
theorem rcField_N {W : World} {M : Nat → Prop} {B rb ob : Nat} {kind : Int} {ps : List (List UInt8)} {e : Int} {ws : List DWrite} {fw fr fs : Bool} (h : RS W M B rb ob kind ps e ws fw fr fs) (K : RK M B rb ob) (hB : B ≤ W.heap.size) :
    Calls Try.prog 111 #[.pointer (some ⟨rb, 0, none⟩), .pointer (some ⟨ob, 0, none⟩), .int .i32 78] W fun y w' => y = .returned (.tuple #[]) ∧ RS w' M B rb ob kind (nextF ps e).2.1 (nextF ps e).2.2 ws fw fr fs ∧ TB B rb ob W w' := by
  obtain ⟨v, x, vw, ra, rn, rc, cm, sa, sn, sc, ya, yn, yc, id, nm, hR, hP, hC, hA, h1, h2, h3⟩ := h
  have HR := Lib.hid hR
  have HP := Lib.hid hP
  have HC := Lib.hid hC
  have HA := Lib.hid hA
  have H1 := Lib.hid h1
  have H2 := Lib.hid h2
  have H3 := Lib.hid h3
  have HK := Lib.hid K
  have hob := hC.lt
  clear hR hP hC hA h1 h2 h3 K
  go_enter Try.func111, Try.ntmps111
  go_upto_region 2 with fail
  refine wp_region_cut (S := (fun w' => w'.cell? ⟨W.heap.size, 0, none⟩ = some (.pointer (some ⟨ob, 0, none⟩)))) 6 (by kernel_rfl) ?_ (fun hHeld => ?_)
  · (go_keep)
  refine wpAnyC_take (i := 0) (v := ?_) rfl (by kernel_rfl) (by kernel_rfl) (by kernel_rfl) (by decide) [4, 5, 6] (by kernel_rfl) (fun _ _ _ h => h) (Or.inl ⟨by rfl, ?_⟩) (by assumption) ?_
  rotate_left 1
  · (intro w hSw; (try dsimp only at hSw); go_simp; (try with_reducible rfl))
  try simp only [Act.put, List.getElem_toArray, List.getElem_cons_succ, List.getElem_cons_zero, List.setIfInBounds_toArray, List.set_cons_zero, List.set_cons_succ]
  refine wpAnyC_take (i := 1) (v := ?_) rfl (by kernel_rfl) (by kernel_rfl) (by kernel_rfl) (by decide) [2, 3, 4, 5, 6] (by kernel_rfl) (fun _ _ _ h => h) (Or.inl ⟨by rfl, ?_⟩) (by assumption) ?_
  rotate_left 1
  · (intro w hSw; (try dsimp only at hSw); go_simp; (try with_reducible rfl))
  try simp only [Act.put, List.getElem_toArray, List.getElem_cons_succ, List.getElem_cons_zero, List.setIfInBounds_toArray, List.set_cons_zero, List.set_cons_succ]
  refine wpAnyC_ready (rs := [2]) (by kernel_rfl) (by simp) ?_
  refine AllReadyC.cons rfl (by decide) (fun K hK => ?_) AllReadyC.nil
  try simp only [List.getElem_toArray, List.getElem_cons_succ, List.getElem_cons_zero]
  go_simp
  (go_at_call 109; refine (rcNext_ (CellsAt.step HR.out (by (repeat (first | exact Step.refl _ | refine Step.alloc ?_ _ | refine Step.drew ?_ | refine Step.drewN ?_ _ | refine Step.setCell ?_ (by first | exact Nat.le_refl _ | assumption | omega | (simp; done) | (simp; omega)) _ | assumption | refine Step.trans ?_ (by assumption : Step _ _))))) (Ty.step _ HP.out (by (repeat (first | exact Step.refl _ | refine Step.alloc ?_ _ | refine Step.drew ?_ | refine Step.drewN ?_ _ | refine Step.setCell ?_ (by first | exact Nat.le_refl _ | assumption | omega | (simp; done) | (simp; omega)) _ | assumption | refine Step.trans ?_ (by assumption : Step _ _))))) (.inl HK.out.mr)).mono ?_; rintro y w1 ⟨p', v', rfl, hp, hC1, hv, hT⟩; obtain ⟨pa, pk, rfl, _⟩ := Ty.slice_val hp; have k0 : w1.cell? ⟨W.heap.size, 0, none⟩ = some (.pointer (some ⟨ob, 0, none⟩)) := (hT.cell (by simp) (fun e => by have := HK.out.mb _ HK.out.mr; omega) 0).trans (by simp); have hE := Lib.hid (RS.ends HK.out HC.out HA.out (by (repeat (first | exact Step.refl _ | refine Step.alloc ?_ _ | refine Step.drew ?_ | refine Step.drewN ?_ _ | refine Step.setCell ?_ (by first | exact Nat.le_refl _ | assumption | omega | (simp; done) | (simp; omega)) _ | assumption | refine Step.trans ?_ (by assumption : Step _ _)))) hT); have g6 : w1.frozen? ⟨ob, 10, none⟩ = false := hE.out.1.frozen 10; have c6 : w1.cell? ⟨ob, 10, none⟩ = some _ := hE.out.1.cell 10; have HC1 := Lib.hid hC1; have hcv := conv_str (src := 42) (e := 5) (dst := 9) hp Try.underlying42 Try.underlying5 Try.underlying9; simp only [Go.Proofs.encStr] at hcv; have HV := Lib.hid hv; clear hp hC1 hv hT)
  refine hK.out _ _ ?_ (fun hHeld => ?_)
  · (go_keep)
  clear hK K
  try simp only [Act.put, List.getElem_toArray, List.getElem_cons_succ, List.getElem_cons_zero, List.setIfInBounds_toArray, List.set_cons_zero, List.set_cons_succ]
  refine wpAnyC_ready (rs := [3]) (by kernel_rfl) (by simp) ?_
  refine AllReadyC.cons rfl (by decide) (fun K hK => ?_) AllReadyC.nil
  try simp only [List.getElem_toArray, List.getElem_cons_succ, List.getElem_cons_zero]
  go_simp
  refine hK.out _ _ ?_ (fun hHeld => ?_)
  · (go_keep)
  clear hK K
  try simp only [Act.put, List.getElem_toArray, List.getElem_cons_succ, List.getElem_cons_zero, List.setIfInBounds_toArray, List.set_cons_zero, List.set_cons_succ]
  refine wpAnyC_take (i := 4) (v := ?_) rfl (by kernel_rfl) (by kernel_rfl) (by kernel_rfl) (by decide) [5, 6] (by kernel_rfl) (fun _ _ _ h => h) (Or.inl ⟨by rfl, ?_⟩) (by assumption) ?_
  rotate_left 1
  · (intro w hSw; (try dsimp only at hSw); go_simp; (try with_reducible rfl))
  try simp only [Act.put, List.getElem_toArray, List.getElem_cons_succ, List.getElem_cons_zero, List.setIfInBounds_toArray, List.set_cons_zero, List.set_cons_succ]
  refine wpAnyC_take (i := 5) (v := ?_) rfl (by kernel_rfl) (by kernel_rfl) (by kernel_rfl) (by decide) [6] (by kernel_rfl) (fun _ _ _ h => h) (Or.inl ⟨by rfl, ?_⟩) (by assumption) ?_
  rotate_left 1
  · (intro w hSw; (try dsimp only at hSw); go_simp; (try with_reducible rfl))
  try simp only [Act.put, List.getElem_toArray, List.getElem_cons_succ, List.getElem_cons_zero, List.setIfInBounds_toArray, List.set_cons_zero, List.set_cons_succ]
  refine wpAnyC_ready (rs := [6]) (by kernel_rfl) (by simp) ?_
  refine AllReadyC.cut rfl (fun K hK => ?_)
  try simp only [List.getElem_toArray, List.getElem_cons_succ, List.getElem_cons_zero]
  go_simp
  refine hK.out _ _ trivial (fun hHeld => ?_)
  clear hK K
  try simp only [Act.put, List.getElem_toArray, List.getElem_cons_succ, List.getElem_cons_zero, List.setIfInBounds_toArray, List.set_cons_zero, List.set_cons_succ]
  have hTrue : True := trivial
  refine wpAnyH_done (by kernel_rfl) ?_ _
  refine wp_at (fun W' => W' = w1.setCell ⟨ob, 10, none⟩ (.string ⟨(nextF ps e).1.toArray⟩) ∨ W' = (w1.setCell ⟨ob, 10, none⟩ (.string ⟨(nextF ps e).1.toArray⟩)).drew) (by first | exact .inl rfl | exact .inr rfl) ?_
  rintro W' hW'
  have HW' := Lib.hid hW'
  clear hW'
  go_wp2
  refine bodyPost_end (results_none rfl _ _ _) rfl ?_
  obtain ⟨z1, z2, z3, z4, z5⟩ := RS.fin HK.out HC1.out HV.out hE.out.1 hE.out.2.1 hE.out.2.2 HW'.out
  exact ⟨rfl, ⟨_, x, vw, ra, rn, rc, cm, sa, sn, sc, ya, yn, yc, id, ⟨(nextF ps e).1.toArray⟩, z1, z2, z3, z4, H1.out, H2.out, H3.out⟩, z5⟩
end Go.Proofs.Ythflkfgiclcdiaa

namespace Go.Proofs.Ythflkfgiclcdiaa
open Go.RowKit Go.Gr
set_option linter.unusedSimpArgs false
set_option maxRecDepth 100000 in
set_option maxHeartbeats 4000000 in
theorem rcField_I {W : World} {M : Nat → Prop} {B rb ob : Nat} {kind : Int} {ps : List (List UInt8)} {e : Int} {ws : List DWrite} {fw fr fs : Bool} (h : RS W M B rb ob kind ps e ws fw fr fs) (K : RK M B rb ob) (hB : B ≤ W.heap.size) :
    Calls Try.prog 111 #[.pointer (some ⟨rb, 0, none⟩), .pointer (some ⟨ob, 0, none⟩), .int .i32 73] W fun y w' => y = .returned (.tuple #[]) ∧ RS w' M B rb ob kind (someF 1 ps e).2.1 (someF 1 ps e).2.2 ws fw fr fs ∧ TB B rb ob W w' := by
  obtain ⟨v, x, vw, ra, rn, rc, cm, sa, sn, sc, ya, yn, yc, id, nm, hR, hP, hC, hA, h1, h2, h3⟩ := h
  have HR := Lib.hid hR
  have HP := Lib.hid hP
  have HC := Lib.hid hC
  have HA := Lib.hid hA
  have H1 := Lib.hid h1
  have H2 := Lib.hid h2
  have H3 := Lib.hid h3
  have HK := Lib.hid K
  have hob := hC.lt
  clear hR hP hC hA h1 h2 h3 K
  obtain ⟨a, ha⟩ : ∃ a, (someF 1 ps e).1 = [a] := List.length_eq_one_iff.1 (takesF_len _ _ _ _)
  go_enter Try.func111, Try.ntmps111
  go_upto_region 21 with fail
  refine wp_region_cut (S := (fun w' => w'.cell? ⟨W.heap.size, 0, none⟩ = some (.pointer (some ⟨ob, 0, none⟩)))) 7 (by kernel_rfl) ?_ (fun hHeld => ?_)
  · (go_keep)
  refine wpAnyC_take (i := 0) (v := ?_) rfl (by kernel_rfl) (by kernel_rfl) (by kernel_rfl) (by decide) [5, 6, 7] (by kernel_rfl) (fun _ _ _ h => h) (Or.inl ⟨by rfl, ?_⟩) (by assumption) ?_
  rotate_left 1
  · (intro w hSw; (try dsimp only at hSw); go_simp; (try with_reducible rfl))
  try simp only [Act.put, List.getElem_toArray, List.getElem_cons_succ, List.getElem_cons_zero, List.setIfInBounds_toArray, List.set_cons_zero, List.set_cons_succ]
  refine wpAnyC_take (i := 1) (v := ?_) rfl (by kernel_rfl) (by kernel_rfl) (by kernel_rfl) (by decide) [2, 3, 4, 5, 6, 7] (by kernel_rfl) (fun _ _ _ h => h) (Or.inl ⟨by rfl, ?_⟩) (by assumption) ?_
  rotate_left 1
  · (intro w hSw; (try dsimp only at hSw); go_simp; (try with_reducible rfl))
  try simp only [Act.put, List.getElem_toArray, List.getElem_cons_succ, List.getElem_cons_zero, List.setIfInBounds_toArray, List.set_cons_zero, List.set_cons_succ]
  refine wpAnyC_ready (rs := [2]) (by kernel_rfl) (by simp) ?_
  refine AllReadyC.cons rfl (by decide) (fun K hK => ?_) AllReadyC.nil
  try simp only [List.getElem_toArray, List.getElem_cons_succ, List.getElem_cons_zero]
  go_simp
  (go_at_call 123; refine (rcSome_ (n := 1) (CellsAt.step HR.out (by (repeat (first | exact Step.refl _ | refine Step.alloc ?_ _ | refine Step.drew ?_ | refine Step.drewN ?_ _ | refine Step.setCell ?_ (by first | exact Nat.le_refl _ | assumption | omega | (simp; done) | (simp; omega)) _ | assumption | refine Step.trans ?_ (by assumption : Step _ _))))) (Ty.step _ HP.out (by (repeat (first | exact Step.refl _ | refine Step.alloc ?_ _ | refine Step.drew ?_ | refine Step.drewN ?_ _ | refine Step.setCell ?_ (by first | exact Nat.le_refl _ | assumption | omega | (simp; done) | (simp; omega)) _ | assumption | refine Step.trans ?_ (by assumption : Step _ _))))) (.inl HK.out.mr) (by omega)).mono ?_; rintro y w1 ⟨ub, rfl, hub, hU, ⟨v', hC1, hv⟩, hT⟩; have k0 : w1.cell? ⟨W.heap.size, 0, none⟩ = some (.pointer (some ⟨ob, 0, none⟩)) := (hT.cell (by simp) (fun e => by have := HK.out.mb _ HK.out.mr; omega) 0).trans (by simp); have hE := Lib.hid (RS.ends HK.out HC.out HA.out (by (repeat (first | exact Step.refl _ | refine Step.alloc ?_ _ | refine Step.drew ?_ | refine Step.drewN ?_ _ | refine Step.setCell ?_ (by first | exact Nat.le_refl _ | assumption | omega | (simp; done) | (simp; omega)) _ | assumption | refine Step.trans ?_ (by assumption : Step _ _)))) hT); have g6 : w1.frozen? ⟨ob, 9, none⟩ = false := hE.out.1.frozen 9; have c6 : w1.cell? ⟨ob, 9, none⟩ = some _ := hE.out.1.cell 9; have u0 := (hU.at (k := 0) (by rw [ha]; simp)).1; simp only [ha, List.getElem_cons_zero] at u0; have HC1 := Lib.hid hC1; have HV := Lib.hid hv; clear hU hC1 hv hT)
  refine hK.out _ _ ?_ (fun hHeld => ?_)
  · (go_keep)
  clear hK K
  try simp only [Act.put, List.getElem_toArray, List.getElem_cons_succ, List.getElem_cons_zero, List.setIfInBounds_toArray, List.set_cons_zero, List.set_cons_succ]
  refine wpAnyC_take (i := 3) (v := ?_) rfl (by kernel_rfl) (by kernel_rfl) (by kernel_rfl) (by decide) [4, 5, 6, 7] (by kernel_rfl) (fun _ _ _ h => h) (Or.inl ⟨by rfl, ?_⟩) (by assumption) ?_
  rotate_left 1
  · (intro w hSw; (try dsimp only at hSw); go_simp; (try with_reducible rfl))
  try simp only [Act.put, List.getElem_toArray, List.getElem_cons_succ, List.getElem_cons_zero, List.setIfInBounds_toArray, List.set_cons_zero, List.set_cons_succ]
  refine wpAnyC_ready (rs := [4]) (by kernel_rfl) (by simp) ?_
  refine AllReadyC.cons rfl (by decide) (fun K hK => ?_) AllReadyC.nil
  try simp only [List.getElem_toArray, List.getElem_cons_succ, List.getElem_cons_zero]
  go_simp
  refine hK.out _ _ ?_ (fun hHeld => ?_)
  · (go_keep)
  clear hK K
  try simp only [Act.put, List.getElem_toArray, List.getElem_cons_succ, List.getElem_cons_zero, List.setIfInBounds_toArray, List.set_cons_zero, List.set_cons_succ]
  refine wpAnyC_take (i := 5) (v := ?_) rfl (by kernel_rfl) (by kernel_rfl) (by kernel_rfl) (by decide) [6, 7] (by kernel_rfl) (fun _ _ _ h => h) (Or.inl ⟨by rfl, ?_⟩) (by assumption) ?_
  rotate_left 1
  · (intro w hSw; (try dsimp only at hSw); go_simp; (try with_reducible rfl))
  try simp only [Act.put, List.getElem_toArray, List.getElem_cons_succ, List.getElem_cons_zero, List.setIfInBounds_toArray, List.set_cons_zero, List.set_cons_succ]
  refine wpAnyC_take (i := 6) (v := ?_) rfl (by kernel_rfl) (by kernel_rfl) (by kernel_rfl) (by decide) [7] (by kernel_rfl) (fun _ _ _ h => h) (Or.inl ⟨by rfl, ?_⟩) (by assumption) ?_
  rotate_left 1
  · (intro w hSw; (try dsimp only at hSw); go_simp; (try with_reducible rfl))
  try simp only [Act.put, List.getElem_toArray, List.getElem_cons_succ, List.getElem_cons_zero, List.setIfInBounds_toArray, List.set_cons_zero, List.set_cons_succ]
  refine wpAnyC_ready (rs := [7]) (by kernel_rfl) (by simp) ?_
  refine AllReadyC.cut rfl (fun K hK => ?_)
  try simp only [List.getElem_toArray, List.getElem_cons_succ, List.getElem_cons_zero]
  go_simp
  refine hK.out _ _ trivial (fun hHeld => ?_)
  clear hK K
  try simp only [Act.put, List.getElem_toArray, List.getElem_cons_succ, List.getElem_cons_zero, List.setIfInBounds_toArray, List.set_cons_zero, List.set_cons_succ]
  have hTrue : True := trivial
  refine wpAnyH_done (by kernel_rfl) ?_ _
  refine wp_at (fun W' => W' = w1.setCell ⟨ob, 9, none⟩ (uv a) ∨ W' = (w1.setCell ⟨ob, 9, none⟩ (uv a)).drew) (by first | exact .inl rfl | exact .inr rfl) ?_
  rintro W' hW'
  have HW' := Lib.hid hW'
  clear hW'
  go_wp2
  refine bodyPost_end (results_none rfl _ _ _) rfl ?_
  obtain ⟨z1, z2, z3, z4, z5⟩ := RS.fin HK.out HC1.out HV.out hE.out.1 hE.out.2.1 hE.out.2.2 HW'.out
  exact ⟨rfl, ⟨_, x, vw, ra, rn, rc, cm, sa, sn, sc, ya, yn, yc, a, nm, z1, z2, z3, z4, H1.out, H2.out, H3.out⟩, z5⟩
set_option maxRecDepth 100000 in
set_option maxHeartbeats 4000000 in
theorem rcField_T {W : World} {M : Nat → Prop} {B rb ob : Nat} {kind : Int} {ps : List (List UInt8)} {e : Int} {ws : List DWrite} {fw fr fs : Bool} (h : RS W M B rb ob kind ps e ws fw fr fs) (K : RK M B rb ob) (hB : B ≤ W.heap.size) :
    Calls Try.prog 111 #[.pointer (some ⟨rb, 0, none⟩), .pointer (some ⟨ob, 0, none⟩), .int .i32 84] W fun y w' => y = .returned (.tuple #[]) ∧ RS w' M B rb ob kind (someF 3 ps e).2.1 (someF 3 ps e).2.2 ws fw fr fs ∧ TB B rb ob W w' := by
  obtain ⟨v, x, vw, ra, rn, rc, cm, sa, sn, sc, ya, yn, yc, id, nm, hR, hP, hC, hA, h1, h2, h3⟩ := h
  have HR := Lib.hid hR
  have HP := Lib.hid hP
  have HC := Lib.hid hC
  have HA := Lib.hid hA
  have H1 := Lib.hid h1
  have H2 := Lib.hid h2
  have H3 := Lib.hid h3
  have HK := Lib.hid K
  have hob := hC.lt
  clear hR hP hC hA h1 h2 h3 K
  obtain ⟨a, b, c, ha⟩ : ∃ a b c, (someF 3 ps e).1 = [a, b, c] := by
    have hl : (someF 3 ps e).1.length = 3 := takesF_len _ _ _ _
    match h : (someF 3 ps e).1, hl with
    | [a, b, c], _ => exact ⟨a, b, c, rfl⟩
  go_enter Try.func111, Try.ntmps111
  go_upto_region 5 with (go_at_call 123; refine (rcSome_ (n := 3) (CellsAt.step HR.out (by (repeat (first | exact Step.refl _ | refine Step.alloc ?_ _ | refine Step.drew ?_ | refine Step.drewN ?_ _ | refine Step.setCell ?_ (by first | exact Nat.le_refl _ | assumption | omega | (simp; done) | (simp; omega)) _ | assumption | refine Step.trans ?_ (by assumption : Step _ _))))) (Ty.step _ HP.out (by (repeat (first | exact Step.refl _ | refine Step.alloc ?_ _ | refine Step.drew ?_ | refine Step.drewN ?_ _ | refine Step.setCell ?_ (by first | exact Nat.le_refl _ | assumption | omega | (simp; done) | (simp; omega)) _ | assumption | refine Step.trans ?_ (by assumption : Step _ _))))) (.inl HK.out.mr) (by omega)).mono ?_; rintro y w1 ⟨ub, rfl, hub, hU, ⟨v', hC1, hv⟩, hT⟩; have k0 : w1.cell? ⟨W.heap.size, 0, none⟩ = some (.pointer (some ⟨ob, 0, none⟩)) := (hT.cell (by simp) (fun e => by have := HK.out.mb _ HK.out.mr; omega) 0).trans (by simp); have hE := Lib.hid (RS.ends HK.out HC.out HA.out (by (repeat (first | exact Step.refl _ | refine Step.alloc ?_ _ | refine Step.drew ?_ | refine Step.drewN ?_ _ | refine Step.setCell ?_ (by first | exact Nat.le_refl _ | assumption | omega | (simp; done) | (simp; omega)) _ | assumption | refine Step.trans ?_ (by assumption : Step _ _)))) hT); have g1 : w1.frozen? ⟨ob, 1, none⟩ = false := hE.out.1.frozen 1; have c1 : w1.cell? ⟨ob, 1, none⟩ = some _ := hE.out.1.cell 1; have g2 : w1.frozen? ⟨ob, 2, none⟩ = false := hE.out.1.frozen 2; have c2 : w1.cell? ⟨ob, 2, none⟩ = some _ := hE.out.1.cell 2; have g3 : w1.frozen? ⟨ob, 3, none⟩ = false := hE.out.1.frozen 3; have c3 : w1.cell? ⟨ob, 3, none⟩ = some _ := hE.out.1.cell 3; have u0 := (hU.at (k := 0) (by rw [ha]; simp)).1; have u1 := (hU.at (k := 1) (by rw [ha]; simp)).1; have u2 := (hU.at (k := 2) (by rw [ha]; simp)).1; simp only [ha, List.getElem_cons_zero, List.getElem_cons_succ] at u0 u1 u2; have HC1 := Lib.hid hC1; have HV := Lib.hid hv; clear hU hC1 hv hT)
  refine wp_region_cut (S := (fun w' => w'.cell? ⟨W.heap.size, 0, none⟩ = some (.pointer (some ⟨ob, 0, none⟩)) ∧ w'.cell? ⟨ub, 0, none⟩ = some (uv a) ∧ w'.cell? ⟨ub, 1, none⟩ = some (uv b) ∧ w'.cell? ⟨ub, 2, none⟩ = some (uv c))) 13 (by kernel_rfl) ?_ (fun hHeld => ?_)
  · (go_keep)
  refine wpAnyC_take (i := 0) (v := ?_) rfl (by kernel_rfl) (by kernel_rfl) (by kernel_rfl) (by decide) [11, 12, 13] (by kernel_rfl) (fun _ _ _ h => h) (Or.inl ⟨by rfl, ?_⟩) (by assumption) ?_
  rotate_left 1
  · (intro w hSw; (try dsimp only at hSw); go_simp; (try with_reducible rfl))
  try simp only [Act.put, List.getElem_toArray, List.getElem_cons_succ, List.getElem_cons_zero, List.setIfInBounds_toArray, List.set_cons_zero, List.set_cons_succ]
  refine wpAnyC_take (i := 1) (v := ?_) rfl (by kernel_rfl) (by kernel_rfl) (by kernel_rfl) (by decide) [2, 3, 10, 11, 12, 13] (by kernel_rfl) (fun _ _ _ h => h) (Or.inl ⟨by rfl, ?_⟩) (by assumption) ?_
  rotate_left 1
  · (intro w hSw; (try dsimp only at hSw); go_simp; (try with_reducible rfl))
  try simp only [Act.put, List.getElem_toArray, List.getElem_cons_succ, List.getElem_cons_zero, List.setIfInBounds_toArray, List.set_cons_zero, List.set_cons_succ]
  refine wpAnyC_take (i := 2) (v := ?_) rfl (by kernel_rfl) (by kernel_rfl) (by kernel_rfl) (by decide) [3, 10, 11, 12, 13] (by kernel_rfl) (fun _ _ _ h => h) (Or.inl ⟨by rfl, ?_⟩) (by assumption) ?_
  rotate_left 1
  · (intro w hSw; (try dsimp only at hSw); go_simp; (try with_reducible rfl))
  try simp only [Act.put, List.getElem_toArray, List.getElem_cons_succ, List.getElem_cons_zero, List.setIfInBounds_toArray, List.set_cons_zero, List.set_cons_succ]
  refine wpAnyC_take (i := 3) (v := ?_) rfl (by kernel_rfl) (by kernel_rfl) (by kernel_rfl) (by decide) [10, 11, 12, 13] (by kernel_rfl) (fun _ _ _ h => h) (Or.inl ⟨by rfl, ?_⟩) (by assumption) ?_
  rotate_left 1
  · (intro w hSw; (try dsimp only at hSw); go_simp; (try with_reducible rfl))
  try simp only [Act.put, List.getElem_toArray, List.getElem_cons_succ, List.getElem_cons_zero, List.setIfInBounds_toArray, List.set_cons_zero, List.set_cons_succ]
  refine wpAnyC_take (i := 4) (v := ?_) rfl (by kernel_rfl) (by kernel_rfl) (by kernel_rfl) (by decide) [5, 6, 10, 11, 12, 13] (by kernel_rfl) (fun _ _ _ h => h) (Or.inl ⟨by rfl, ?_⟩) (by assumption) ?_
  rotate_left 1
  · (intro w hSw; (try dsimp only at hSw); go_simp; (try with_reducible rfl))
  try simp only [Act.put, List.getElem_toArray, List.getElem_cons_succ, List.getElem_cons_zero, List.setIfInBounds_toArray, List.set_cons_zero, List.set_cons_succ]
  refine wpAnyC_take (i := 5) (v := ?_) rfl (by kernel_rfl) (by kernel_rfl) (by kernel_rfl) (by decide) [6, 10, 11, 12, 13] (by kernel_rfl) (fun _ _ _ h => h) (Or.inl ⟨by rfl, ?_⟩) (by assumption) ?_
  rotate_left 1
  · (intro w hSw; (try dsimp only at hSw); go_simp; (try with_reducible rfl))
  try simp only [Act.put, List.getElem_toArray, List.getElem_cons_succ, List.getElem_cons_zero, List.setIfInBounds_toArray, List.set_cons_zero, List.set_cons_succ]
  refine wpAnyC_take (i := 6) (v := ?_) rfl (by kernel_rfl) (by kernel_rfl) (by kernel_rfl) (by decide) [10, 11, 12, 13] (by kernel_rfl) (fun _ _ _ h => h) (Or.inl ⟨by rfl, ?_⟩) (by assumption) ?_
  rotate_left 1
  · (intro w hSw; (try dsimp only at hSw); go_simp; (try with_reducible rfl))
  try simp only [Act.put, List.getElem_toArray, List.getElem_cons_succ, List.getElem_cons_zero, List.setIfInBounds_toArray, List.set_cons_zero, List.set_cons_succ]
  refine wpAnyC_take (i := 7) (v := ?_) rfl (by kernel_rfl) (by kernel_rfl) (by kernel_rfl) (by decide) [8, 9, 10, 11, 12, 13] (by kernel_rfl) (fun _ _ _ h => h) (Or.inl ⟨by rfl, ?_⟩) (by assumption) ?_
  rotate_left 1
  · (intro w hSw; (try dsimp only at hSw); go_simp; (try with_reducible rfl))
  try simp only [Act.put, List.getElem_toArray, List.getElem_cons_succ, List.getElem_cons_zero, List.setIfInBounds_toArray, List.set_cons_zero, List.set_cons_succ]
  refine wpAnyC_take (i := 8) (v := ?_) rfl (by kernel_rfl) (by kernel_rfl) (by kernel_rfl) (by decide) [9, 10, 11, 12, 13] (by kernel_rfl) (fun _ _ _ h => h) (Or.inl ⟨by rfl, ?_⟩) (by assumption) ?_
  rotate_left 1
  · (intro w hSw; (try dsimp only at hSw); go_simp; (try with_reducible rfl))
  try simp only [Act.put, List.getElem_toArray, List.getElem_cons_succ, List.getElem_cons_zero, List.setIfInBounds_toArray, List.set_cons_zero, List.set_cons_succ]
  refine wpAnyC_take (i := 9) (v := ?_) rfl (by kernel_rfl) (by kernel_rfl) (by kernel_rfl) (by decide) [10, 11, 12, 13] (by kernel_rfl) (fun _ _ _ h => h) (Or.inl ⟨by rfl, ?_⟩) (by assumption) ?_
  rotate_left 1
  · (intro w hSw; (try dsimp only at hSw); go_simp; (try with_reducible rfl))
  try simp only [Act.put, List.getElem_toArray, List.getElem_cons_succ, List.getElem_cons_zero, List.setIfInBounds_toArray, List.set_cons_zero, List.set_cons_succ]
  refine wpAnyC_take (i := 10) (v := ?_) rfl (by kernel_rfl) (by kernel_rfl) (by kernel_rfl) (by decide) [11, 12, 13] (by kernel_rfl) (fun _ _ _ h => h) (Or.inl ⟨by rfl, ?_⟩) (by assumption) ?_
  rotate_left 1
  · (intro w hSw; (try dsimp only at hSw); go_simp; (try with_reducible rfl))
  try simp only [Act.put, List.getElem_toArray, List.getElem_cons_succ, List.getElem_cons_zero, List.setIfInBounds_toArray, List.set_cons_zero, List.set_cons_succ]
  refine wpAnyC_take (i := 11) (v := ?_) rfl (by kernel_rfl) (by kernel_rfl) (by kernel_rfl) (by decide) [12, 13] (by kernel_rfl) (fun _ _ _ h => h) (Or.inl ⟨by rfl, ?_⟩) (by assumption) ?_
  rotate_left 1
  · (intro w hSw; (try dsimp only at hSw); go_simp; (try with_reducible rfl))
  try simp only [Act.put, List.getElem_toArray, List.getElem_cons_succ, List.getElem_cons_zero, List.setIfInBounds_toArray, List.set_cons_zero, List.set_cons_succ]
  refine wpAnyC_take (i := 12) (v := ?_) rfl (by kernel_rfl) (by kernel_rfl) (by kernel_rfl) (by decide) [13] (by kernel_rfl) (fun _ _ _ h => h) (Or.inl ⟨by rfl, ?_⟩) (by assumption) ?_
  rotate_left 1
  · (intro w hSw; (try dsimp only at hSw); go_simp; (try with_reducible rfl))
  try simp only [Act.put, List.getElem_toArray, List.getElem_cons_succ, List.getElem_cons_zero, List.setIfInBounds_toArray, List.set_cons_zero, List.set_cons_succ]
  refine wpAnyC_ready (rs := [13]) (by kernel_rfl) (by simp) ?_
  refine AllReadyC.cut rfl (fun K hK => ?_)
  try simp only [List.getElem_toArray, List.getElem_cons_succ, List.getElem_cons_zero]
  go_simp
  refine hK.out _ _ trivial (fun hHeld => ?_)
  clear hK K
  try simp only [Act.put, List.getElem_toArray, List.getElem_cons_succ, List.getElem_cons_zero, List.setIfInBounds_toArray, List.set_cons_zero, List.set_cons_succ]
  have hTrue : True := trivial
  refine wpAnyH_done (by kernel_rfl) ?_ _
  refine wp_at (fun W' => W' = (((w1.setCell ⟨ob, 1, none⟩ (uv a)).setCell ⟨ob, 2, none⟩ (uv b)).setCell ⟨ob, 3, none⟩ (uv c)).drew ∨ W' = ((w1.setCell ⟨ob, 1, none⟩ (uv a)).setCell ⟨ob, 2, none⟩ (uv b)).setCell ⟨ob, 3, none⟩ (uv c)) (by first | exact .inl rfl | exact .inr rfl) ?_
  rintro W' hW'
  have HW' := Lib.hid hW'
  clear hW'
  go_wp2
  refine bodyPost_end (results_none rfl _ _ _) rfl ?_
  obtain ⟨y1, y2, y3, y4, y5⟩ := RS.fin (j := 1) (u := uv a) HK.out HC1.out HV.out hE.out.1 hE.out.2.1 hE.out.2.2 (.inl rfl)
  obtain ⟨x1, x2, x3, x4, x5⟩ := RS.fin (j := 2) (u := uv b) HK.out y1 y2 y3 y4 y5 (.inl rfl)
  obtain ⟨z1, z2, z3, z4, z5⟩ := RS.fin (j := 3) (u := uv c) (W' := W') HK.out x1 x2 x3 x4 x5 HW'.out.symm
  exact ⟨rfl, ⟨_, ⟨a, b, c⟩, vw, ra, rn, rc, cm, sa, sn, sc, ya, yn, yc, id, nm, z1, z2, z3, z4, H1.out, H2.out, H3.out⟩, z5⟩
end Go.Proofs.Ythflkfgiclcdiaa

namespace Go.Proofs.Ythflkfgiclcdiaa
open Go.RowKit Go.Gr
set_option linter.unusedSimpArgs false
set_option maxRecDepth 100000 in
set_option maxHeartbeats 4000000 in
theorem rcField_W {W : World} {M : Nat → Prop} {B rb ob : Nat} {kind : Int} {ps : List (List UInt8)} {e : Int} {ws : List DWrite} {fw fr fs : Bool} (h : RS W M B rb ob kind ps e ws true fr fs) (K : RK M B rb ob) (hB : B ≤ W.heap.size) (hsp : (splitF (nextF ps e).1).1.length ≤ 4294967296) :
    Calls Try.prog 111 #[.pointer (some ⟨rb, 0, none⟩), .pointer (some ⟨ob, 0, none⟩), .int .i32 87] W fun y w' => y = .returned (.tuple #[]) ∧ RS w' M B rb ob kind (rdW ps e).2.1 (rdW ps e).2.2 ((rdW ps e).1.map wrOf) false fr fs ∧ TB B rb ob W w' := by
  obtain ⟨v, x, vw, ra, rn, rc, cm, sa, sn, sc, ya, yn, yc, id, nm, hR, hP, hC, hA, h1, h2, h3⟩ := h
  obtain rfl := h1 rfl
  have HR := Lib.hid hR
  have HP := Lib.hid hP
  have HC := Lib.hid hC
  have HA := Lib.hid hA
  have H1 := Lib.hid h1
  have H2 := Lib.hid h2
  have H3 := Lib.hid h3
  have HK := Lib.hid K
  have hob := hC.lt
  have HSP := Lib.hid hsp
  have hrB := K.mb _ K.mr
  have hoB := K.mb _ K.mo
  clear hR hP hC hA h1 h2 h3 K hsp
  go_enter Try.func111, Try.ntmps111
  go_upto_region 7 with fail
  go_wp2_with (go_at_call 124; refine (rcTriplesW_ (M := M) (Mo := (· < B)) (B := W.heap.size + 1) (ws := []) (CellsAt.step HR.out (by (repeat (first | exact Step.refl _ | refine Step.alloc ?_ _ | refine Step.drew ?_ | refine Step.drewN ?_ _ | refine Step.setCell ?_ (by first | exact Nat.le_refl _ | assumption | omega | (simp; done) | (simp; omega)) _ | assumption | refine Step.trans ?_ (by assumption : Step _ _))))) (Ty.step _ (Ty.less _ HP.out (fun b _ hb => .inl hb)) (by (repeat (first | exact Step.refl _ | refine Step.alloc ?_ _ | refine Step.drew ?_ | refine Step.drewN ?_ _ | refine Step.setCell ?_ (by first | exact Nat.le_refl _ | assumption | omega | (simp; done) | (simp; omega)) _ | assumption | refine Step.trans ?_ (by assumption : Step _ _))))) HK.out.mr HK.out.mo (fun b hb => by simp [Value.ownBlock] at hb) (CellsAt.step HC.out (by (repeat (first | exact Step.refl _ | refine Step.alloc ?_ _ | refine Step.drew ?_ | refine Step.drewN ?_ _ | refine Step.setCell ?_ (by first | exact Nat.le_refl _ | assumption | omega | (simp; done) | (simp; omega)) _ | assumption | refine Step.trans ?_ (by assumption : Step _ _))))) (by simp) Own.nil hoB hrB (fun b hb => by have : b < B := hb; omega) (by omega) (by omega) (by omega) (by simp) HK.out.ne (by omega) (by omega) (by simp) HSP.out).mono ?_; rintro y w1 ⟨rfl, ⟨v', vw', acc, hC1, hacc, hv, hC2, hA2, hn⟩, hT⟩; have HC1 := Lib.hid hC1; have HACC := Lib.hid hacc; have HV := Lib.hid hv; have HC2 := Lib.hid hC2; have HA2 := Lib.hid hA2; have HT := Lib.hid hT; clear hC1 hacc hv hC2 hA2 hn hT)
  refine bodyPost_end (results_none rfl _ _ _) rfl ?_
  have e1 := HACC.out
  subst e1
  refine ⟨rfl, ⟨v', x, vw', ra, rn, rc, cm, sa, sn, sc, ya, yn, yc, id, nm, HC1.out, HV.out, HC2.out, Own.base HA2.out (by omega), fun h => by simp at h, H2.out, H3.out⟩, ?_⟩
  exact ((Turn.of (by (repeat (first | exact Step.refl _ | refine Step.alloc ?_ _ | refine Step.drew ?_ | refine Step.drewN ?_ _ | refine Step.setCell ?_ (by first | exact Nat.le_refl _ | assumption | omega | (simp; done) | (simp; omega)) _ | assumption | refine Step.trans ?_ (by assumption : Step _ _))) : Step W _)).trans (HT.out.mono (fun b _ hb => by
    rcases hb with hb | hb | hb
    · exact .inl hb
    · exact .inr (.inl hb)
    · simp [Value.ownBlock] at hb)))
set_option maxRecDepth 100000 in
set_option maxHeartbeats 4000000 in
theorem rcField_R {W : World} {M : Nat → Prop} {B rb ob : Nat} {kind : Int} {ps : List (List UInt8)} {e : Int} {ws : List DWrite} {fw fr fs : Bool} (h : RS W M B rb ob kind ps e ws fw true fs) (K : RK M B rb ob) (hB : B ≤ W.heap.size) (hsp : (splitF (nextF ps e).1).1.length ≤ 4294967296) :
    Calls Try.prog 111 #[.pointer (some ⟨rb, 0, none⟩), .pointer (some ⟨ob, 0, none⟩), .int .i32 82] W fun y w' => y = .returned (.tuple #[]) ∧ RS w' M B rb ob kind (rdW ps e).2.1 (rdW ps e).2.2 ws fw false fs ∧ TB B rb ob W w' := by
  obtain ⟨v, x, vw, ra, rn, rc, cm, sa, sn, sc, ya, yn, yc, id, nm, hR, hP, hC, hA, h1, h2, h3⟩ := h
  have hrn : Value.slice ra rn rc = .slice none 0 0 := h2 rfl
  simp only [Value.slice.injEq] at hrn
  obtain ⟨rfl, rfl, rfl⟩ := hrn
  have HR := Lib.hid hR
  have HP := Lib.hid hP
  have HC := Lib.hid hC
  have HA := Lib.hid hA
  have H1 := Lib.hid h1
  have H2 := Lib.hid h2
  have H3 := Lib.hid h3
  have HK := Lib.hid K
  have hob := hC.lt
  have HSP := Lib.hid hsp
  have hrB := K.mb _ K.mr
  have hoB := K.mb _ K.mo
  clear hR hP hC hA h1 h2 h3 K hsp
  go_enter Try.func111, Try.ntmps111
  go_upto_region 9 with fail
  go_wp2_with (go_at_call 124; refine (rcTriplesR_ (M := fun b => M b ∨ vw.ownBlock = some b) (Mo := (· < B)) (B := W.heap.size + 1) (ws := []) (CellsAt.step HR.out (by (repeat (first | exact Step.refl _ | refine Step.alloc ?_ _ | refine Step.drew ?_ | refine Step.drewN ?_ _ | refine Step.setCell ?_ (by first | exact Nat.le_refl _ | assumption | omega | (simp; done) | (simp; omega)) _ | assumption | refine Step.trans ?_ (by assumption : Step _ _))))) (Ty.step _ HP.out (by (repeat (first | exact Step.refl _ | refine Step.alloc ?_ _ | refine Step.drew ?_ | refine Step.drewN ?_ _ | refine Step.setCell ?_ (by first | exact Nat.le_refl _ | assumption | omega | (simp; done) | (simp; omega)) _ | assumption | refine Step.trans ?_ (by assumption : Step _ _))))) (.inl HK.out.mr) (.inl HK.out.mo) (fun b hb => by simp [Value.ownBlock] at hb) (CellsAt.step HC.out (by (repeat (first | exact Step.refl _ | refine Step.alloc ?_ _ | refine Step.drew ?_ | refine Step.drewN ?_ _ | refine Step.setCell ?_ (by first | exact Nat.le_refl _ | assumption | omega | (simp; done) | (simp; omega)) _ | assumption | refine Step.trans ?_ (by assumption : Step _ _))))) (by simp) Own.nil hoB hrB (fun b hb => by have : b < B := hb; omega) (by omega) (by omega) (by omega) (by simp) HK.out.ne (by omega) (by omega) (by simp) HSP.out).mono ?_; rintro y w1 ⟨rfl, ⟨v', vr', acc, hC1, hacc, hv, hC2, hA2, hn⟩, hT⟩; obtain ⟨r1, r2, r3, rfl, _⟩ := hA2.valN; have HC1 := Lib.hid hC1; have HV := Lib.hid hv; have HC2 := Lib.hid hC2; have HT := Lib.hid hT; clear hC1 hacc hv hC2 hA2 hn hT)
  refine bodyPost_end (results_none rfl _ _ _) rfl ?_
  have hT2 : TB B rb ob W w1 := ((Turn.of (by (repeat (first | exact Step.refl _ | refine Step.alloc ?_ _ | refine Step.drew ?_ | refine Step.drewN ?_ _ | refine Step.setCell ?_ (by first | exact Nat.le_refl _ | assumption | omega | (simp; done) | (simp; omega)) _ | assumption | refine Step.trans ?_ (by assumption : Step _ _))) : Step W _)).trans (HT.out.mono (fun b _ hb => by
    rcases hb with hb | hb | hb
    · exact .inl hb
    · exact .inr (.inl hb)
    · simp [Value.ownBlock] at hb)))
  have hgl : ∀ g, vw.ownBlock = some g → B ≤ g ∧ g < W.heap.size := fun g hg => HA.out.lt hg
  refine ⟨rfl, ⟨v', x, vw, r1, r2, r3, cm, sa, sn, sc, ya, yn, yc, id, nm, HC1.out, Ty.less _ HV.out (fun b _ hb => .inl hb), HC2.out, ?_, H1.out, fun h => by simp at h, H3.out⟩, hT2⟩
  refine Own.kept (Own.step HA.out (by (repeat (first | exact Step.refl _ | refine Step.alloc ?_ _ | refine Step.drew ?_ | refine Step.drewN ?_ _ | refine Step.setCell ?_ (by first | exact Nat.le_refl _ | assumption | omega | (simp; done) | (simp; omega)) _ | assumption | refine Step.trans ?_ (by assumption : Step _ _))) : Step W (W.alloc (.cells #[.pointer (some ⟨ob, 0, none⟩)] 183))) ) (HT.out.kept.mono (fun b hb => ?_)) (fun g hg => HT.out.block g (by have := (hgl g hg).2; simp; omega) (fun h => ?_))
  · rcases hb with hb | hb | hb
    · subst hb; exact hrB
    · subst hb; exact hoB
    · simp [Value.ownBlock] at hb
  · have := (hgl g hg).1
    rcases h with h | h | h
    · omega
    · omega
    · simp [Value.ownBlock] at h
end Go.Proofs.Ythflkfgiclcdiaa
