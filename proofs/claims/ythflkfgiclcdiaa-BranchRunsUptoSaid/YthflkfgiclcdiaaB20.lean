/-
  Walk: BranchRuns.
-/
import Derived.Test.YthflkfgiclcdiaaB19
import Derived.Test.YthflkfgiclcdiaaW9
import Derived.Test.YthflkfgiclcdiaaW6
namespace Go.Proofs.Ythflkfgiclcdiaa
open Go.RowKit Go.Gr Go.Sort
set_option linter.unusedSimpArgs false
theorem runL_wlen {P : List DPair} : ∀ {ops : List DOp} {ws : List DWrite} {rows : List (List DPair)} {i : Nat}, (runL P ws rows i ops).writes.length ≤ ws.length + ops.length
  | [], _, _, _ => Nat.le_add_right _ _
  | o :: r, ws, rows, i => by
    unfold runL
    cases hd : doB P ws o with
    | none => simp
    | some y =>
      obtain ⟨x, ws'⟩ := y
      have h1 := doB_length hd
      have h2 := runL_wlen (P := P) (ops := r) (ws := ws') (rows := rows ++ [x]) (i := i + 1)
      simp only [List.length_cons]
      omega
theorem runB_wlen {P : List DPair} {ops : List DOp} : (runB P ops).writes.length ≤ ops.length := by
  unfold runB
  split
  · simp
  · have := runL_wlen (P := P) (ops := ops) (ws := []) (rows := []) (i := 0); simpa using this
/-- The pairs, the ops, read beside a new reader. -/
theorem beside_new {α : Type} {E : Ty α} {w : World} {M : Nat → Prop} {cs : List Value} {x : α} {o : Obj} (h : E.rep w M cs x) : E.rep (w.alloc o) (· = w.heap.size) cs x :=
  E.keep h fun b hb _ => ⟨Below.heap_alloc _ _ b hb, fun e => by omega⟩
set_option maxRecDepth 100000 in
set_option maxHeartbeats 8000000 in
theorem branchRuns_ {w : World} {M M' : Nat → Prop} {wv ov : Value} {ws : List DWrite} {ops : List DOp} (hw : (Ty.slice tWrite).rep w M [wv] ws) (ho : (Ty.slice tOp).rep w M' [ov] ops) :
    Calls Try.prog 4 #[wv, ov] w fun e w' => e = .returned (.bool true) ∧ Step w w' := by
  obtain ⟨wa, wc0, rfl, _⟩ := Ty.slice_val hw
  obtain ⟨oa, oc, rfl, _⟩ := Ty.slice_val ho
  have HWS := Lib.hid hw
  have HOP := Lib.hid ho
  clear hw ho
  have hP := stored_rising ws
  have hPl := stored_len ws
  obtain ⟨P, hPe⟩ : ∃ P, P = storedB ws := ⟨_, rfl⟩
  rw [← hPe] at hP hPl
  have HPE := Lib.hid hPe
  have HP := Lib.hid hP
  obtain ⟨q, hq⟩ : ∃ q, q = ops.take 20 := ⟨_, rfl⟩
  have hql : q.length ≤ 20 := by rw [hq, List.length_take]; omega
  have HQ := Lib.hid hq
  have hwl := runB_wlen (P := P) (ops := q)
  obtain ⟨D, hD⟩ : ∃ D, runB P q = D := ⟨_, rfl⟩
  obtain ⟨N, hN⟩ : ∃ N, nextB P q = N := ⟨_, rfl⟩
  have hNX : N = if D.err ≠ 0 then P else overB P D.writes := by rw [← hN, ← hD]; rfl
  have hbr : ∀ (W5 : World) (lv gv : Value), (Ty.slice tPair).rep W5 (fun _ => False) [lv] P → (Ty.slice tOp).rep W5 (fun _ => False) [gv] q →
      Calls Try.prog 25 #[.iface 62 (.pointer (some ⟨W5.heap.size, 0, none⟩)), gv] (W5.alloc (.cells #[lv, .slice none 0 0, .int .i64 0] 65)) fun e w' => ∃ rv wv, e = .returned (.agg (outC D.err D.at_ rv wv)) ∧
        (Ty.slice (Ty.slice tPair)).rep w' (fun _ => False) [rv] D.rows ∧ (Ty.slice tWrite).rep w' (fun _ => False) [wv] D.writes ∧ Step W5 w' := fun W5 lv gv hl hg => by
    have h := brRun_ (w := W5.alloc (.cells #[lv, .slice none 0 0, .int .i64 0] 65)) (lb := W5.heap.size) (CellsAt.new rfl) (beside_new hl) (beside_new hg) HP.out (by omega)
    rw [hD] at h
    refine h.mono ?_
    rintro e w' ⟨rv, wv, h1, h2, h3, h4⟩
    exact ⟨rv, wv, h1, h2, h3, Turn.step ((Step.refl W5).alloc _) h4 (fun b hb => by subst hb; exact Nat.le_refl _)⟩
  have hrf : ∀ (W5 : World) (M : Nat → Prop) (lv gv : Value), (Ty.slice tPair).rep W5 (fun _ => False) [lv] P → (Ty.slice tOp).rep W5 M [gv] q →
      Calls Try.prog 26 #[lv, gv] W5 fun e w' => ∃ nv rv wv, e = .returned (.tuple #[nv, .agg (outC D.err D.at_ rv wv)]) ∧ (Ty.slice tPair).rep w' (fun _ => False) [nv] N ∧
        (Ty.slice (Ty.slice tPair)).rep w' (fun _ => False) [rv] D.rows ∧ (Ty.slice tWrite).rep w' (fun _ => False) [wv] D.writes ∧ Step W5 w' := fun W5 M lv gv hl hg => by
    have h := refRun_ (M := fun _ => False) hl (Ty.less _ hg (fun _ _ h => h.elim)) HP.out (by omega)
    rw [hD, hN] at h
    exact h
  have HBR := Lib.hid hbr
  have HRF := Lib.hid hrf
  rw [hD] at hwl
  clear hPe hP hq hbr hrf hN hD
  obtain ⟨er, ak, rows, W⟩ := D
  simp only at HBR HRF hwl hNX
  have HNX := Lib.hid hNX
  obtain ⟨c, hc⟩ : ∃ c, c = checkB q := ⟨_, rfl⟩
  have HCC := Lib.hid hc
  clear hNX hc
  go_enter Try.func4, Try.ntmps4
  go_upto_region 6 with (first
    | (go_at_call 23; refine (lawAwake_ w).mono ?_; rintro e w1 ⟨rfl, hS1⟩)
    | (go_at_call 24; refine (stored_ (Ty.step _ HWS.out (by (repeat (first | exact Step.refl _ | refine Step.alloc ?_ _ | refine Step.drew ?_ | refine Step.drewN ?_ _ | refine Step.setCell ?_ (by first | exact Nat.le_refl _ | assumption | omega | (simp; done) | (simp; omega)) _ | assumption | refine Step.trans ?_ (by assumption : Step _ _)))))).mono ?_; rintro e w2 ⟨v2, rfl, h2, hS2⟩; rw [← HPE.out] at h2; obtain ⟨la, lc, rfl, _⟩ := Ty.slice_val h2; have HL := Lib.hid h2; clear h2)
    | (go_at_call 10; refine (Few_ (n := 20) (Ty.step _ HOP.out (by (repeat (first | exact Step.refl _ | refine Step.alloc ?_ _ | refine Step.drew ?_ | refine Step.drewN ?_ _ | refine Step.setCell ?_ (by first | exact Nat.le_refl _ | assumption | omega | (simp; done) | (simp; omega)) _ | assumption | refine Step.trans ?_ (by assumption : Step _ _))))) (by omega)).mono ?_; rintro e w3 ⟨v3, rfl, h3, rfl⟩; rw [← HQ.out] at h3; obtain ⟨qa, qc, rfl, _⟩ := Ty.slice_val h3; have HQR := Lib.hid h3; clear h3)
    | (go_at_call 14; refine (OwnOps_ _ _ _ q HQR.out).mono ?_; rintro e w4 ⟨v4, rfl, h4, hS4⟩; have h4' := (Own.less (M' := fun _ => False) h4 (fun _ _ h => h.elim)).rep' (fun _ _ h => h); obtain ⟨ga, gc, rfl, _⟩ := Ty.slice_val h4'; have HG := Lib.hid h4'; clear h4 h4'))
  go_upto_region 7 with (go_at_call 25; refine (HBR.out w4 _ _ (Ty.step _ HL.out (by (repeat (first | exact Step.refl _ | refine Step.alloc ?_ _ | refine Step.drew ?_ | refine Step.drewN ?_ _ | refine Step.setCell ?_ (by first | exact Nat.le_refl _ | assumption | omega | (simp; done) | (simp; omega)) _ | assumption | refine Step.trans ?_ (by assumption : Step _ _))))) HG.out).mono ?_; rintro e w6 ⟨rv, xv, rfl, h61, h62, hS6⟩; obtain ⟨ra, rc, rfl, _⟩ := Ty.slice_val h61; obtain ⟨xa, xc, rfl, _⟩ := Ty.slice_val h62; have HR6 := Lib.hid h61; have HX6 := Lib.hid h62; clear h61 h62)
  go_upto_region 8 with (go_at_call 26; refine (HRF.out _ _ _ _ (Ty.step _ HL.out (by (repeat (first | exact Step.refl _ | refine Step.alloc ?_ _ | refine Step.drew ?_ | refine Step.drewN ?_ _ | refine Step.setCell ?_ (by first | exact Nat.le_refl _ | assumption | omega | (simp; done) | (simp; omega)) _ | assumption | refine Step.trans ?_ (by assumption : Step _ _))))) (Ty.step _ HQR.out (by (repeat (first | exact Step.refl _ | refine Step.alloc ?_ _ | refine Step.drew ?_ | refine Step.drewN ?_ _ | refine Step.setCell ?_ (by first | exact Nat.le_refl _ | assumption | omega | (simp; done) | (simp; omega)) _ | assumption | refine Step.trans ?_ (by assumption : Step _ _)))))).mono ?_; rintro e w7 ⟨nv, rv2, xv2, rfl, h71, h72, h73, hS7⟩; obtain ⟨na, nc, rfl, _⟩ := Ty.slice_val h71; obtain ⟨ra2, rc2, rfl, _⟩ := Ty.slice_val h72; obtain ⟨xa2, xc2, rfl, _⟩ := Ty.slice_val h73; have HN7 := Lib.hid h71; have HR7 := Lib.hid h72; have HX7 := Lib.hid h73; have s7 : ∀ j, w7.cell? ⟨w6.heap.size, j, none⟩ = _ := fun j => hS7.cell (by first | assumption | omega | (simp; done) | (simp; omega)) j; have z7 : w6.heap.size < w7.heap.size := Nat.lt_of_lt_of_le (by first | assumption | omega | (simp; done) | (simp; omega)) hS7.size; clear h71 h72 h73)
  go_upto_region 10 with (first
    | (go_at_call 27; refine (Check_ (Ty.step _ HG.out (by (repeat (first | exact Step.refl _ | refine Step.alloc ?_ _ | refine Step.drew ?_ | refine Step.drewN ?_ _ | refine Step.setCell ?_ (by first | exact Nat.le_refl _ | assumption | omega | (simp; done) | (simp; omega)) _ | assumption | refine Step.trans ?_ (by assumption : Step _ _)))))).mono ?_; rintro e w8 ⟨rfl, hS8⟩; rw [← HCC.out]; have s8_0 : ∀ j, w8.cell? ⟨w6.heap.size, j, none⟩ = _ := fun j => hS8.cell (by first | assumption | omega | (simp; done) | (simp; omega)) j; have s8_1 : ∀ j, w8.cell? ⟨w7.heap.size, j, none⟩ = _ := fun j => hS8.cell (by first | assumption | omega | (simp; done) | (simp; omega)) j; have z8 : w7.heap.size < w8.heap.size := Nat.lt_of_lt_of_le (by first | assumption | omega | (simp; done) | (simp; omega)) hS8.size)
    | (go_at_call 12; refine (refCheck_ (Ty.step _ HQR.out (by (repeat (first | exact Step.refl _ | refine Step.alloc ?_ _ | refine Step.drew ?_ | refine Step.drewN ?_ _ | refine Step.setCell ?_ (by first | exact Nat.le_refl _ | assumption | omega | (simp; done) | (simp; omega)) _ | assumption | refine Step.trans ?_ (by assumption : Step _ _)))))).mono ?_; rintro e w9 ⟨rfl, hS9⟩; rw [← check_same, ← HCC.out]; have s9_0 : ∀ j, w9.cell? ⟨w6.heap.size, j, none⟩ = _ := fun j => hS9.cell (by first | assumption | omega | (simp; done) | (simp; omega)) j; have s9_1 : ∀ j, w9.cell? ⟨w7.heap.size, j, none⟩ = _ := fun j => hS9.cell (by first | assumption | omega | (simp; done) | (simp; omega)) j; have z9 : w7.heap.size < w9.heap.size := Nat.lt_of_lt_of_le (by first | assumption | omega | (simp; done) | (simp; omega)) hS9.size)
    | (go_at_call 28; refine (OutcomeIs_ (Ty.step _ HR6.out (by (repeat (first | exact Step.refl _ | refine Step.alloc ?_ _ | refine Step.drew ?_ | refine Step.drewN ?_ _ | refine Step.setCell ?_ (by first | exact Nat.le_refl _ | assumption | omega | (simp; done) | (simp; omega)) _ | assumption | refine Step.trans ?_ (by assumption : Step _ _))))) (Ty.step _ HX6.out (by (repeat (first | exact Step.refl _ | refine Step.alloc ?_ _ | refine Step.drew ?_ | refine Step.drewN ?_ _ | refine Step.setCell ?_ (by first | exact Nat.le_refl _ | assumption | omega | (simp; done) | (simp; omega)) _ | assumption | refine Step.trans ?_ (by assumption : Step _ _))))) (Ty.step _ HR7.out (by (repeat (first | exact Step.refl _ | refine Step.alloc ?_ _ | refine Step.drew ?_ | refine Step.drewN ?_ _ | refine Step.setCell ?_ (by first | exact Nat.le_refl _ | assumption | omega | (simp; done) | (simp; omega)) _ | assumption | refine Step.trans ?_ (by assumption : Step _ _))))) (Ty.step _ HX7.out (by (repeat (first | exact Step.refl _ | refine Step.alloc ?_ _ | refine Step.drew ?_ | refine Step.drewN ?_ _ | refine Step.setCell ?_ (by first | exact Nat.le_refl _ | assumption | omega | (simp; done) | (simp; omega)) _ | assumption | refine Step.trans ?_ (by assumption : Step _ _)))))).mono ?_; rintro e w10 ⟨rfl, hS10⟩; have s10_0 : ∀ j, w10.cell? ⟨w6.heap.size, j, none⟩ = _ := fun j => hS10.cell (by first | assumption | omega | (simp; done) | (simp; omega)) j; have z10 : w6.heap.size < w10.heap.size := Nat.lt_of_lt_of_le (by first | assumption | omega | (simp; done) | (simp; omega)) hS10.size))
  have t910 := hS9.trans hS10
  have hw710 : Step w7 w10 := (((Step.refl w7).alloc _).trans hS8).trans t910
  have hw610 : Step w6 w10 := (((Step.refl w6).alloc _).trans hS7).trans hw710
  have hw410 : Step w4 w10 := hS6.trans hw610
  have hw3 : Step w3 w10 := hS4.trans hw410
  have hw10 : Step w w10 := hS1.trans (hS2.trans hw3)
  have hC7 : CellsAt w10 w6.heap.size (outC er ak (.slice ra rows.length rc) (.slice xa W.length xc)) 41 := (CellsAt.new (w := w6) rfl).step (hS7.trans hw710)
  have e70 : w10.cell? ⟨w6.heap.size, 0, none⟩ = some (.int .i64 er) := hC7.cell 0
  have e73 : w10.cell? ⟨w6.heap.size, 3, none⟩ = some (.slice xa W.length xc) := hC7.cell 3
  have HL10 := Lib.hid (Ty.step _ HL.out hw3)
  have HQ10 := Lib.hid (Ty.step _ HQR.out hw3)
  have HG10 := Lib.hid (Ty.step _ HG.out hw410)
  have HX10 := Lib.hid (Ty.step _ HX6.out hw610)
  have HN10 := Lib.hid (Ty.step _ HN7.out hw710)
  have HW10 := Lib.hid hw10
  clear t910 hC7 s7 s8_0 s8_1 s9_0 s9_1 s10_0 hw410 hw3 hw610 hw710 hw10 hS1 hS2 hS4 hS6 hS7 hS8 hS9 hS10 HL HQR HG HX6 HN7 HX7 HR6 HR7 HBR HRF HWS HOP
  have z610 : w6.heap.size < w10.heap.size := lt_of_cell e70
  go_wp2
  go_loopw [46] (fun i w' => ∃ k : Nat, i = .int .i64 k ∧ k ≤ q.length ∧ Step w10 w') (fun i _ => q.length - (Go.RowKit.intOf i).toNat)
  case atStart => exact ⟨0, rfl, by omega, Step.refl _⟩
  case round =>
    obtain ⟨k, rfl, hk, hB⟩ := hrel
    by_cases hlt : k < q.length
    · obtain ⟨pb, po, pes, rfl, phb, _, pu, pcu⟩ := Ty.slice_at HG10.out hlt
      obtain ⟨pc1, pc2, rfl, ph0, ph1, ph2, ph3⟩ := pu
      have pq0 := (Step.cell (w' := wr) (by (repeat (first | exact Step.refl _ | refine Step.alloc ?_ _ | refine Step.drew ?_ | refine Step.drewN ?_ _ | refine Step.setCell ?_ (by first | exact Nat.le_refl _ | assumption | omega | (simp; done) | (simp; omega)) _ | assumption | refine Step.trans ?_ (by assumption : Step _ _)))) phb _).trans (pcu 0 _ rfl)
      have pq1 := (Step.cell (w' := wr) (by (repeat (first | exact Step.refl _ | refine Step.alloc ?_ _ | refine Step.drew ?_ | refine Step.drewN ?_ _ | refine Step.setCell ?_ (by first | exact Nat.le_refl _ | assumption | omega | (simp; done) | (simp; omega)) _ | assumption | refine Step.trans ?_ (by assumption : Step _ _)))) phb _).trans (pcu 1 _ rfl)
      have pq2 := (Step.cell (w' := wr) (by (repeat (first | exact Step.refl _ | refine Step.alloc ?_ _ | refine Step.drew ?_ | refine Step.drewN ?_ _ | refine Step.setCell ?_ (by first | exact Nat.le_refl _ | assumption | omega | (simp; done) | (simp; omega)) _ | assumption | refine Step.trans ?_ (by assumption : Step _ _)))) phb _).trans (pcu 2 _ rfl)
      have pq3 := (Step.cell (w' := wr) (by (repeat (first | exact Step.refl _ | refine Step.alloc ?_ _ | refine Step.drew ?_ | refine Step.drewN ?_ _ | refine Step.setCell ?_ (by first | exact Nat.le_refl _ | assumption | omega | (simp; done) | (simp; omega)) _ | assumption | refine Step.trans ?_ (by assumption : Step _ _)))) phb _).trans (pcu 3 _ rfl)
      simp only [show tOp.n = 4 from rfl, Nat.add_zero] at pq0 pq1 pq2 pq3
      obtain ⟨pa1, pn1, rfl, _⟩ := Ty.slice_val ph1
      obtain ⟨pa2, pn2, rfl, _⟩ := Ty.slice_val ph2
      have pH0 := Lib.hid ph0
      have pH1 := Lib.hid ph1
      have pH2 := Lib.hid ph2
      have pH3 := Lib.hid ph3
      clear pcu ph0 ph1 ph2 ph3
      obtain ⟨yb, yo, yes, rfl, yhb, _, yu, ycu⟩ := Ty.slice_at HQ10.out hlt
      obtain ⟨yc1, yc2, rfl, yh0, yh1, yh2, yh3⟩ := yu
      have yq0 := (Step.cell (w' := wr) (by (repeat (first | exact Step.refl _ | refine Step.alloc ?_ _ | refine Step.drew ?_ | refine Step.drewN ?_ _ | refine Step.setCell ?_ (by first | exact Nat.le_refl _ | assumption | omega | (simp; done) | (simp; omega)) _ | assumption | refine Step.trans ?_ (by assumption : Step _ _)))) yhb _).trans (ycu 0 _ rfl)
      have yq1 := (Step.cell (w' := wr) (by (repeat (first | exact Step.refl _ | refine Step.alloc ?_ _ | refine Step.drew ?_ | refine Step.drewN ?_ _ | refine Step.setCell ?_ (by first | exact Nat.le_refl _ | assumption | omega | (simp; done) | (simp; omega)) _ | assumption | refine Step.trans ?_ (by assumption : Step _ _)))) yhb _).trans (ycu 1 _ rfl)
      have yq2 := (Step.cell (w' := wr) (by (repeat (first | exact Step.refl _ | refine Step.alloc ?_ _ | refine Step.drew ?_ | refine Step.drewN ?_ _ | refine Step.setCell ?_ (by first | exact Nat.le_refl _ | assumption | omega | (simp; done) | (simp; omega)) _ | assumption | refine Step.trans ?_ (by assumption : Step _ _)))) yhb _).trans (ycu 2 _ rfl)
      have yq3 := (Step.cell (w' := wr) (by (repeat (first | exact Step.refl _ | refine Step.alloc ?_ _ | refine Step.drew ?_ | refine Step.drewN ?_ _ | refine Step.setCell ?_ (by first | exact Nat.le_refl _ | assumption | omega | (simp; done) | (simp; omega)) _ | assumption | refine Step.trans ?_ (by assumption : Step _ _)))) yhb _).trans (ycu 3 _ rfl)
      simp only [show tOp.n = 4 from rfl, Nat.add_zero] at yq0 yq1 yq2 yq3
      obtain ⟨ya1, yn1, rfl, _⟩ := Ty.slice_val yh1
      obtain ⟨ya2, yn2, rfl, _⟩ := Ty.slice_val yh2
      have yH0 := Lib.hid yh0
      have yH1 := Lib.hid yh1
      have yH2 := Lib.hid yh2
      have yH3 := Lib.hid yh3
      clear ycu yh0 yh1 yh2 yh3
      have hk0 : (0 : Int) ≤ (k : Int) := by omega
      have hki : (k : Int) < (q.length : Int) := by omega
      have HSO := Lib.hid (fun (X : World) (hX : Step wr X) => SameOp_ (kd := q[k].kind) (mo := q[k].most) (Ty.step _ (Ty.step _ pH1.out hB) hX) (Ty.step _ (Ty.step _ pH2.out hB) hX) (Ty.step _ (Ty.step _ yH1.out hB) hX) (Ty.step _ (Ty.step _ yH2.out hB) hX))
      go_upto_region 13 with fail
      refine wp_region_cut (S := (fun w' => w'.cell? ⟨pb, po + k * 4, none⟩ = some (.int .i64 q[k].kind) ∧ w'.cell? ⟨pb, po + k * 4 + 1, none⟩ = some (.slice pa1 q[k].key.length pn1) ∧ w'.cell? ⟨pb, po + k * 4 + 2, none⟩ = some (.slice pa2 q[k].value.length pn2) ∧ w'.cell? ⟨pb, po + k * 4 + 3, none⟩ = some (.int .i64 q[k].most) ∧ w'.cell? ⟨yb, yo + k * 4, none⟩ = some (.int .i64 q[k].kind) ∧ w'.cell? ⟨yb, yo + k * 4 + 1, none⟩ = some (.slice ya1 q[k].key.length yn1) ∧ w'.cell? ⟨yb, yo + k * 4 + 2, none⟩ = some (.slice ya2 q[k].value.length yn2) ∧ w'.cell? ⟨yb, yo + k * 4 + 3, none⟩ = some (.int .i64 q[k].most))) 8 (by kernel_rfl) ?_ (fun hHeld => ?_)
      · (go_keep)
      refine wpAnyC_take (i := 0) (v := ?_) rfl (by kernel_rfl) (by kernel_rfl) (by kernel_rfl) (by decide) [2, 3, 8, 9] (by kernel_rfl) (fun _ _ _ h => h) (Or.inl ⟨by rfl, ?_⟩) (by assumption) ?_
      rotate_left 1
      · (intro w hSw; (try dsimp only at hSw); go_simp; (try with_reducible rfl))
      try simp only [Act.put, List.getElem_toArray, List.getElem_cons_succ, List.getElem_cons_zero, List.setIfInBounds_toArray, List.set_cons_zero, List.set_cons_succ]
      refine wpAnyC_take (i := 1) (v := ?_) rfl (by kernel_rfl) (by kernel_rfl) (by kernel_rfl) (by decide) [2, 3, 8, 9] (by kernel_rfl) (fun _ _ _ h => h) (Or.inl ⟨by rfl, ?_⟩) (by assumption) ?_
      rotate_left 1
      · (intro w hSw; (try dsimp only at hSw); go_simp; (try with_reducible rfl))
      try simp only [Act.put, List.getElem_toArray, List.getElem_cons_succ, List.getElem_cons_zero, List.setIfInBounds_toArray, List.set_cons_zero, List.set_cons_succ]
      refine wpAnyC_take (i := 2) (v := ?_) rfl (by kernel_rfl) (by kernel_rfl) (by kernel_rfl) (by decide) [3, 8, 9] (by kernel_rfl) (fun _ _ _ h => h) (Or.inl ⟨by rfl, ?_⟩) (by assumption) ?_
      rotate_left 1
      · (intro w hSw; (try dsimp only at hSw); go_simp; (try with_reducible rfl))
      try simp only [Act.put, List.getElem_toArray, List.getElem_cons_succ, List.getElem_cons_zero, List.setIfInBounds_toArray, List.set_cons_zero, List.set_cons_succ]
      refine wpAnyC_take (i := 3) (v := ?_) rfl (by kernel_rfl) (by kernel_rfl) (by kernel_rfl) (by decide) [8, 9] (by kernel_rfl) (fun _ _ _ h => h) (Or.inl ⟨by rfl, ?_⟩) (by assumption) ?_
      rotate_left 1
      · (intro w hSw; (try dsimp only at hSw); go_simp; (try with_reducible rfl))
      try simp only [Act.put, List.getElem_toArray, List.getElem_cons_succ, List.getElem_cons_zero, List.setIfInBounds_toArray, List.set_cons_zero, List.set_cons_succ]
      refine wpAnyC_take (i := 4) (v := ?_) rfl (by kernel_rfl) (by kernel_rfl) (by kernel_rfl) (by decide) [6, 7, 8, 9] (by kernel_rfl) (fun _ _ _ h => h) (Or.inl ⟨by rfl, ?_⟩) (by assumption) ?_
      rotate_left 1
      · (intro w hSw; (try dsimp only at hSw); go_simp; (try with_reducible rfl))
      try simp only [Act.put, List.getElem_toArray, List.getElem_cons_succ, List.getElem_cons_zero, List.setIfInBounds_toArray, List.set_cons_zero, List.set_cons_succ]
      refine wpAnyC_take (i := 5) (v := ?_) rfl (by kernel_rfl) (by kernel_rfl) (by kernel_rfl) (by decide) [6, 7, 8, 9] (by kernel_rfl) (fun _ _ _ h => h) (Or.inl ⟨by rfl, ?_⟩) (by assumption) ?_
      rotate_left 1
      · (intro w hSw; (try dsimp only at hSw); go_simp; (try with_reducible rfl))
      try simp only [Act.put, List.getElem_toArray, List.getElem_cons_succ, List.getElem_cons_zero, List.setIfInBounds_toArray, List.set_cons_zero, List.set_cons_succ]
      refine wpAnyC_take (i := 6) (v := ?_) rfl (by kernel_rfl) (by kernel_rfl) (by kernel_rfl) (by decide) [7, 8, 9] (by kernel_rfl) (fun _ _ _ h => h) (Or.inl ⟨by rfl, ?_⟩) (by assumption) ?_
      rotate_left 1
      · (intro w hSw; (try dsimp only at hSw); go_simp; (try with_reducible rfl))
      try simp only [Act.put, List.getElem_toArray, List.getElem_cons_succ, List.getElem_cons_zero, List.setIfInBounds_toArray, List.set_cons_zero, List.set_cons_succ]
      refine wpAnyC_take (i := 7) (v := ?_) rfl (by kernel_rfl) (by kernel_rfl) (by kernel_rfl) (by decide) [8, 9] (by kernel_rfl) (fun _ _ _ h => h) (Or.inl ⟨by rfl, ?_⟩) (by assumption) ?_
      rotate_left 1
      · (intro w hSw; (try dsimp only at hSw); go_simp; (try with_reducible rfl))
      try simp only [Act.put, List.getElem_toArray, List.getElem_cons_succ, List.getElem_cons_zero, List.setIfInBounds_toArray, List.set_cons_zero, List.set_cons_succ]
      refine wpAnyC_ready (rs := [8]) (by kernel_rfl) (by simp) ?_
      refine AllReadyC.cut rfl (fun K hK => ?_)
      try simp only [List.getElem_toArray, List.getElem_cons_succ, List.getElem_cons_zero]
      go_simp
      (go_at_call 29; refine (HSO.out _ (by (repeat (first | exact Step.refl _ | refine Step.alloc ?_ _ | refine Step.drew ?_ | refine Step.drewN ?_ _ | refine Step.setCell ?_ (by first | exact Nat.le_refl _ | assumption | omega | (simp; done) | (simp; omega)) _ | assumption | refine Step.trans ?_ (by assumption : Step _ _))))).mono ?_; rintro e w11 ⟨rfl, hS11⟩)
      refine hK.out _ _ trivial (fun hHeld => ?_)
      clear hK K
      try simp only [Act.put, List.getElem_toArray, List.getElem_cons_succ, List.getElem_cons_zero, List.setIfInBounds_toArray, List.set_cons_zero, List.set_cons_succ]
      have hTrue : True := trivial
      refine wpAnyH_take (i := 9) (v := ?_) rfl (by kernel_rfl) (by kernel_rfl) (by kernel_rfl) (fun _ _ _ h => h) (Or.inl ⟨by rfl, ?_⟩) (by assumption) ?_
      rotate_left 1
      · (intro w hSw; (try dsimp only at hSw); go_simp; (try with_reducible rfl))
      try simp only [Act.put, List.getElem_toArray, List.getElem_cons_succ, List.getElem_cons_zero, List.setIfInBounds_toArray, List.set_cons_zero, List.set_cons_succ]
      refine wpAnyH_done (by kernel_rfl) ?_ _
      go_wp2
      go_roundw
      case rel => exact ⟨k + 1, by go_num, by omega, by (repeat (first | exact Step.refl _ | refine Step.alloc ?_ _ | refine Step.drew ?_ | refine Step.drewN ?_ _ | refine Step.setCell ?_ (by first | exact Nat.le_refl _ | assumption | omega | (simp; done) | (simp; omega)) _ | assumption | refine Step.trans ?_ (by assumption : Step _ _)))⟩
      case measure => ((try simp [Go.RowKit.intOf]); omega)
    · obtain rfl : k = q.length := by omega
      have e70r := (hB.cell z610 0).trans e70
      have e73r := (hB.cell z610 3).trans e73
      have HBB := Lib.hid hB
      have z6r : w6.heap.size < wr.heap.size := lt_of_cell e70r
      clear e70 e73 hB
      obtain ⟨wo, hwo⟩ : ∃ x, x = wr := ⟨_, rfl⟩
      subst hwo
      go_wp2
      go_loopw [5, 63] (fun l i w' => ∃ k : Nat, i = .int .i64 k ∧ k ≤ W.length ∧ (Ty.slice tPair).rep w' (fun _ => False) [l] (overB P (W.take k)) ∧ Step wo w') (fun _ i _ => W.length - (Go.RowKit.intOf i).toNat)
      case atStart => exact ⟨0, rfl, by omega, Ty.step _ HL10.out HBB.out, Step.refl _⟩
      case round =>
        obtain ⟨k, rfl, hk, hA, hBo⟩ := hrel
        obtain ⟨ka, kc, hlv, _⟩ := Ty.slice_val hA
        subst hlv
        have HA := Lib.hid hA
        clear hA
        by_cases hlt : k < W.length
        · have hB : Step w10 wr := HBB.out.trans hBo
          obtain ⟨pb, po, pes, rfl, phb, _, pu, pcu⟩ := Ty.slice_at HX10.out hlt
          obtain ⟨pc0, pc1, rfl, ph0, ph1⟩ := pu
          have pq0 := (Step.cell (w' := wr) (by (repeat (first | exact Step.refl _ | refine Step.alloc ?_ _ | refine Step.drew ?_ | refine Step.drewN ?_ _ | refine Step.setCell ?_ (by first | exact Nat.le_refl _ | assumption | omega | (simp; done) | (simp; omega)) _ | assumption | refine Step.trans ?_ (by assumption : Step _ _)))) phb _).trans (pcu 0 _ rfl)
          have pq1 := (Step.cell (w' := wr) (by (repeat (first | exact Step.refl _ | refine Step.alloc ?_ _ | refine Step.drew ?_ | refine Step.drewN ?_ _ | refine Step.setCell ?_ (by first | exact Nat.le_refl _ | assumption | omega | (simp; done) | (simp; omega)) _ | assumption | refine Step.trans ?_ (by assumption : Step _ _)))) phb _).trans (pcu 1 _ rfl)
          have pq2 := (Step.cell (w' := wr) (by (repeat (first | exact Step.refl _ | refine Step.alloc ?_ _ | refine Step.drew ?_ | refine Step.drewN ?_ _ | refine Step.setCell ?_ (by first | exact Nat.le_refl _ | assumption | omega | (simp; done) | (simp; omega)) _ | assumption | refine Step.trans ?_ (by assumption : Step _ _)))) phb _).trans (pcu 2 _ rfl)
          simp only [show tWrite.n = 3 from rfl, Nat.add_zero] at pq0 pq1 pq2
          obtain ⟨pa0, pn0, rfl, _⟩ := Ty.slice_val ph0
          obtain ⟨pa1, pn1, rfl, _⟩ := Ty.slice_val ph1
          have pH0 := Lib.hid ph0
          have pH1 := Lib.hid ph1
          clear pcu ph0 ph1
          have hlen : (overB P (W.take k)).length ≤ 200 := by
            have h1 := overB_length (l := P) (W.take k)
            rw [List.length_take] at h1
            omega
          have hov : overB P (W.take (k + 1)) = putL DPair.key ⟨W[k].key, W[k].value⟩ W[k].gone (overB P (W.take k)) := by
            rw [putW_eq (RisP.over HP.out _), List.take_succ_eq_append_getElem hlt]
            unfold overB
            rw [List.foldl_append]
            rfl
          have HOV := Lib.hid hov
          have HPUT := Lib.hid (fun (X : World) (hX : Step wr X) => refPut_ (M := fun _ => False) (g := W[k].gone) (Ty.step _ HA.out hX) (Ty.step _ (Ty.step _ pH0.out hB) hX) (Ty.step _ (Ty.step _ pH1.out hB) hX) (by omega) (fun b h => h.elim))
          have HB := Lib.hid hBo
          clear hov hB
          go_wp2_with (go_at_call 30; refine (HPUT.out _ (by (repeat (first | exact Step.refl _ | refine Step.alloc ?_ _ | refine Step.drew ?_ | refine Step.drewN ?_ _ | refine Step.setCell ?_ (by first | exact Nat.le_refl _ | assumption | omega | (simp; done) | (simp; omega)) _ | assumption | refine Step.trans ?_ (by assumption : Step _ _))))).mono ?_; rintro e w12 ⟨v12, rfl, hA12, hS12⟩; obtain ⟨a12, n12, m12, rfl, HN12⟩ := hA12.valN; have HA12 := Lib.hid hA12; clear hA12)
          go_roundw
          case rel => exact ⟨k + 1, by go_num, by omega, by rw [HOV.out]; exact HA12.out.rep' (fun _ _ h => h), by (repeat (first | exact Step.refl _ | refine Step.alloc ?_ _ | refine Step.drew ?_ | refine Step.drewN ?_ _ | refine Step.setCell ?_ (by first | exact Nat.le_refl _ | assumption | omega | (simp; done) | (simp; omega)) _ | assumption | refine Step.trans ?_ (by assumption : Step _ _)))⟩
          case measure => ((try simp [Go.RowKit.intOf]); omega)
        · obtain rfl : k = W.length := by omega
          rw [List.take_length] at HA ⊢
          have e70q := (hBo.cell z6r 0).trans e70r
          have HB := Lib.hid hBo
          have hfin : Step w wr := HW10.out.trans (HBB.out.trans hBo)
          have HFIN := Lib.hid hfin
          by_cases he : er = 0
          · subst he
            have hN2 : N = overB P W := by rw [HNX.out]; simp
            have HSA := Lib.hid (fun (X : World) (hX : Step wr X) => refSame_ (Ty.step _ HA.out hX) (Ty.step _ (Ty.step _ (hN2 ▸ HN10.out) (HBB.out.trans hBo)) hX))
            have hnl : N.length = (overB P W).length := by rw [hN2]
            rw [hnl]
            clear hN2 hnl hfin e70r e73r hBo
            go_wp2_with (go_at_call 31; refine (HSA.out _ (by (repeat (first | exact Step.refl _ | refine Step.alloc ?_ _ | refine Step.drew ?_ | refine Step.drewN ?_ _ | refine Step.setCell ?_ (by first | exact Nat.le_refl _ | assumption | omega | (simp; done) | (simp; omega)) _ | assumption | refine Step.trans ?_ (by assumption : Step _ _))))).mono ?_; rintro e w13 ⟨rfl, n13, rfl⟩)
            go_ret
            exact ⟨rfl, HFIN.out.trans (by (repeat (first | exact Step.refl _ | refine Step.alloc ?_ _ | refine Step.drew ?_ | refine Step.drewN ?_ _ | refine Step.setCell ?_ (by first | exact Nat.le_refl _ | assumption | omega | (simp; done) | (simp; omega)) _ | assumption | refine Step.trans ?_ (by assumption : Step _ _))))⟩
          · have he' : ((er : Int) != 0) = true := by rw [bne_iff_ne]; exact he
            clear hfin e70r e73r hBo
            go_wp2
            go_ret
            exact ⟨rfl, HFIN.out.trans (by (repeat (first | exact Step.refl _ | refine Step.alloc ?_ _ | refine Step.drew ?_ | refine Step.drewN ?_ _ | refine Step.setCell ?_ (by first | exact Nat.le_refl _ | assumption | omega | (simp; done) | (simp; omega)) _ | assumption | refine Step.trans ?_ (by assumption : Step _ _))))⟩
end Go.Proofs.Ythflkfgiclcdiaa
