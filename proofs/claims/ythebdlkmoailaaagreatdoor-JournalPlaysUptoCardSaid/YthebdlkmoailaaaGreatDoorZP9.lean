/-
  Walk: a journal reads a file's head.
  Walk: a journal loads its files, where all are whole and join on.
  Walk: Open, where a drive's files are whole and join on.
  Walk: Records, where all that is asked for is there.
-/
import Derived.Test.YthebdlkmoailaaaGreatDoorZK13
import Derived.Test.YthebdlkmoailaaaGreatDoorZP7
set_option linter.unusedVariables false
set_option linter.unusedSimpArgs false
namespace Go.Proofs.YthebdlkmoailaaaGreatDoor
open Go.RowKit Go.Gr Go.Maps
open Go.Proofs (encStr)
set_option linter.unusedSimpArgs false
set_option linter.unusedVariables false
theorem results_cell_tmp3 {P : Program} {fn : Func} {p a b c : Tmp} {ty : TypeId} (h : fn.results = #[.cell p ty, .tmp a, .tmp b, .tmp c]) (tmps : Array Value) (w : World) (g : Nat) (t : TypeId) (cs : Array Value) (d : TypeDesc)
    (hp : tmps.getD p undef = .pointer (some ⟨g, 0, none⟩)) (hg : CellsAt w g cs t) (hu : P.underlying ty = some d) (hd : (match d with | .struct _ | .array _ _ => true | _ => false) = true) (hi : (P.info? ty).map (·.size) = some cs.size) :
    (results fn tmps).run P w = .ok (.tuple #[.agg cs, tmps.getD a undef, tmps.getD b undef, tmps.getD c undef]) w := by
  have hl := run_loadVar_row w g t ty cs (0, 0) d hg hu hd hi
  have hq : (results fn tmps).run P w = ((asAddr (tmps.getD p undef)).run P w).andThen fun x w₁ => ((loadVar ty x).run P w₁).andThen fun v w₂ => .ok (.tuple #[v, tmps.getD a undef, tmps.getD b undef, tmps.getD c undef]) w₂ := by
    simp only [results, h]
    simp [Sem.run_bind, Result.andThen]
  rw [hq, hp]
  simp [asAddr, hl, Result.andThen]
/-- A file's head: number, first index, and how the reader closes. -/
def headN (d : List UInt8) : Nat × Nat × Int :=
  ((numF d 0 0).1, (numF d (numF d 0 0).2.1 (numF d 0 0).2.2).1,
    if (numF d (numF d 0 0).2.1 (numF d 0 0).2.2).2.2 ≠ 0 then (numF d (numF d 0 0).2.1 (numF d 0 0).2.2).2.2 else if (numF d (numF d 0 0).2.1 (numF d 0 0).2.2).2.1 < d.length then 3 else 0)
/-- What is read of a file's bytes. -/
def fileJ (n : Nat) (X : List UInt8) : DFile × Bool × Bool :=
  match (allO X 0 []).1 with
  | [] => (DFile.none, false, false)
  | d0 :: ds => if (headN d0).2.2 = 0 ∧ (headN d0).1 = n then (⟨n, (headN d0).2.1, ((headN d0).2.1 + ds.length) % 18446744073709551616, (allO X 0 []).2⟩, true, decide ((allO X 0 []).2 = X.length)) else (DFile.none, false, false)
set_option maxRecDepth 100000 in
set_option maxHeartbeats 4000000 in
theorem jRead_ {w : World} {M : Nat → Prop} {b l n : Nat} {sf sn : Option Nat} {D : DDr} {pre : List UInt8} {most : Int} {fv : Value} {closed : Bool} (h : DriveAt w M b sf sn D) (hdead : D.dead = false) (hl : LgAt w l b pre most fv closed) (hp : pre.length ≤ 998) (hn : n < 100) (hth : thereB D.seen (nameB pre n) = true) (hX : (dataB D.seen (nameB pre n)).length ≤ 68719476736) :
    Calls Tryz.prog 76 #[.pointer (some ⟨l, 0, none⟩), .int .u64 (n : Int)] w fun e w' => e = .returned (.tuple #[.agg (flV (fileJ n (dataB D.seen (nameB pre n))).1), .bool (fileJ n (dataB D.seen (nameB pre n))).2.1, .bool (fileJ n (dataB D.seen (nameB pre n))).2.2, .int .i64 0]) ∧ Step w w' := by
  obtain ⟨X, hXe⟩ : ∃ X, X = dataB D.seen (nameB pre n) := ⟨_, rfl⟩
  rw [← hXe] at hX ⊢
  obtain ⟨nm, hnm⟩ : ∃ nm, nm = nameB pre n := ⟨_, rfl⟩
  have HNM : Hid (∀ W : World, Step w W → Calls Tryz.prog 51 #[.pointer (some ⟨l, 0, none⟩), .int .u64 (n : Int)] W fun e w' => e = .returned (encStr nm) ∧ ∃ m, w' = W.drewN m) := Lib.hid (fun W hW => by
    rw [hnm]
    exact jName_ (CellsAt.step hl hW) hn (by omega))
  have HRD : Hid (∀ W : World, Step w W → Calls Tryz.prog 25 #[.pointer (some ⟨b, 0, none⟩), encStr nm] W fun e w' => ∃ v', e = .returned (.tuple #[v', .int .i64 0]) ∧ Gr.Own Ty.byte 5 w' (· < W.heap.size) W.heap.size v' X ∧ Step W w') := Lib.hid (fun W hW => by
    have hD := h.step hW
    obtain ⟨queue, hr, _⟩ := hD.row
    have h2 := dRead_ (s := nm) hr hD.seen (by have := nameB_len pre n; rw [hnm]; simp [maxLen]; omega)
    refine h2.mono ?_
    intro e w' hx
    unfold ReadRet at hx
    rw [hdead, hnm, hth, ← hXe] at hx
    simpa using hx)
  have l0 : w.cell? ⟨l, 0, none⟩ = some (.pointer (some ⟨b, 0, none⟩)) := hl.cell 0
  have hllt := hl.lt
  clear h hl hXe hnm hth
  obtain ⟨R, hR⟩ : ∃ R, R = allO X 0 [] := ⟨_, rfl⟩
  have hRok : R.2 ≤ X.length ∧ R.1.length ≤ X.length := by
    have := allO_ok (b := X) (k := 0) (out := []) (Nat.zero_le _)
    rw [← hR] at this
    exact ⟨this.2.1, by simpa using this.2.2⟩
  have HOA : Hid (∀ (W : World) (v : Value), Ty.bytes.rep W (fun _ => False) [v] X → Calls Tryz.prog 53 #[v] W fun e w' => ∃ v' M4, e = .returned (.tuple #[v', .int .i64 (R.2 : Int)]) ∧ (Ty.slice Ty.bytes).rep w' M4 [v'] R.1 ∧ Step W w') := Lib.hid (fun W v hv => by
    refine (pyOpenAll_ hv).mono ?_
    rintro e w' ⟨v', ds, rfl, hA, hS, hds, _⟩
    refine ⟨v', (· < W.heap.size), by rw [hR], ?_, hS⟩
    rw [hR, ← hds.out]
    exact slice_mapE Prod.fst rfl (fun h => tGB_bytes h) (Gr.Own.rep' hA (fun c hc hm => by have := (hA.lt hc).1; omega)))
  obtain ⟨FJ, hFJ⟩ : ∃ FJ, FJ = fileJ n X := ⟨_, rfl⟩
  rw [← hFJ]
  unfold fileJ at hFJ
  rw [← hR] at hFJ
  have HFJ := Lib.hid hFJ
  clear hR hFJ
  go_enter Tryz.func76, Tryz.ntmps76
  go_upto_region 1 with fail
  obtain ⟨kb, hkb⟩ : ∃ kb, kb = w.heap.size := ⟨_, rfl⟩
  rw [← hkb]
  refine wp_code (fun wx => CellsAt wx kb (flV DFile.none) 89 ∧ Step w wx) ⟨CellsAt.new hkb, by (repeat (first | exact Step.refl _ | refine Step.alloc ?_ _ | refine Step.drew ?_ | refine Step.drewN ?_ _ | refine Step.setCell ?_ (by first | exact Nat.le_refl _ | assumption | omega | (simp; done) | (simp; omega)) _ | assumption | refine Step.trans ?_ (by assumption : Step _ _)))⟩ ?_
  rintro w1 ⟨hb1, hS1⟩
  have l01 : w1.cell? ⟨l, 0, none⟩ = some (.pointer (some ⟨b, 0, none⟩)) := (hS1.cell hllt 0).trans l0
  have hk1 : kb < w1.heap.size := hb1.lt
  have hkw := Lib.hid (Nat.le_of_eq hkb.symm)
  have HB1 := Lib.hid hb1
  have HS1 := Lib.hid hS1
  clear hb1 hS1 l0 hkb
  refine wp_region_cut (S := (fun w' => w'.cell? ⟨l, 0, none⟩ = some (.pointer (some ⟨b, 0, none⟩)))) 7 (by kernel_rfl) ?_ (fun hHeld => ?_)
  · (go_keep)
  refine tkC 0 [1, 2, 3, 7, 8, 9, 10, 11, 12] ?_
  try simp only [Act.put, gtA, gtB, gtC, gtD, gtE, gtF]
  refine tkC 1 [2, 3, 7, 8, 9, 10, 11, 12] ?_
  try simp only [Act.put, gtA, gtB, gtC, gtD, gtE, gtF]
  refine tkC 2 [3, 7, 8, 9, 10, 11, 12] ?_
  try simp only [Act.put, gtA, gtB, gtC, gtD, gtE, gtF]
  refine tkC 3 [7, 8, 9, 10, 11, 12] ?_
  try simp only [Act.put, gtA, gtB, gtC, gtD, gtE, gtF]
  refine tkC 4 [6, 7, 8, 9, 10, 11, 12] ?_
  try simp only [Act.put, gtA, gtB, gtC, gtD, gtE, gtF]
  refine tkC 5 [6, 7, 8, 9, 10, 11, 12] ?_
  try simp only [Act.put, gtA, gtB, gtC, gtD, gtE, gtF]
  refine rdC (rs := [6]) (.cons rfl (by decide) (fun K hK => ?_) .nil)
  try simp only [gtA, gtB, gtC]
  go_simp
  (go_at_call 51; refine (HNM.out _ (HS1.out.trans stp)).mono ?_; rintro e w2 ⟨rfl, m2, rfl⟩)
  refine hK.out _ _ ?_ (fun hHeld => ?_)
  · (go_keep)
  clear hK K
  try simp only [Act.put, gtA, gtB, gtC, gtD, gtE, gtF]
  refine rdC (rs := [7]) (.cut rfl (fun K hK => ?_))
  try simp only [gtA, gtB, gtC]
  go_simp
  (go_at_call 25; refine (HRD.out _ (HS1.out.trans stp)).mono ?_; rintro e w3 ⟨v3, rfl, hA3, hS3⟩; obtain ⟨a3, n3, c3, rfl, HN3⟩ := hA3.valN; have HA3 := Lib.hid hA3; have HS3 : Hid (Step w1 w3) := Lib.hid (Step.trans stp hS3); clear hA3 hS3)
  refine hK.out _ _ trivial (fun hHeld => ?_)
  clear hK K
  try simp only [Act.put, gtA, gtB, gtC, gtD, gtE, gtF]
  have hTrue : True := trivial
  refine tkH 8 ?_
  try simp only [Act.put, gtA, gtB, gtC, gtD, gtE, gtF]
  refine tkH 9 ?_
  try simp only [Act.put, gtA, gtB, gtC, gtD, gtE, gtF]
  refine tkH 10 ?_
  try simp only [Act.put, gtA, gtB, gtC, gtD, gtE, gtF]
  refine tkH 11 ?_
  try simp only [Act.put, gtA, gtB, gtC, gtD, gtE, gtF]
  refine tkH 12 ?_
  try simp only [Act.put, gtA, gtB, gtC, gtD, gtE, gtF]
  refine wpAnyH_done (by kernel_rfl) ?_ _
  have HRX : Hid (Ty.bytes.rep w3 (fun _ => False) [.slice a3 n3 c3] X) := Lib.hid (Gr.Own.rep' (Gr.Own.flat Ty.flat_byte HA3.out) (fun _ _ h => h))
  have hn3 := HN3.out
  clear HA3 HNM HRD HN3 l01
  subst hn3
  rcases R with ⟨_ | ⟨d0, ds⟩, en⟩
  · go_wp2_with (go_at_call 53; refine (HOA.out _ _ (Ty.step _ HRX.out stp)).mono ?_; rintro e w4 ⟨v4, M4, rfl, hr4, hS4⟩; obtain ⟨a4, c4, rfl, _⟩ := Ty.slice_val hr4; have HR4 := Lib.hid hr4; have HS4 : Hid (Step w1 w4) := Lib.hid (HS3.out.trans (Step.trans stp hS4)); have k4 : ∀ j, w4.cell? ⟨kb, j, none⟩ = (flV DFile.none)[j]? := fun j => (CellsAt.step HB1.out HS4.out).cell j; have g4 : ∀ j, w4.frozen? ⟨kb, j, none⟩ = false := fun j => (CellsAt.step HB1.out HS4.out).frozen j; clear hr4 hS4)
    refine bodyPost_ret (results_cell_tmp3 Tryz.results76 _ _ kb 89 (flV DFile.none) _ rfl ?_ Tryz.underlying89 rfl (by kernel_rfl)) rfl ?_
    · have h := CellsAt.set (CellsAt.set (CellsAt.set (CellsAt.set (CellsAt.step HB1.out HS4.out) 0 (.int .u64 0)) 1 (.int .u64 0)) 2 (.int .u64 0)) 3 (.int .i64 0)
      exact h
    · refine ⟨by rw [HFJ.out]; rfl, ?_⟩
      have h := HS1.out.trans HS4.out
      have hkw := hkw.out
      (repeat (first | exact Step.refl _ | refine Step.alloc ?_ _ | refine Step.drew ?_ | refine Step.drewN ?_ _ | refine Step.setCell ?_ (by first | exact Nat.le_refl _ | assumption | omega | (simp; done) | (simp; omega)) _ | assumption | refine Step.trans ?_ (by assumption : Step _ _)))
  · obtain ⟨A1, hA1⟩ : ∃ A1, A1 = numF d0 0 0 := ⟨_, rfl⟩
    obtain ⟨A2, hA2⟩ : ∃ A2, A2 = numF d0 A1.2.1 A1.2.2 := ⟨_, rfl⟩
    obtain ⟨cl, hcl⟩ : ∃ cl : Int, cl = if A2.2.2 ≠ 0 then A2.2.2 else if A2.2.1 < d0.length then 3 else 0 := ⟨_, rfl⟩
    have hle1 := numF_le (b := d0) (k := 0) 0 (Nat.zero_le _)
    rw [← hA1] at hle1
    have hle2 := numF_le (b := d0) (k := A1.2.1) A1.2.2 hle1.2.1
    rw [← hA2] at hle2
    have hhd : headN d0 = (A1.1, A2.1, cl) := by unfold headN; rw [← hA1, ← hA2, ← hcl]
    have H1 : Hid (∀ (W : World) (rb : Nat) (v : Value), RdAt W rb v 0 0 → Ty.bytes.rep W (· = rb) [v] d0 → Calls Tryz.prog 97 #[.pointer (some ⟨rb, 0, none⟩)] W fun x w' => x = .returned (.int .u64 (A1.1 : Int)) ∧ RdAt w' rb v A1.2.1 A1.2.2 ∧ Ty.bytes.rep w' (· = rb) [v] d0 ∧ Turn (· = rb) W w') := Lib.hid (fun W rb v h hr => by
      rw [hA1]
      exact (rdNum_ h hr (Nat.zero_le _)).mono (fun e w' ⟨h1, h2, h3⟩ => ⟨h1, h2, Ty.keep _ hr (fun c hc hm => ⟨h3.block c hc hm, hm⟩), h3⟩))
    have H2 : Hid (∀ (W : World) (rb : Nat) (v : Value), RdAt W rb v A1.2.1 A1.2.2 → Ty.bytes.rep W (· = rb) [v] d0 → Calls Tryz.prog 97 #[.pointer (some ⟨rb, 0, none⟩)] W fun x w' => x = .returned (.int .u64 (A2.1 : Int)) ∧ RdAt w' rb v A2.2.1 A2.2.2 ∧ Ty.bytes.rep w' (· = rb) [v] d0 ∧ Turn (· = rb) W w') := Lib.hid (fun W rb v h hr => by
      rw [hA2]
      exact (rdNum_ h hr hle1.2.1).mono (fun e w' ⟨h1, h2, h3⟩ => ⟨h1, h2, Ty.keep _ hr (fun c hc hm => ⟨h3.block c hc hm, hm⟩), h3⟩))
    have H3 : Hid (∀ (W : World) (rb : Nat) (v : Value), RdAt W rb v A2.2.1 A2.2.2 → Ty.bytes.rep W (· = rb) [v] d0 → Calls Tryz.prog 98 #[.pointer (some ⟨rb, 0, none⟩)] W fun x w' => x = .returned (.int .i64 cl) ∧ ∃ m, w' = W.drewN m) := Lib.hid (fun W rb v h hr => by
      obtain ⟨a, c, rfl, _, _, hl⟩ := Ty.slice_val hr
      rw [lim_eq] at hl
      rw [hcl]
      exact rdClose_g h hle2.2.1 hl)
    have hx2 := hle2.2.2
    have hFJ := HFJ.out
    dsimp only at hFJ
    rw [hhd] at hFJ
    clear HFJ
    clear hhd hcl hA1 hA2 hle1 hle2
    obtain ⟨x1, k1, e1⟩ := A1
    obtain ⟨x2, k2, e2⟩ := A2
    (try dsimp only at *)
    have hdl : ds.length < 68719476736 := by have h := hRok.2; simp only [List.length_cons] at h; omega
    have hRl := hRok.1
    clear hRok
    have hl0 : (((ds.length + 1 : Nat) : Int) == 0) = false := beq_eq_false_iff_ne.2 (by omega)
    by_cases hc0 : cl = 0
    · subst hc0
      by_cases hxn : x1 = n
      · subst hxn
        have HFJ2 := Lib.hid (hFJ.trans (if_pos ⟨rfl, rfl⟩))
        clear hFJ
        go_wp2_with (first
          | (go_at_call 53; refine (HOA.out _ _ (Ty.step _ HRX.out stp)).mono ?_; rintro e w4 ⟨v4, M4, rfl, hr4, hS4⟩; obtain ⟨a4, c4, rfl, _⟩ := Ty.slice_val hr4; have HS4 : Hid (Step w1 w4) := Lib.hid (HS3.out.trans (Step.trans stp hS4)); obtain ⟨b4, o4, u4, rfl, hb4, _, hu4, hc4⟩ := Ty.slice_at1 rfl hr4 (by simp : 0 < (d0 :: ds).length); obtain ⟨va4, vc4, rfl, _, _, hvl4⟩ := Ty.slice_val hu4; have HU4 : Hid (Ty.bytes.rep w4 M4 [.slice va4 d0.length vc4] d0) := Lib.hid hu4; have hc40 : w4.cell? ⟨b4, o4, none⟩ = some (.slice va4 d0.length vc4) := hc4; clear hc4; clear hr4 hS4 hu4)
          | (go_at_call 96; refine (rdRead_ (Ty.step _ HU4.out stp)).mono ?_; rintro e w5 ⟨rb, v5, rfl, hRd5, hr5, hS5, hrb5⟩; have HRd5 := Lib.hid hRd5; have Hr5 := Lib.hid hr5; have HS5 : Hid (Step w1 w5) := Lib.hid (HS4.out.trans (Step.trans stp hS5)); have hrb : Hid (w1.heap.size ≤ rb) := Lib.hid (by have h := HS4.out.size; (try simp only [World.size_alloc, World.size_drew, World.size_drewN] at hrb5); omega); clear hRd5 hr5 hS5 hrb5)
          | (go_at_call 97; refine (H2.out _ _ _ (CellsAt.step HRd6.out stp) (Ty.step _ Hr6.out stp)).mono ?_; rintro e w7 ⟨rfl, hRd7, hr7, hT7⟩; have HRd7 := Lib.hid hRd7; have Hr7 := Lib.hid hr7; have HS7 : Hid (Step w1 w7) := Lib.hid (Turn.step (HS6.out.trans stp) hT7 (fun c hc => by rw [hc]; exact hrb.out)); have k4 : ∀ j, w7.cell? ⟨kb, j, none⟩ = (flV DFile.none)[j]? := fun j => (CellsAt.step HB1.out HS7.out).cell j; have g4 : ∀ j, w7.frozen? ⟨kb, j, none⟩ = false := fun j => (CellsAt.step HB1.out HS7.out).frozen j; clear hRd7 hr7 hT7)
          | (go_at_call 97; refine (H1.out _ _ _ (CellsAt.step HRd5.out stp) (Ty.step _ Hr5.out stp)).mono ?_; rintro e w6 ⟨rfl, hRd6, hr6, hT6⟩; have HRd6 := Lib.hid hRd6; have Hr6 := Lib.hid hr6; have HS6 : Hid (Step w1 w6) := Lib.hid (Turn.step (HS5.out.trans stp) hT6 (fun c hc => by rw [hc]; exact hrb.out)); clear hRd6 hr6 hT6)
          | (go_at_call 98; refine (H3.out _ _ _ (CellsAt.step HRd7.out stp) (Ty.step _ Hr7.out stp)).mono ?_; rintro e w8 ⟨rfl, m8, rfl⟩))

        refine bodyPost_ret (results_cell_tmp3 Tryz.results76 _ _ kb 89 _ _ rfl (CellsAt.set (CellsAt.set (CellsAt.set (CellsAt.set (CellsAt.step HB1.out (HS7.out.drewN _)) 0 _) 1 _) 2 _) 3 _) Tryz.underlying89 rfl (by kernel_rfl)) rfl ?_
        refine ⟨?_, ?_⟩
        · rw [HFJ2.out]
          simp [DFile.none]
          refine ⟨by rw [IntKind.wrap_u64], ?_⟩
          by_cases he : en = X.length
          · subst he; simp
          · rw [decide_eq_false he]; exact beq_eq_false_iff_ne.2 (by omega)
        · have h := HS1.out.trans HS7.out
          have hkw := hkw.out
          (repeat (first | exact Step.refl _ | refine Step.alloc ?_ _ | refine Step.drew ?_ | refine Step.drewN ?_ _ | refine Step.setCell ?_ (by first | exact Nat.le_refl _ | assumption | omega | (simp; done) | (simp; omega)) _ | assumption | refine Step.trans ?_ (by assumption : Step _ _)))
      · have HFJ2 := Lib.hid (hFJ.trans (if_neg (fun h => hxn h.2)))
        clear hFJ
        have hxb : ((x1 : Int) == (n : Int)) = false := beq_eq_false_iff_ne.2 (by omega)
        go_wp2_with (first
          | (go_at_call 53; refine (HOA.out _ _ (Ty.step _ HRX.out stp)).mono ?_; rintro e w4 ⟨v4, M4, rfl, hr4, hS4⟩; obtain ⟨a4, c4, rfl, _⟩ := Ty.slice_val hr4; have HS4 : Hid (Step w1 w4) := Lib.hid (HS3.out.trans (Step.trans stp hS4)); obtain ⟨b4, o4, u4, rfl, hb4, _, hu4, hc4⟩ := Ty.slice_at1 rfl hr4 (by simp : 0 < (d0 :: ds).length); obtain ⟨va4, vc4, rfl, _, _, hvl4⟩ := Ty.slice_val hu4; have HU4 : Hid (Ty.bytes.rep w4 M4 [.slice va4 d0.length vc4] d0) := Lib.hid hu4; have hc40 : w4.cell? ⟨b4, o4, none⟩ = some (.slice va4 d0.length vc4) := hc4; clear hc4; clear hr4 hS4 hu4)
          | (go_at_call 96; refine (rdRead_ (Ty.step _ HU4.out stp)).mono ?_; rintro e w5 ⟨rb, v5, rfl, hRd5, hr5, hS5, hrb5⟩; have HRd5 := Lib.hid hRd5; have Hr5 := Lib.hid hr5; have HS5 : Hid (Step w1 w5) := Lib.hid (HS4.out.trans (Step.trans stp hS5)); have hrb : Hid (w1.heap.size ≤ rb) := Lib.hid (by have h := HS4.out.size; (try simp only [World.size_alloc, World.size_drew, World.size_drewN] at hrb5); omega); clear hRd5 hr5 hS5 hrb5)
          | (go_at_call 97; refine (H2.out _ _ _ (CellsAt.step HRd6.out stp) (Ty.step _ Hr6.out stp)).mono ?_; rintro e w7 ⟨rfl, hRd7, hr7, hT7⟩; have HRd7 := Lib.hid hRd7; have Hr7 := Lib.hid hr7; have HS7 : Hid (Step w1 w7) := Lib.hid (Turn.step (HS6.out.trans stp) hT7 (fun c hc => by rw [hc]; exact hrb.out)); have k4 : ∀ j, w7.cell? ⟨kb, j, none⟩ = (flV DFile.none)[j]? := fun j => (CellsAt.step HB1.out HS7.out).cell j; have g4 : ∀ j, w7.frozen? ⟨kb, j, none⟩ = false := fun j => (CellsAt.step HB1.out HS7.out).frozen j; clear hRd7 hr7 hT7)
          | (go_at_call 97; refine (H1.out _ _ _ (CellsAt.step HRd5.out stp) (Ty.step _ Hr5.out stp)).mono ?_; rintro e w6 ⟨rfl, hRd6, hr6, hT6⟩; have HRd6 := Lib.hid hRd6; have Hr6 := Lib.hid hr6; have HS6 : Hid (Step w1 w6) := Lib.hid (Turn.step (HS5.out.trans stp) hT6 (fun c hc => by rw [hc]; exact hrb.out)); clear hRd6 hr6 hT6)
          | (go_at_call 98; refine (H3.out _ _ _ (CellsAt.step HRd7.out stp) (Ty.step _ Hr7.out stp)).mono ?_; rintro e w8 ⟨rfl, m8, rfl⟩))

        refine bodyPost_ret (results_cell_tmp3 Tryz.results76 _ _ kb 89 (flV DFile.none) _ rfl ?_ Tryz.underlying89 rfl (by kernel_rfl)) rfl ?_
        · exact CellsAt.set (CellsAt.set (CellsAt.set (CellsAt.set (CellsAt.step HB1.out (HS7.out.drewN _)) 0 (.int .u64 0)) 1 (.int .u64 0)) 2 (.int .u64 0)) 3 (.int .i64 0)
        · refine ⟨by rw [HFJ2.out]; rfl, ?_⟩
          have h := HS1.out.trans HS7.out
          have hkw := hkw.out
          (repeat (first | exact Step.refl _ | refine Step.alloc ?_ _ | refine Step.drew ?_ | refine Step.drewN ?_ _ | refine Step.setCell ?_ (by first | exact Nat.le_refl _ | assumption | omega | (simp; done) | (simp; omega)) _ | assumption | refine Step.trans ?_ (by assumption : Step _ _)))

    · have hcb : (cl == 0) = false := beq_eq_false_iff_ne.2 hc0
      have HFJ2 := Lib.hid (hFJ.trans (if_neg (fun h => hc0 h.1)))
      clear hFJ
      go_wp2_with (first
        | (go_at_call 53; refine (HOA.out _ _ (Ty.step _ HRX.out stp)).mono ?_; rintro e w4 ⟨v4, M4, rfl, hr4, hS4⟩; obtain ⟨a4, c4, rfl, _⟩ := Ty.slice_val hr4; have HS4 : Hid (Step w1 w4) := Lib.hid (HS3.out.trans (Step.trans stp hS4)); obtain ⟨b4, o4, u4, rfl, hb4, _, hu4, hc4⟩ := Ty.slice_at1 rfl hr4 (by simp : 0 < (d0 :: ds).length); obtain ⟨va4, vc4, rfl, _, _, hvl4⟩ := Ty.slice_val hu4; have HU4 : Hid (Ty.bytes.rep w4 M4 [.slice va4 d0.length vc4] d0) := Lib.hid hu4; have hc40 : w4.cell? ⟨b4, o4, none⟩ = some (.slice va4 d0.length vc4) := hc4; clear hc4; clear hr4 hS4 hu4)
        | (go_at_call 96; refine (rdRead_ (Ty.step _ HU4.out stp)).mono ?_; rintro e w5 ⟨rb, v5, rfl, hRd5, hr5, hS5, hrb5⟩; have HRd5 := Lib.hid hRd5; have Hr5 := Lib.hid hr5; have HS5 : Hid (Step w1 w5) := Lib.hid (HS4.out.trans (Step.trans stp hS5)); have hrb : Hid (w1.heap.size ≤ rb) := Lib.hid (by have h := HS4.out.size; (try simp only [World.size_alloc, World.size_drew, World.size_drewN] at hrb5); omega); clear hRd5 hr5 hS5 hrb5)
        | (go_at_call 97; refine (H2.out _ _ _ (CellsAt.step HRd6.out stp) (Ty.step _ Hr6.out stp)).mono ?_; rintro e w7 ⟨rfl, hRd7, hr7, hT7⟩; have HRd7 := Lib.hid hRd7; have Hr7 := Lib.hid hr7; have HS7 : Hid (Step w1 w7) := Lib.hid (Turn.step (HS6.out.trans stp) hT7 (fun c hc => by rw [hc]; exact hrb.out)); have k4 : ∀ j, w7.cell? ⟨kb, j, none⟩ = (flV DFile.none)[j]? := fun j => (CellsAt.step HB1.out HS7.out).cell j; have g4 : ∀ j, w7.frozen? ⟨kb, j, none⟩ = false := fun j => (CellsAt.step HB1.out HS7.out).frozen j; clear hRd7 hr7 hT7)
        | (go_at_call 97; refine (H1.out _ _ _ (CellsAt.step HRd5.out stp) (Ty.step _ Hr5.out stp)).mono ?_; rintro e w6 ⟨rfl, hRd6, hr6, hT6⟩; have HRd6 := Lib.hid hRd6; have Hr6 := Lib.hid hr6; have HS6 : Hid (Step w1 w6) := Lib.hid (Turn.step (HS5.out.trans stp) hT6 (fun c hc => by rw [hc]; exact hrb.out)); clear hRd6 hr6 hT6)
        | (go_at_call 98; refine (H3.out _ _ _ (CellsAt.step HRd7.out stp) (Ty.step _ Hr7.out stp)).mono ?_; rintro e w8 ⟨rfl, m8, rfl⟩))

      refine bodyPost_ret (results_cell_tmp3 Tryz.results76 _ _ kb 89 (flV DFile.none) _ rfl ?_ Tryz.underlying89 rfl (by kernel_rfl)) rfl ?_
      · exact CellsAt.set (CellsAt.set (CellsAt.set (CellsAt.set (CellsAt.step HB1.out (HS7.out.drewN _)) 0 (.int .u64 0)) 1 (.int .u64 0)) 2 (.int .u64 0)) 3 (.int .i64 0)
      · refine ⟨by rw [HFJ2.out]; rfl, ?_⟩
        have h := HS1.out.trans HS7.out
        have hkw := hkw.out
        (repeat (first | exact Step.refl _ | refine Step.alloc ?_ _ | refine Step.drew ?_ | refine Step.drewN ?_ _ | refine Step.setCell ?_ (by first | exact Nat.le_refl _ | assumption | omega | (simp; done) | (simp; omega)) _ | assumption | refine Step.trans ?_ (by assumption : Step _ _)))

end Go.Proofs.YthebdlkmoailaaaGreatDoor

namespace Go.Proofs.YthebdlkmoailaaaGreatDoor
open Go.RowKit Go.Gr Go.Maps
open Go.Proofs (encStr)
set_option linter.unusedSimpArgs false
set_option linter.unusedVariables false
/-- What a drive holds are whole files that join on to one another. -/
structure GoodFs (pre : List UInt8) (seen : List DPair) (ns : List Nat) (fs : List DFile) : Prop where
  names : sortN ns = fs.map (·.serial)
  ok : ∀ f ∈ fs, f.Ok ∧ f.serial < 100 ∧ thereB seen (nameB pre f.serial) = true ∧ (dataB seen (nameB pre f.serial)).length ≤ 68719476736 ∧ fileJ f.serial (dataB seen (nameB pre f.serial)) = (f, true, true)
  chain : ∀ i (hi : i + 1 < fs.length), fs[i + 1].serial = fs[i].serial + 1 ∧ fs[i + 1].from_ = fs[i].to_
  few : fs.length < 1000000
theorem take_snoc {α : Type} {fs : List α} {k : Nat} (h : k < fs.length) : fs.take (k + 1) = fs.take k ++ [fs[k]] := List.take_succ_eq_append_getElem h
set_option maxRecDepth 100000 in
set_option maxHeartbeats 8000000 in
theorem jLoad_ {w : World} {M : Nat → Prop} {b l : Nat} {sf sn : Option Nat} {D : DDr} {pre : List UInt8} {most : Int} {closed : Bool} {ns : List Nat} {fs : List DFile} (h : DriveAt w M b sf sn D) (hM : M l) (hlb : l ≠ b) (hdead : D.dead = false) (hl : LgAt w l b pre most (.slice none 0 0) closed) (hp : pre.length ≤ 998) (hn : JNames pre D.seen ns) (hG : GoodFs pre D.seen ns fs) :
    Calls Tryz.prog 47 #[.pointer (some ⟨l, 0, none⟩)] w fun e w' => e = .returned (.int .i64 0) ∧ ∃ fv, LgAt w' l b pre most fv closed ∧ FRow w' fv fs ∧ (∀ g, blkOf fv = some g → w.heap.size ≤ g) ∧ Turn (fun c => c = l) w w' := by
  have HSER : Hid (∀ W : World, Step w W → Calls Tryz.prog 74 #[.pointer (some ⟨l, 0, none⟩)] W fun e w' => ∃ v, e = .returned v ∧ Gr.Own Ty.u64 32 w' (fun _ => False) W.heap.size v (fs.map (·.serial)) ∧ Step W w') := Lib.hid (fun W hW => by
    rw [← hG.names]
    exact jSerials_ (h.step hW) hdead (CellsAt.step hl hW) hp hn)
  have HD := Lib.hid h
  have HL0 := Lib.hid hl
  have HGG := Lib.hid hG
  have hllt := hl.lt
  have hfew := hG.few
  clear h hl hn hG
  go_enter Tryz.func47, Tryz.ntmps47
  go_wp2_with (go_at_call 74; refine (HSER.out _ stp).mono ?_; rintro e w1 ⟨v1, rfl, hA1, hS1⟩; obtain ⟨a1, n1, c1, rfl, HN1⟩ := hA1.valN; have HA1 := Lib.hid hA1; have HS1 : Hid (Step w w1) := Lib.hid (Step.trans stp hS1); clear hA1 hS1)
  have hn1 : n1 = fs.length := HN1.out.trans (by simp)
  subst hn1
  have HV1 : Hid ((Ty.slice Ty.u64).rep w1 (· < w.heap.size) [.slice a1 fs.length c1] (fs.map (·.serial))) := Lib.hid (Gr.Own.rep' (Gr.Own.flat Ty.flat_u64 HA1.out) (fun c hc hm => by have := (HA1.out.lt hc); omega))
  have hbl1 : Hid (∀ c, (Value.slice a1 fs.length c1).ownBlock = some c → w.heap.size ≤ c) := Lib.hid (fun c hc => by have := (HA1.out.lt hc); omega)
  have HD1 := Lib.hid (HD.out.step HS1.out)
  have HL1 := Lib.hid (CellsAt.step HL0.out HS1.out)
  have hl1 : l < w1.heap.size := Nat.lt_of_lt_of_le hllt HS1.out.size
  clear HSER HN1 HA1
  go_loopw [16] (fun iv w' => ∃ (k : Nat) (fv : Value), iv = .int .i64 (k : Int) ∧ k ≤ fs.length ∧ Hid (LgAt w' l b pre most fv closed) ∧ Hid (FRow w' fv (fs.take k)) ∧ Hid (∀ g, blkOf fv = some g → w1.heap.size ≤ g) ∧ Hid (Turn (fun c => c = l) w1 w')) (fun iv _ => fs.length - (Go.RowKit.intOf iv).toNat)
  case atStart => exact ⟨0, _, rfl, Nat.zero_le _, HL1, Lib.hid (FRow.nil _), Lib.hid (fun g h => by cases h), Lib.hid (Turn.refl _ _)⟩
  case round =>
    obtain ⟨k, fv, rfl, hk, HL, HF, HGB, HT⟩ := hrel
    obtain ⟨fa, fc, hfv⟩ := HF.out.val
    have hlen : (fs.take k).length = k := by rw [List.length_take]; omega
    rw [hlen] at hfv
    subst hfv
    by_cases hlt : k < fs.length
    · have hd : decide ((k : Int) < (fs.length : Int)) = true := decide_eq_true (by omega)
      have HDr : Hid (DriveAt wr M b sf sn D) := Lib.hid (HD1.out.beside HT.out (fun c hc hx => ⟨by rw [hx]; exact hM, by rw [hx]; exact HD1.out.notDM HL1.out hlb⟩) (fun _ h => h) (fun _ _ h => h) (fun c hc => Nat.lt_of_lt_of_le (HD1.out.old c hc) HT.out.size))
      have HVr := (Ty.slice Ty.u64).keep HV1.out (w' := wr) (M' := (· < w.heap.size)) (fun c hc hm => ⟨HT.out.block c hc (fun e => hm (by rw [e]; exact hllt)), hm⟩)
      obtain ⟨b4, o4, u4, rfl, hb4, _, hu4, hc4⟩ := Ty.slice_at1 rfl HVr (k := k) (by simpa using hlt)
      obtain ⟨hu5, _⟩ := hu4
      obtain ⟨F, hF⟩ : ∃ F, F = fs[k] := ⟨_, rfl⟩
      have hu6 : u4 = .int .u64 (F.serial : Int) := by rw [hF]; simpa using hu5
      subst hu6
      have hok := HGG.out.ok F (by rw [hF]; exact List.getElem_mem hlt)
      have HRJ : Hid (∀ W : World, Step wr W → Calls Tryz.prog 76 #[.pointer (some ⟨l, 0, none⟩), .int .u64 (F.serial : Int)] W fun e w' => e = .returned (.tuple #[.agg (flV F), .bool true, .bool true, .int .i64 0]) ∧ Step W w') := Lib.hid (fun W hW => by
        have h := jRead_ (HDr.out.step hW) hdead (CellsAt.step HL.out hW) hp hok.2.1 hok.2.2.1 hok.2.2.2.1
        rw [hok.2.2.2.2] at h
        exact h)
      have htk : Hid (fs.take (k + 1) = fs.take k ++ [F]) := Lib.hid (by rw [take_snoc hlt, hF])
      have hFok := hok.1
      have HFE := Lib.hid hF
      clear hok hu5 HVr hF hlen
      have hc40 : wr.cell? ⟨b4, o4 + k, none⟩ = some (.int .u64 (F.serial : Int)) := hc4
      clear hc4
      go_upto_region 6 with (go_at_call 76; refine (HRJ.out _ stp).mono ?_; rintro e w2 ⟨rfl, hS2⟩; have HS2 : Hid (Step wr w2) := Lib.hid (Step.trans stp hS2); clear hS2)
      refine wp_code (fun wx => CellsAt wx w2.heap.size (flV F) 89 ∧ Step wr wx) ⟨CellsAt.new rfl, HS2.out.trans stp⟩ ?_
      rintro w3 ⟨hb3, hS3⟩
      obtain ⟨fb, hfb⟩ : ∃ fb, fb = w2.heap.size := ⟨_, rfl⟩
      rw [← hfb] at hb3 ⊢
      have hfbr : wr.heap.size ≤ fb := by have := HS2.out.size; omega
      have hlr : l < wr.heap.size := HL.out.lt
      have k0 : w3.cell? ⟨fb, 0, none⟩ = some (.int .u64 (F.serial : Int)) := hb3.cell 0
      have k1 : w3.cell? ⟨fb, 1, none⟩ = some (.int .u64 (F.from_ : Int)) := hb3.cell 1
      have k2 : w3.cell? ⟨fb, 2, none⟩ = some (.int .u64 (F.to_ : Int)) := hb3.cell 2
      have k3 : w3.cell? ⟨fb, 3, none⟩ = some (.int .i64 F.size) := hb3.cell 3
      have hfb3 : fb < w3.heap.size := hb3.lt
      have HS3 := Lib.hid hS3
      have HB3 := Lib.hid hb3
      clear hfb hb3 hS3 HRJ HS2 hc40
      rcases k with _ | kk
      · have m3 : w3.cell? ⟨l, 3, none⟩ = some (.slice fa 0 fc) := (HS3.out.cell hlr 3).trans (HL.out.cell 3)
        go_upto_region 13 with fail
        have hfr3 : Hid (FRow w3 (.slice fa 0 fc) (fs.take 0)) := Lib.hid (HF.out.step HS3.out)
        have hlg3 : Hid (LgAt w3 l b pre most (.slice fa 0 fc) closed) := Lib.hid (CellsAt.step HL.out HS3.out)
        have hzr : w1.heap.size ≤ wr.heap.size := HT.out.size
        have hz3 : wr.heap.size ≤ w3.heap.size := HS3.out.size
        have hgl : ∀ c, blkOf (.slice fa 0 fc) = some c → c ≠ l ∧ c ≠ fb := fun c hc => ⟨by have := HGB.out c hc; omega, by have := HF.out.lt hc; omega⟩
        have hl3 : l < w3.heap.size := by omega
        have hfl : (fs.take 0).length < 1000000 := by rw [List.length_take]; omega
        refine wp_region_cut (S := (fun w' => w'.cell? ⟨l, 3, none⟩ = some (.slice fa 0 fc) ∧ w'.cell? ⟨fb, 0, none⟩ = some (.int .u64 (F.serial : Int)) ∧ w'.cell? ⟨fb, 1, none⟩ = some (.int .u64 (F.from_ : Int)) ∧ w'.cell? ⟨fb, 2, none⟩ = some (.int .u64 (F.to_ : Int)) ∧ w'.cell? ⟨fb, 3, none⟩ = some (.int .i64 F.size))) 10 (by kernel_rfl) ?_ (fun hHeld => ?_)
        · (go_keep)
        refine tkC 0 [8, 9, 10] ?_
        try simp only [Act.put, gtA, gtB, gtC, gtD, gtE, gtF]
        refine tkC 1 [2, 3, 4, 7, 8, 9, 10] ?_
        try simp only [Act.put, gtA, gtB, gtC, gtD, gtE, gtF]
        refine tkC 2 [3, 4, 7, 8, 9, 10] ?_
        try simp only [Act.put, gtA, gtB, gtC, gtD, gtE, gtF]
        refine tkC 3 [4, 7, 8, 9, 10] ?_
        try simp only [Act.put, gtA, gtB, gtC, gtD, gtE, gtF]
        refine tkC 4 [7, 8, 9, 10] ?_
        try simp only [Act.put, gtA, gtB, gtC, gtD, gtE, gtF]
        refine tkC 5 [6, 7, 8, 9, 10] ?_
        try simp only [Act.put, gtA, gtB, gtC, gtD, gtE, gtF]
        refine rdC (rs := [6]) (.cons rfl (by decide) (fun K hK => ?_) .nil)
        try simp only [gtA, gtB, gtC]
        go_simp
        refine hK.out _ _ ?_ (fun hHeld => ?_)
        · (go_keep)
        clear hK K
        try simp only [Act.put, gtA, gtB, gtC, gtD, gtE, gtF]
        refine rdC (rs := [7]) (.cons rfl (by decide) (fun K hK => ?_) .nil)
        try simp only [gtA, gtB, gtC]
        refine ite_then rfl ?_; refine wp_append_file (fs := fs.take 0) (f := F) (v := .slice fa 0 fc) (.tmp 80) (.tmp 82) rfl (FRow.step hfr3.out stp) hFok hfl ?_ rfl rfl ?_; (intro j u hj; exact (CellsAt.cell (CellsAt.step (CellsAt.new (w := w3) (cs := flV F) (e := 89) rfl) stp) j).trans (by rcases j with _ | _ | _ | _ | j <;> first | (simp at hj; done) | simpa using hj)); intro v11 w11 hFR11 hT11 hbk; rw [← htk.out] at hFR11; obtain ⟨a11, c11, hv11⟩ := hFR11.val; rw [List.length_take_of_le hlt] at hv11; subst hv11; have HT11 : Hid (Turn (fun c => blkOf (.slice fa 0 fc) = some c) w3 w11) := Lib.hid ((Turn.of stp).trans hT11); have HFR11 := Lib.hid hFR11; have HBK : Hid (∀ c, blkOf (.slice a11 (0 + 1) c11) = some c → w1.heap.size ≤ c) := Lib.hid (fun c hc => by rcases hbk with h | h; exact HGB.out c (h.symm.trans hc); (rw [hc] at h; injection h with h; simp only [World.size_alloc, World.size_drew] at h; omega)); have HLG11 := Lib.hid (hlg3.out.kept (HT11.out.block l hl3 (fun e => (hgl l e).1 rfl))); have s11 : ∀ j, w11.cell? ⟨l, j, none⟩ = w3.cell? ⟨l, j, none⟩ := fun j => HT11.out.cell hl3 (fun e => (hgl l e).1 rfl) j; have t11 : ∀ j, w11.cell? ⟨fb, j, none⟩ = w3.cell? ⟨fb, j, none⟩ := fun j => HT11.out.cell hfb3 (fun e => (hgl fb e).2 rfl) j; have f11 : ∀ j, w11.frozen? ⟨l, j, none⟩ = false := fun j => HLG11.out.frozen j; clear hFR11 hT11 hbk
        refine hK.out _ _ ?_ (fun hHeld => ?_)
        · (go_keep)
        clear hK K
        try simp only [Act.put, gtA, gtB, gtC, gtD, gtE, gtF]
        refine tkC 8 [9, 10] ?_
        try simp only [Act.put, gtA, gtB, gtC, gtD, gtE, gtF]
        refine tkC 9 [10] ?_
        try simp only [Act.put, gtA, gtB, gtC, gtD, gtE, gtF]
        refine rdC (rs := [10]) (.cut rfl (fun K hK => ?_))
        try simp only [gtA, gtB, gtC]
        go_simp
        refine hK.out _ _ trivial (fun hHeld => ?_)
        clear hK K
        try simp only [Act.put, gtA, gtB, gtC, gtD, gtE, gtF]
        have hTrue : True := trivial
        refine wpAnyH_done (by kernel_rfl) ?_ _
        refine wp_at (fun wx => LgAt wx l b pre most (.slice a11 (0 + 1) c11) closed ∧ FRow wx (.slice a11 (0 + 1) c11) (fs.take (0 + 1)) ∧ Turn (fun c => c = l) w1 wx) ⟨?_, ?_, ?_⟩ ?_
        · exact CellsAt.step (CellsAt.set HLG11.out 3 _) stp
        · exact FRow.step (HFR11.out.kept (w' := w11.setCell ⟨l, 3, none⟩ (.slice a11 (0 + 1) c11)) (fun c hc => heap_setCell_other _ _ _ _ (fun e => by have h1 := HBK.out c hc; have h2 : c = l := e; omega))) stp
        · have h1 : Turn (fun c => c = l ∨ w1.heap.size ≤ c) w1 w11 := ((HT.out.mono fun c _ h => .inl h).then HS3.out).trans (HT11.out.mono fun c _ h => .inr (HGB.out c h))
          exact (Turn.mono ((h1.setCell (p := ⟨l, 3, none⟩) (fun _ => .inl rfl) _)) (fun c hc h => h.elim id (fun h => by omega))).then stp
        clear m3 k0 k1 k2 k3 s11 t11 f11
        rintro w12 ⟨hlg12, hfr12, hT12⟩
        have HLG12 := Lib.hid hlg12
        have HFR12 := Lib.hid hfr12
        have HT12 := Lib.hid hT12
        clear hlg12 hfr12 hT12
        go_wp2
        go_roundw
        case rel => exact ⟨0 + 1, _, by go_num, hlt, HLG12, HFR12, HBK, HT12⟩
        case measure => simp [Go.RowKit.intOf]; omega

      · have m3 : w3.cell? ⟨l, 3, none⟩ = some (.slice fa (kk + 1) fc) := (HS3.out.cell hlr 3).trans (HL.out.cell 3)
        have hFR3 := HF.out.step HS3.out
        obtain ⟨g3, o3, rfl, hg3, q0, _, q2, _, _⟩ := hFR3.cells (k := kk) (by rw [List.length_take]; omega)
        rw [List.getElem_take] at q0 q2
        obtain ⟨P, hP⟩ : ∃ P, P = fs[kk] := ⟨_, rfl⟩
        rw [← hP] at q0 q2
        have hPok := (HGG.out.ok P (by rw [hP]; exact List.getElem_mem (by omega))).2.1
        have hch := HGG.out.chain kk hlt
        rw [← hP, ← HFE.out] at hch
        have hb1 : ((F.serial : Int) == (P.serial : Int) + 1) = true := beq_iff_eq.2 (by omega)
        have hb2 : ((F.from_ : Int) == (P.to_ : Int)) = true := beq_iff_eq.2 (by omega)
        have hwp : IntKind.u64.wrap ((P.serial : Int) + 1) = (P.serial : Int) + 1 := by rw [IntKind.wrap_u64]; omega
        have hwn : IntKind.i64.wrap (kk : Int) = (kk : Int) := by rw [IntKind.wrap_i64]; omega
        have hnlt : (kk : Int) < (kk : Int) + 1 := by omega
        have hge : decide ((0 : Int) ≤ (kk : Int)) = true := decide_eq_true (by omega)
        clear hP hch hFR3
        go_upto_region 10 with fail
        go_quiet (fail)
        go_upto_region 13 with fail
        refine wp_code (fun wx => Step wr wx ∧ CellsAt wx fb (flV F) 89) ⟨HS3.out.trans stp, CellsAt.step HB3.out stp⟩ ?_
        clear k0 k1 k2 k3 m3 q0 q2 hfb3 HS3 HB3 hg3 hb1 hb2 hwp hwn hnlt hge
        rintro w3 ⟨hS3, hb3⟩
        have k0 : w3.cell? ⟨fb, 0, none⟩ = some (.int .u64 (F.serial : Int)) := hb3.cell 0
        have k1 : w3.cell? ⟨fb, 1, none⟩ = some (.int .u64 (F.from_ : Int)) := hb3.cell 1
        have k2 : w3.cell? ⟨fb, 2, none⟩ = some (.int .u64 (F.to_ : Int)) := hb3.cell 2
        have k3 : w3.cell? ⟨fb, 3, none⟩ = some (.int .i64 F.size) := hb3.cell 3
        have hfb3 : fb < w3.heap.size := hb3.lt
        have m3 : w3.cell? ⟨l, 3, none⟩ = some (.slice (some ⟨g3, o3, none⟩) (kk + 1) fc) := (hS3.cell hlr 3).trans (HL.out.cell 3)
        have HS3 := Lib.hid hS3
        clear hS3 hb3
        have hfr3 : Hid (FRow w3 (.slice (some ⟨g3, o3, none⟩) (kk + 1) fc) (fs.take (kk + 1))) := Lib.hid (HF.out.step HS3.out)
        have hlg3 : Hid (LgAt w3 l b pre most (.slice (some ⟨g3, o3, none⟩) (kk + 1) fc) closed) := Lib.hid (CellsAt.step HL.out HS3.out)
        have hzr : w1.heap.size ≤ wr.heap.size := HT.out.size
        have hz3 : wr.heap.size ≤ w3.heap.size := HS3.out.size
        have hgl : ∀ c, blkOf (.slice (some ⟨g3, o3, none⟩) (kk + 1) fc) = some c → c ≠ l ∧ c ≠ fb := fun c hc => ⟨by have := HGB.out c hc; omega, by have := HF.out.lt hc; omega⟩
        have hl3 : l < w3.heap.size := by omega
        have hfl : (fs.take (kk + 1)).length < 1000000 := by rw [List.length_take]; omega
        refine wp_region_cut (S := (fun w' => w'.cell? ⟨l, 3, none⟩ = some (.slice (some ⟨g3, o3, none⟩) (kk + 1) fc) ∧ w'.cell? ⟨fb, 0, none⟩ = some (.int .u64 (F.serial : Int)) ∧ w'.cell? ⟨fb, 1, none⟩ = some (.int .u64 (F.from_ : Int)) ∧ w'.cell? ⟨fb, 2, none⟩ = some (.int .u64 (F.to_ : Int)) ∧ w'.cell? ⟨fb, 3, none⟩ = some (.int .i64 F.size))) 10 (by kernel_rfl) ?_ (fun hHeld => ?_)
        · (go_keep)
        refine tkC 0 [8, 9, 10] ?_
        try simp only [Act.put, gtA, gtB, gtC, gtD, gtE, gtF]
        refine tkC 1 [2, 3, 4, 7, 8, 9, 10] ?_
        try simp only [Act.put, gtA, gtB, gtC, gtD, gtE, gtF]
        refine tkC 2 [3, 4, 7, 8, 9, 10] ?_
        try simp only [Act.put, gtA, gtB, gtC, gtD, gtE, gtF]
        refine tkC 3 [4, 7, 8, 9, 10] ?_
        try simp only [Act.put, gtA, gtB, gtC, gtD, gtE, gtF]
        refine tkC 4 [7, 8, 9, 10] ?_
        try simp only [Act.put, gtA, gtB, gtC, gtD, gtE, gtF]
        refine tkC 5 [6, 7, 8, 9, 10] ?_
        try simp only [Act.put, gtA, gtB, gtC, gtD, gtE, gtF]
        refine rdC (rs := [6]) (.cons rfl (by decide) (fun K hK => ?_) .nil)
        try simp only [gtA, gtB, gtC]
        go_simp
        refine hK.out _ _ ?_ (fun hHeld => ?_)
        · (go_keep)
        clear hK K
        try simp only [Act.put, gtA, gtB, gtC, gtD, gtE, gtF]
        refine rdC (rs := [7]) (.cons rfl (by decide) (fun K hK => ?_) .nil)
        try simp only [gtA, gtB, gtC]
        refine ite_then rfl ?_; refine wp_append_file (fs := fs.take (kk + 1)) (f := F) (v := .slice (some ⟨g3, o3, none⟩) (kk + 1) fc) (.tmp 80) (.tmp 82) rfl (FRow.step hfr3.out stp) hFok hfl ?_ rfl rfl ?_; (intro j u hj; exact (CellsAt.cell (CellsAt.step (CellsAt.new (w := w3) (cs := flV F) (e := 89) rfl) stp) j).trans (by rcases j with _ | _ | _ | _ | j <;> first | (simp at hj; done) | simpa using hj)); intro v11 w11 hFR11 hT11 hbk; rw [← htk.out] at hFR11; obtain ⟨a11, c11, hv11⟩ := hFR11.val; rw [List.length_take_of_le hlt] at hv11; subst hv11; have HT11 : Hid (Turn (fun c => blkOf (.slice (some ⟨g3, o3, none⟩) (kk + 1) fc) = some c) w3 w11) := Lib.hid ((Turn.of stp).trans hT11); have HFR11 := Lib.hid hFR11; have HBK : Hid (∀ c, blkOf (.slice a11 ((kk + 1) + 1) c11) = some c → w1.heap.size ≤ c) := Lib.hid (fun c hc => by rcases hbk with h | h; exact HGB.out c (h.symm.trans hc); (rw [hc] at h; injection h with h; simp only [World.size_alloc, World.size_drew] at h; omega)); have HLG11 := Lib.hid (hlg3.out.kept (HT11.out.block l hl3 (fun e => (hgl l e).1 rfl))); have s11 : ∀ j, w11.cell? ⟨l, j, none⟩ = w3.cell? ⟨l, j, none⟩ := fun j => HT11.out.cell hl3 (fun e => (hgl l e).1 rfl) j; have t11 : ∀ j, w11.cell? ⟨fb, j, none⟩ = w3.cell? ⟨fb, j, none⟩ := fun j => HT11.out.cell hfb3 (fun e => (hgl fb e).2 rfl) j; have f11 : ∀ j, w11.frozen? ⟨l, j, none⟩ = false := fun j => HLG11.out.frozen j; clear hFR11 hT11 hbk
        refine hK.out _ _ ?_ (fun hHeld => ?_)
        · (go_keep)
        clear hK K
        try simp only [Act.put, gtA, gtB, gtC, gtD, gtE, gtF]
        refine tkC 8 [9, 10] ?_
        try simp only [Act.put, gtA, gtB, gtC, gtD, gtE, gtF]
        refine tkC 9 [10] ?_
        try simp only [Act.put, gtA, gtB, gtC, gtD, gtE, gtF]
        refine rdC (rs := [10]) (.cut rfl (fun K hK => ?_))
        try simp only [gtA, gtB, gtC]
        go_simp
        refine hK.out _ _ trivial (fun hHeld => ?_)
        clear hK K
        try simp only [Act.put, gtA, gtB, gtC, gtD, gtE, gtF]
        have hTrue : True := trivial
        refine wpAnyH_done (by kernel_rfl) ?_ _
        refine wp_at (fun wx => LgAt wx l b pre most (.slice a11 ((kk + 1) + 1) c11) closed ∧ FRow wx (.slice a11 ((kk + 1) + 1) c11) (fs.take ((kk + 1) + 1)) ∧ Turn (fun c => c = l) w1 wx) ⟨?_, ?_, ?_⟩ ?_
        · exact CellsAt.step (CellsAt.set HLG11.out 3 _) stp
        · exact FRow.step (HFR11.out.kept (w' := w11.setCell ⟨l, 3, none⟩ (.slice a11 (kk + 1 + 1) c11)) (fun c hc => heap_setCell_other _ _ _ _ (fun e => by have h1 := HBK.out c hc; have h2 : c = l := e; omega))) stp
        · have h1 : Turn (fun c => c = l ∨ w1.heap.size ≤ c) w1 w11 := ((HT.out.mono fun c _ h => .inl h).then HS3.out).trans (HT11.out.mono fun c _ h => .inr (HGB.out c h))
          exact (Turn.mono ((h1.setCell (p := ⟨l, 3, none⟩) (fun _ => .inl rfl) _)) (fun c hc h => h.elim id (fun h => by omega))).then stp
        clear m3 k0 k1 k2 k3 s11 t11 f11
        rintro w12 ⟨hlg12, hfr12, hT12⟩
        have HLG12 := Lib.hid hlg12
        have HFR12 := Lib.hid hfr12
        have HT12 := Lib.hid hT12
        clear hlg12 hfr12 hT12
        go_wp2
        go_roundw
        case rel => exact ⟨(kk + 1) + 1, _, by go_num, hlt, HLG12, HFR12, HBK, HT12⟩
        case measure => simp [Go.RowKit.intOf]; omega

    · have hd : decide ((k : Int) < (fs.length : Int)) = false := decide_eq_false (by omega)
      have hke : fs.take k = fs := List.take_of_length_le (by omega)
      rw [hke] at HF
      clear hke hlen
      go_wp2
      go_ret
      exact ⟨rfl, _, HL.out, HF.out, fun g hg => Nat.le_trans HS1.out.size (HGB.out g hg), (Turn.of HS1.out).trans HT.out⟩
end Go.Proofs.YthebdlkmoailaaaGreatDoor

namespace Go.Proofs.YthebdlkmoailaaaGreatDoor
open Go.RowKit Go.Gr Go.Maps
open Go.Proofs (encStr)
set_option linter.unusedSimpArgs false
set_option linter.unusedVariables false
set_option maxRecDepth 100000 in
set_option maxHeartbeats 8000000 in
theorem jOpen_ {w : World} {M : Nat → Prop} {b : Nat} {sf sn : Option Nat} {D : DDr} {pre : List UInt8} {most : Int} {ns : List Nat} {fs : List DFile} (h : DriveAt w M b sf sn D) (hdead : D.dead = false) (hm : I64 most) (hp : pre.length ≤ 998) (hn : JNames pre D.seen ns) (hG : GoodFs pre D.seen ns fs) :
    Calls Tryz.prog 12 #[.pointer (some ⟨b, 0, none⟩), encStr pre, .int .i64 most] w fun e w' => ∃ l g M', e = .returned (.tuple #[.pointer (some ⟨l, 0, none⟩), .int .i64 0]) ∧ Step w w' ∧ w.heap.size ≤ l ∧ DriveAt w' M' b sf sn D ∧ LogAt w' M' l b g pre ⟨max 1 most, fs, true⟩ ∧ (∀ c, M c → M' c) ∧ (∀ c, c < w.heap.size → M' c → M c) ∧ (∀ c, g = some c → w.heap.size ≤ c) := by
  obtain ⟨queue, hr, hq⟩ := h.row
  obtain ⟨qa, qc, rfl, _, _, hql⟩ := Ty.slice_val hq
  have HDEAD : Hid (∀ W : World, Step w W → Calls Tryz.prog 45 #[.pointer (some ⟨b, 0, none⟩)] W fun e w' => e = .returned (.bool false) ∧ w' = W) := Lib.hid (fun W hW => by
    have h2 := dDead_ (CellsAt.step hr hW)
    rw [hdead] at h2
    exact h2)
  have HQ : Hid (∀ W : World, Step w W → Calls Tryz.prog 46 #[.pointer (some ⟨b, 0, none⟩)] W fun e w' => e = .returned (.int .i64 (D.queue.length : Int)) ∧ w' = W) := Lib.hid (fun W hW => dQueue_ (CellsAt.step hr hW))
  obtain ⟨mm, hmm⟩ : ∃ mm, mm = max 1 most := ⟨_, rfl⟩
  have hmI : I64 mm := by rw [hmm]; unfold I64 at hm ⊢; omega
  have hbw : b < w.heap.size := h.lt (.inl rfl)
  have HDF : Hid (∀ (W : World) (l : Nat) (X : Nat → Prop), Step w W → (∀ c, X c → w.heap.size ≤ c ∧ c < W.heap.size) → DriveAt W (fun c => M c ∨ X c) b sf sn D) := Lib.hid (fun W l X hW hX => by
    refine h.keep (fun c hc => ⟨hW.heap (h.lt hc), .inl (h.own c hc)⟩) (fun c hc hn => ⟨hW.heap hc, fun hx => hx.elim hn (fun e => by have := (hX c e).1; omega)⟩) (fun c hc => ?_)
    rcases hc with hc | hc
    · exact Nat.lt_of_lt_of_le (h.old c hc) hW.size
    · exact (hX c hc).2)
  have HLOAD : Hid (∀ (W : World) (l : Nat), Step w W → w.heap.size ≤ l → LgAt W l b pre mm (.slice none 0 0) true → Calls Tryz.prog 47 #[.pointer (some ⟨l, 0, none⟩)] W fun e w' => e = .returned (.int .i64 0) ∧ ∃ fv, LgAt w' l b pre mm fv true ∧ FRow w' fv fs ∧ (∀ g, blkOf fv = some g → W.heap.size ≤ g) ∧ Turn (fun c => c = l) W w') := Lib.hid (fun W l hW hl hL =>
    jLoad_ (HDF.out W l (· = l) hW (fun c hc => by rw [hc]; exact ⟨hl, hL.lt⟩)) (.inr rfl) (by omega) hdead hL hp hn hG)
  have HOLD := Lib.hid h.old
  have HMM := Lib.hid hmm
  rw [← hmm]
  clear h hr hq hn hG
  generalize D.queue.length = N at *
  have hqq : decide ((N : Int) < (N : Int)) = false := decide_eq_false (by omega)
  clear hmm
  go_enter Tryz.func12, Tryz.ntmps12
  go_upto_region 5 with (first
    | (go_at_call 45; refine (HDEAD.out _ stp).mono ?_; rintro e w1 ⟨rfl, hw1⟩; subst w1)
    | (go_at_call 46; refine (HQ.out _ stp).mono ?_; rintro e w1 ⟨rfl, hw1⟩; subst w1))
  obtain ⟨l, hl⟩ : ∃ l, l = w.heap.size := ⟨_, rfl⟩
  rw [← hl]
  refine wp_code (fun wx => LgAt wx l b pre mm (.slice none 0 0) true ∧ Step w wx) ⟨by rw [HMM.out]; exact CellsAt.new hl, by (repeat (first | exact Step.refl _ | refine Step.alloc ?_ _ | refine Step.drew ?_ | refine Step.drewN ?_ _ | refine Step.setCell ?_ (by first | exact Nat.le_refl _ | assumption | omega | (simp; done) | (simp; omega)) _ | assumption | refine Step.trans ?_ (by assumption : Step _ _)))⟩ ?_
  have hwl := Lib.hid (Nat.le_of_eq hl.symm)
  rintro w1 ⟨hl1, hS1⟩
  have HL1 := Lib.hid hl1
  have HS1 := Lib.hid hS1
  clear hl hl1 hS1 HDEAD
  go_wp2_with (first
    | (go_at_call 47; refine (HLOAD.out _ _ (HS1.out.trans stp) hwl.out (CellsAt.step HL1.out stp)).mono ?_; rintro e w2 ⟨rfl, fv, hL2, hF2, hG2, hT2⟩; have HS2 : Hid (Step w w2) := Lib.hid (Turn.step (HS1.out.trans stp) hT2 (fun c hc => by rw [hc]; exact hwl.out)); have HG2 : Hid (∀ g, blkOf fv = some g → w1.heap.size ≤ g) := Lib.hid hG2; have HL2 := Lib.hid hL2; have HF2 := Lib.hid hF2; clear hL2 hF2 hG2 hT2)
    | (go_at_call 46; refine (HQ.out _ (HS2.out.trans stp)).mono ?_; rintro e w3 ⟨rfl, hw3⟩; subst w3))
  go_ret2
  have hl1 := HL1.out.lt
  have hw := hwl.out
  have hSF := HS2.out
  refine ⟨l, blkOf fv, fun c => M c ∨ (c = l ∨ blkOf fv = some c), rfl, by (repeat (first | exact Step.refl _ | refine Step.alloc ?_ _ | refine Step.drew ?_ | refine Step.drewN ?_ _ | refine Step.setCell ?_ (by first | exact Nat.le_refl _ | assumption | omega | (simp; done) | (simp; omega)) _ | assumption | refine Step.trans ?_ (by assumption : Step _ _))), hw, HDF.out _ l _ stp (fun c hc => ?_), ⟨⟨fv, CellsAt.step HL2.out stp, HF2.out.step stp, rfl⟩, .inr (.inl rfl), fun c hc => ⟨.inr (.inr hc), ?_, ?_⟩, by omega, hmI⟩, fun c hc => .inl hc, fun c hc hx => ?_, fun c hc => Nat.le_trans HS1.out.size (HG2.out c hc)⟩
  · rcases hc with rfl | hc
    · exact ⟨hw, HL2.out.lt⟩
    · exact ⟨Nat.le_trans HS1.out.size (HG2.out c hc), HF2.out.lt hc⟩
  · have := HG2.out c hc; omega
  · have := HG2.out c hc; omega
  · rcases hx with hx | rfl | hx
    · exact hx
    · omega
    · have := HG2.out c hx; have := HS1.out.size; omega
end Go.Proofs.YthebdlkmoailaaaGreatDoor

namespace Go.Proofs.YthebdlkmoailaaaGreatDoor
open Go.RowKit Go.Gr Go.Maps
open Go.Proofs (encStr)
set_option linter.unusedSimpArgs false
set_option linter.unusedVariables false
theorem slice_takeP {α : Type} {E : Ty α} {w : World} {M : Nat → Prop} {ys : List α} {a : Option Addr} {n c k : Nat} (h : (Ty.slice E).rep w M [.slice a n c] ys) (hk : k ≤ ys.length) :
    (Ty.slice E).rep w M [.slice a k c] (ys.take k) := by
  obtain ⟨a', c', hv, g1, g2, g3, hs⟩ := h
  simp only [List.cons.injEq, Value.slice.injEq, and_true] at hv
  obtain ⟨rfl, rfl, rfl⟩ := hv
  have hl : (ys.take k).length = k := by rw [List.length_take]; omega
  refine ⟨_, _, by rw [hl], by omega, g2, by omega, fun hn => ?_⟩
  obtain ⟨b, off, ha, hb, hM, hc⟩ := hs (by omega)
  refine ⟨b, off, ha, hb, hM, fun i hi => ?_⟩
  obtain ⟨es, he, hce⟩ := hc i (by omega)
  exact ⟨es, by rw [List.getElem_take]; exact he, hce⟩
/-- The records that a file holds. -/
def recsF (pre : List UInt8) (seen : List DPair) (f : DFile) : List (List UInt8) := (allO (dataB seen (nameB pre f.serial)) 0 []).1.tail
def partF (pre : List UInt8) (seen : List DPair) (a z : Nat) (f : DFile) : List (List UInt8) :=
  if f.to_ ≤ a ∨ z ≤ f.from_ then [] else ((recsF pre seen f).drop (max a f.from_ - f.from_)).take (min z f.to_ - f.from_ - (max a f.from_ - f.from_))
/-- The records from a to z. -/
def recsJ (pre : List UInt8) (seen : List DPair) (a z : Nat) (fs : List DFile) : List (List UInt8) := (fs.map (partF pre seen a z)).flatten
theorem recsJ_snoc (pre : List UInt8) (seen : List DPair) (a z : Nat) (fs : List DFile) (f : DFile) : recsJ pre seen a z (fs ++ [f]) = recsJ pre seen a z fs ++ partF pre seen a z f := by simp [recsJ]
theorem recsJ_take_le (pre : List UInt8) (seen : List DPair) (a z : Nat) (fs : List DFile) (k : Nat) : (recsJ pre seen a z (fs.take k)).length ≤ (recsJ pre seen a z fs).length := by
  have h : recsJ pre seen a z fs = recsJ pre seen a z (fs.take k) ++ recsJ pre seen a z (fs.drop k) := by
    unfold recsJ
    rw [← List.flatten_append, ← List.map_append, List.take_append_drop]
  rw [h, List.length_append]
  omega
/-- What is read of a row's part. -/
theorem slice_partP {α : Type} {E : Ty α} {w : World} {M : Nat → Prop} {ys : List α} {b o n c lo hi : Nat} (h1 : E.n = 1) (h : (Ty.slice E).rep w M [.slice (some ⟨b, o, none⟩) n c] ys) (h2 : lo ≤ hi) (h3 : hi ≤ ys.length) :
    (Ty.slice E).rep w M [.slice (if c = lo then some ⟨b, o, none⟩ else some ⟨b, o + lo, none⟩) (hi - lo) (c - lo)] ((ys.drop lo).take (hi - lo)) :=
  slice_takeP (slice_dropP h1 h (by omega)) (by rw [List.length_drop]; omega)
/-- What reading asks of a file. -/
structure FileOk (pre : List UInt8) (seen : List DPair) (f : DFile) : Prop where
  serial : f.serial < 100
  there : thereB seen (nameB pre f.serial) = true
  data : (dataB seen (nameB pre f.serial)).length ≤ 68719476736
  some : (allO (dataB seen (nameB pre f.serial)) 0 []).1 ≠ []
  span : f.from_ ≤ f.to_
  len : (recsF pre seen f).length = f.to_ - f.from_
set_option maxRecDepth 100000 in
set_option maxHeartbeats 8000000 in
theorem jRecords_ {w : World} {M : Nat → Prop} {b l a z : Nat} {sf sn g : Option Nat} {D : DDr} {pre : List UInt8} {L : DLog} (h : DriveAt w M b sf sn D) (hdead : D.dead = false) (hL : LogAt w M l b g pre L) (hp : pre.length ≤ 998) (haz : a ≤ z) (ha : firstL L.files ≤ a) (hz : z ≤ (lastF L.files).to_) (hz64 : z < 18446744073709551616)
    (hF : ∀ f ∈ L.files, FileOk pre D.seen f) (hlen : (recsJ pre D.seen a z L.files).length ≤ 1000000000) :
    Calls Tryz.prog 16 #[.pointer (some ⟨l, 0, none⟩), .int .u64 (a : Int), .int .u64 (z : Int)] w fun e w' => ∃ v ds, e = .returned (.tuple #[v, .int .i64 0]) ∧ Gr.Own (tGB 5) 40 w' (· < w.heap.size) w.heap.size v ds ∧ Step w w' ∧ Hid (ds.map Prod.fst = recsJ pre D.seen a z L.files) ∧ ApartD ds := by
  obtain ⟨fv, hlg, hfr, hgb⟩ := hL.row
  obtain ⟨most, fs, closed⟩ := L
  dsimp only at *
  obtain ⟨fa, fc, rfl⟩ := hfr.val
  have hfew : fs.length ≤ 1000000 := hfr.1
  have HFIRST : Hid (∀ W : World, Step w W → Calls Tryz.prog 39 #[.pointer (some ⟨l, 0, none⟩)] W fun e w' => e = .returned (.int .u64 (firstL fs : Int)) ∧ w' = W) := Lib.hid (fun W hW => jFirst_ (CellsAt.step hlg hW) (hfr.step hW))
  have HNEXT : Hid (∀ W : World, Step w W → Calls Tryz.prog 17 #[.pointer (some ⟨l, 0, none⟩)] W fun e w' => e = .returned (.int .u64 ((lastF fs).to_ : Int)) ∧ Step W w') := Lib.hid (fun W hW => jNext_ (CellsAt.step hlg hW) (hfr.step hW))
  have HD := Lib.hid h
  have HLG := Lib.hid hlg
  have HFR := Lib.hid hfr
  have HOK := Lib.hid hF
  have HLEN := Lib.hid hlen
  have hllt := hlg.lt
  have d1 : decide ((z : Int) < (a : Int)) = false := decide_eq_false (by omega)
  have d2 : decide ((a : Int) < (firstL fs : Int)) = false := decide_eq_false (by omega)
  have d3 : decide (((lastF fs).to_ : Int) < (z : Int)) = false := decide_eq_false (by omega)
  have l3 : w.cell? ⟨l, 3, none⟩ = some (.slice fa fs.length fc) := hlg.cell 3
  clear h hL hlg hfr hF hlen hgb
  generalize firstL fs = fi at *
  generalize (lastF fs).to_ = la at *
  go_enter Tryz.func16, Tryz.ntmps16
  go_wp2_with (first
    | (go_at_call 39; refine (HFIRST.out _ stp).mono ?_; rintro e w1 ⟨rfl, hw1⟩; subst w1)
    | (go_at_call 17; refine (HNEXT.out _ stp).mono ?_; rintro e w1 ⟨rfl, hS1⟩; have l31 : w1.cell? ⟨l, 3, none⟩ = some (.slice fa fs.length fc) := (Step.cell (Step.trans stp hS1) hllt 3).trans l3; have HS1 : Hid (Step w w1) := Lib.hid (Step.trans stp hS1); clear hS1))
  (try simp only [show decide (la < z) = false from decide_eq_false (by omega)])
  clear HFIRST HNEXT l3 l31 d1 d2 d3 ha hz
  go_loopw [8, 35] (fun ov iv w' => ∃ (k : Nat) (ds : List (List UInt8 × Option Nat)), iv = .int .i64 (k : Int) ∧ k ≤ fs.length ∧ Hid (Gr.Own (tGB 5) 40 w' (· < w.heap.size) w.heap.size ov ds) ∧ Hid (Step w w') ∧ Hid (ds.map Prod.fst = recsJ pre D.seen a z (fs.take k)) ∧ Hid (ApartD ds) ∧ Hid (∀ d ∈ ds, ∀ b, d.2 = some b → b < w'.heap.size)) (fun _ iv _ => fs.length - (Go.RowKit.intOf iv).toNat)
  case atStart => exact ⟨0, [], rfl, Nat.zero_le _, Lib.hid Gr.Own.nil, HS1, Lib.hid rfl, Lib.hid List.Pairwise.nil, Lib.hid (fun d hd => absurd hd (by simp))⟩
  case round =>
    obtain ⟨k, ds, rfl, hk, HA, HS, HP, HAp, HB⟩ := hrel
    by_cases hlt : k < fs.length
    · have hd : decide ((k : Int) < (fs.length : Int)) = true := decide_eq_true (by omega)
      obtain ⟨oa, on, oc, rfl, HON⟩ := HA.out.valN
      obtain ⟨g9, o9, rfl, hg9, q0, q1, q2, q3, _⟩ := (HFR.out.step HS.out).cells hlt
      obtain ⟨F, hF⟩ : ∃ F, F = fs[k] := ⟨_, rfl⟩
      rw [← hF] at q0 q1 q2 q3
      have HIN : Hid (F ∈ fs) := Lib.hid (by rw [hF]; exact List.getElem_mem hlt)
      have hok := HOK.out F HIN.out
      have htk : Hid (recsJ pre D.seen a z (fs.take (k + 1)) = recsJ pre D.seen a z (fs.take k) ++ partF pre D.seen a z F) := Lib.hid (by rw [take_snoc hlt, recsJ_snoc, hF])
      clear hF
      go_upto_region 7 with fail
      refine wp_code (fun wx => CellsAt wx wr.heap.size (flV F) 89 ∧ Step wr wx) ⟨CellsAt.new rfl, by (repeat (first | exact Step.refl _ | refine Step.alloc ?_ _ | refine Step.drew ?_ | refine Step.drewN ?_ _ | refine Step.setCell ?_ (by first | exact Nat.le_refl _ | assumption | omega | (simp; done) | (simp; omega)) _ | assumption | refine Step.trans ?_ (by assumption : Step _ _)))⟩ ?_
      rintro w3 ⟨hb3, hS3⟩
      obtain ⟨fb, hfb⟩ : ∃ fb, fb = wr.heap.size := ⟨_, rfl⟩
      rw [← hfb] at hb3 ⊢
      have k0 : w3.cell? ⟨fb, 0, none⟩ = some (.int .u64 (F.serial : Int)) := hb3.cell 0
      have k1 : w3.cell? ⟨fb, 1, none⟩ = some (.int .u64 (F.from_ : Int)) := hb3.cell 1
      have k2 : w3.cell? ⟨fb, 2, none⟩ = some (.int .u64 (F.to_ : Int)) := hb3.cell 2
      have k3 : w3.cell? ⟨fb, 3, none⟩ = some (.int .i64 F.size) := hb3.cell 3
      have hfb3 : fb < w3.heap.size := hb3.lt
      have HB3 := Lib.hid hb3
      have HS3 := Lib.hid (HS.out.trans hS3)
      have HR3 := Lib.hid hS3
      clear hfb hb3 hS3 q0 q1 q2 q3
      by_cases c1 : F.to_ ≤ a
      · have e1 : decide ((F.to_ : Int) ≤ (a : Int)) = true := decide_eq_true (by omega)
        have hpt : partF pre D.seen a z F = [] := if_pos (.inl c1)
        have HPT : Hid (ds.map Prod.fst = recsJ pre D.seen a z (fs.take (k + 1))) := Lib.hid (by rw [htk.out, hpt, List.append_nil]; exact HP.out)
        have HA3 := Lib.hid (Gr.Own.step HA.out HR3.out)
        have HBB : Hid (∀ d ∈ ds, ∀ b, d.2 = some b → b < w3.heap.size) := Lib.hid (fun d hd b hb => Nat.lt_of_lt_of_le (HB.out d hd b hb) HR3.out.size)
        clear hok hpt
        go_wp2
        go_roundw
        case rel => exact ⟨k + 1, ds, by go_num, by omega, HA3, HS3, HPT, HAp, HBB⟩
        case measure => simp [Go.RowKit.intOf]; omega

      · have e1 : decide ((F.to_ : Int) ≤ (a : Int)) = false := decide_eq_false (by omega)
        by_cases c2 : z ≤ F.from_
        · have e2 : decide ((z : Int) ≤ (F.from_ : Int)) = true := decide_eq_true (by omega)
          have hpt : partF pre D.seen a z F = [] := if_pos (.inr c2)
          have HPT : Hid (ds.map Prod.fst = recsJ pre D.seen a z (fs.take (k + 1))) := Lib.hid (by rw [htk.out, hpt, List.append_nil]; exact HP.out)
          have HA3 := Lib.hid (Gr.Own.step HA.out HR3.out)
          have HBB : Hid (∀ d ∈ ds, ∀ b, d.2 = some b → b < w3.heap.size) := Lib.hid (fun d hd b hb => Nat.lt_of_lt_of_le (HB.out d hd b hb) HR3.out.size)
          clear hok hpt
          go_wp2
          go_roundw
          case rel => exact ⟨k + 1, ds, by go_num, by omega, HA3, HS3, HPT, HAp, HBB⟩
          case measure => simp [Go.RowKit.intOf]; omega

        · have e2 : decide ((z : Int) ≤ (F.from_ : Int)) = false := decide_eq_false (by omega)
          have hpt : Hid (partF pre D.seen a z F = ((recsF pre D.seen F).drop (max a F.from_ - F.from_)).take (min z F.to_ - F.from_ - (max a F.from_ - F.from_))) := Lib.hid (if_neg (fun h => h.elim c1 c2))
          obtain ⟨ok1, ok2, ok3, ok4, ok5, ok6⟩ := hok
          obtain ⟨X, hX⟩ : ∃ X, X = dataB D.seen (nameB pre F.serial) := ⟨_, rfl⟩
          obtain ⟨nm, hnm⟩ : ∃ nm, nm = nameB pre F.serial := ⟨_, rfl⟩
          have HNM : Hid (∀ W : World, Step w W → Calls Tryz.prog 51 #[.pointer (some ⟨l, 0, none⟩), .int .u64 (F.serial : Int)] W fun e w' => e = .returned (encStr nm) ∧ ∃ m, w' = W.drewN m) := Lib.hid (fun W hW => by
            rw [hnm]
            exact jName_ (CellsAt.step HLG.out hW) ok1 (by omega))
          have HRD : Hid (∀ W : World, Step w W → Calls Tryz.prog 25 #[.pointer (some ⟨b, 0, none⟩), encStr nm] W fun e w' => ∃ v', e = .returned (.tuple #[v', .int .i64 0]) ∧ Gr.Own Ty.byte 5 w' (· < W.heap.size) W.heap.size v' X ∧ Step W w') := Lib.hid (fun W hW => by
            have hD := HD.out.step hW
            obtain ⟨queue, hr, _⟩ := hD.row
            have h2 := dRead_ (s := nm) hr hD.seen (by have := nameB_len pre F.serial; rw [hnm]; simp [maxLen]; omega)
            refine h2.mono ?_
            intro e w' hx
            unfold ReadRet at hx
            rw [hdead, hnm, ok2, ← hX] at hx
            simpa using hx)
          rw [← hX] at ok3 ok4
          have hrf : Hid (recsF pre D.seen F = (allO X 0 []).1.tail) := Lib.hid (by rw [hX]; rfl)
          rw [hrf.out] at ok6
          rw [hrf.out] at hpt
          clear hX hnm ok1 ok2 hrf
          have m0 : w3.cell? ⟨l, 0, none⟩ = some (.pointer (some ⟨b, 0, none⟩)) := (HS3.out.cell hllt 0).trans (HLG.out.cell 0)
          go_upto_region 8 with fail
          refine wp_region_cut (S := (fun w' => w'.cell? ⟨l, 0, none⟩ = some (.pointer (some ⟨b, 0, none⟩)) ∧ w'.cell? ⟨fb, 0, none⟩ = some (.int .u64 (F.serial : Int)))) 8 (by kernel_rfl) ?_ (fun hHeld => ?_)
          · (go_keep)
          refine tkC 0 [1, 2, 3, 8, 9, 10, 11, 12, 13] ?_
          try simp only [Act.put, gtA, gtB, gtC, gtD, gtE, gtF]
          refine tkC 1 [2, 3, 8, 9, 10, 11, 12, 13] ?_
          try simp only [Act.put, gtA, gtB, gtC, gtD, gtE, gtF]
          refine tkC 2 [3, 8, 9, 10, 11, 12, 13] ?_
          try simp only [Act.put, gtA, gtB, gtC, gtD, gtE, gtF]
          refine tkC 3 [8, 9, 10, 11, 12, 13] ?_
          try simp only [Act.put, gtA, gtB, gtC, gtD, gtE, gtF]
          refine tkC 4 [7, 8, 9, 10, 11, 12, 13] ?_
          try simp only [Act.put, gtA, gtB, gtC, gtD, gtE, gtF]
          refine tkC 5 [6, 7, 8, 9, 10, 11, 12, 13] ?_
          try simp only [Act.put, gtA, gtB, gtC, gtD, gtE, gtF]
          refine tkC 6 [7, 8, 9, 10, 11, 12, 13] ?_
          try simp only [Act.put, gtA, gtB, gtC, gtD, gtE, gtF]
          refine rdC (rs := [7]) (.cons rfl (by decide) (fun K hK => ?_) .nil)
          try simp only [gtA, gtB, gtC]
          go_simp
          (go_at_call 51; refine (HNM.out _ (HS3.out.trans stp)).mono ?_; rintro e w4 ⟨rfl, m4, rfl⟩)
          refine hK.out _ _ ?_ (fun hHeld => ?_)
          · (go_keep)
          clear hK K
          try simp only [Act.put, gtA, gtB, gtC, gtD, gtE, gtF]
          refine rdC (rs := [8]) (.cut rfl (fun K hK => ?_))
          try simp only [gtA, gtB, gtC]
          go_simp
          (go_at_call 25; refine (HRD.out _ (HS3.out.trans stp)).mono ?_; rintro e w5 ⟨v5, rfl, hA5, hS5⟩; obtain ⟨a5, n5, c5, rfl, HN5⟩ := hA5.valN; have HA5 := Lib.hid hA5; have HS5 : Hid (Step w3 w5) := Lib.hid (Step.trans stp hS5); clear hA5 hS5)
          refine hK.out _ _ trivial (fun hHeld => ?_)
          clear hK K
          try simp only [Act.put, gtA, gtB, gtC, gtD, gtE, gtF]
          have hTrue : True := trivial
          refine tkH 9 ?_
          try simp only [Act.put, gtA, gtB, gtC, gtD, gtE, gtF]
          refine tkH 10 ?_
          try simp only [Act.put, gtA, gtB, gtC, gtD, gtE, gtF]
          refine tkH 11 ?_
          try simp only [Act.put, gtA, gtB, gtC, gtD, gtE, gtF]
          refine tkH 12 ?_
          try simp only [Act.put, gtA, gtB, gtC, gtD, gtE, gtF]
          refine tkH 13 ?_
          try simp only [Act.put, gtA, gtB, gtC, gtD, gtE, gtF]
          refine wpAnyH_done (by kernel_rfl) ?_ _
          have HRX : Hid (Ty.bytes.rep w5 (fun _ => False) [.slice a5 n5 c5] X) := Lib.hid (Gr.Own.rep' (Gr.Own.flat Ty.flat_byte HA5.out) (fun _ _ h => h))
          clear HA5 HN5 HNM HRD m0 k0
          obtain ⟨R, hR⟩ : ∃ R, R = allO X 0 [] := ⟨_, rfl⟩
          have hpt2 := hpt.out
          rw [← hR] at ok4 ok6 hpt2
          have HOA : Hid (∀ (W : World) (v : Value), Ty.bytes.rep W (fun _ => False) [v] X → Calls Tryz.prog 53 #[v] W fun e w' => ∃ v' df, e = .returned (.tuple #[v', .int .i64 (R.2 : Int)]) ∧ Gr.Own (tGB 5) 40 w' (· < W.heap.size) W.heap.size v' df ∧ Step W w' ∧ Hid (df.map Prod.fst = R.1) ∧ ApartD df) := Lib.hid (fun W v hv => by
            rw [hR]
            exact pyOpenAll_ hv)
          obtain ⟨T, hT⟩ : ∃ T, T = F.to_ - F.from_ := ⟨_, rfl⟩
          have hRl : R.1.length = T + 1 := by
            rw [← hT, List.length_tail] at ok6
            have := List.length_pos_iff.2 ok4
            omega
          clear hpt hR ok4 ok6
          have HPT := Lib.hid hpt2
          have HRL := Lib.hid hRl
          have HTT := Lib.hid hT
          clear hpt2 hRl hT
          go_upto_region 12 with (go_at_call 53; refine (HOA.out _ _ (Ty.step _ HRX.out stp)).mono ?_; rintro e w6 ⟨v6, df, rfl, hA6, hS6, hdf, hap6⟩; obtain ⟨a6, n6, c6, rfl, HN6⟩ := hA6.valN; have HA6 := Lib.hid hA6; have HS6 : Hid (Step w5 w6) := Lib.hid (Step.trans stp hS6); clear hA6 hS6)
          have hdl : df.length = T + 1 := by
            have h := congrArg List.length hdf.out
            rw [List.length_map] at h
            rw [h]; exact HRL.out
          obtain rfl : n6 = T + 1 := HN6.out.trans hdl
          have hr6 := Gr.Own.rep' (M := (· < w5.heap.size)) HA6.out (fun c hc hm => by have := (HA6.out.lt hc).1; (try simp only [World.size_drew] at this); omega)
          obtain ⟨b6, o6, x6, rfl, hb6, j1, j2, j3⟩ := Ty.slice_at1 (E := tGB 5) rfl hr6 (k := 0) (by omega)
          have hc6 : T + 1 ≤ c6 ∧ c6 ≤ maxLen := by
            obtain ⟨_, _, hv6, hT6, hc6, _, _⟩ := hr6
            simp only [List.cons.injEq, Value.slice.injEq, and_true] at hv6
            obtain ⟨_, _, rfl⟩ := hv6
            exact ⟨by omega, hc6⟩
          have HR6 := Lib.hid hr6
          have HAP6 := Lib.hid hap6
          have HDL := Lib.hid hdl
          clear hr6 hap6 HN6 j2 j3 hdl
          have HDB : Hid (∀ y ∈ df, ∀ b, y.2 = some b → w5.heap.size ≤ b ∧ b < w6.heap.size) := Lib.hid (fun y hy c hc => by
            obtain ⟨i, hi, rfl⟩ := List.mem_iff_getElem.1 hy
            obtain ⟨_, _, u, _, _, _, hu, _⟩ := Ty.slice_at1 (E := tGB 5) rfl HR6.out (k := i) hi
            obtain ⟨v, _, hBR, ho, hM⟩ := hu
            exact ⟨Nat.le_of_not_lt (hM c hc), hBR.lt (ho.trans hc)⟩)
          go_upto_region 13 with fail
          obtain ⟨o7, ho7⟩ : ∃ o7 : Nat, (if c6 = 1 then some (⟨b6, o6, none⟩ : Addr) else some ⟨b6, o6 + 1, none⟩) = some ⟨b6, o7, none⟩ := by
            by_cases h : c6 = 1
            · exact ⟨o6, if_pos h⟩
            · exact ⟨o6 + 1, if_neg h⟩
          have hr7 := slice_dropP (E := tGB 5) (k := 1) rfl HR6.out (by rw [HDL.out]; omega)
          rw [ho7, Nat.add_sub_cancel] at hr7
          rw [ho7]
          obtain ⟨c7, hc7⟩ : ∃ c7, c7 = c6 - 1 := ⟨_, rfl⟩
          rw [← hc7] at hr7 ⊢
          obtain ⟨LO, hLO⟩ : ∃ LO, LO = max a F.from_ - F.from_ := ⟨_, rfl⟩
          obtain ⟨HI, hHI⟩ : ∃ HI, HI = min z F.to_ - F.from_ := ⟨_, rfl⟩
          have htt := HTT.out
          have hdl1 : (df.drop 1).length = T := by rw [List.length_drop, HDL.out]; omega
          have hlh : LO ≤ HI := by omega
          have hht : HI ≤ T := by omega
          have hr8 := slice_partP (E := tGB 5) rfl hr7 hlh (by rw [hdl1]; exact hht)
          have hpt3 : partF pre D.seen a z F = (R.1.tail.drop LO).take (HI - LO) := by rw [HPT.out, hLO, hHI]
          obtain ⟨YS, hYS⟩ : ∃ YS, YS = ((df.drop 1).drop LO).take (HI - LO) := ⟨_, rfl⟩
          rw [← hYS] at hr8
          have HYS : Hid (YS.map Prod.fst = partF pre D.seen a z F) := Lib.hid (by rw [hYS, hpt3, List.map_take, List.map_drop, List.map_drop, hdf.out, List.drop_one])
          have HSUB : Hid (YS.Sublist df) := Lib.hid (by rw [hYS]; exact (List.take_sublist _ _).trans ((List.drop_sublist _ _).trans (List.drop_sublist _ _)))
          have hF64 : F.to_ < 18446744073709551616 ∧ F.from_ < 18446744073709551616 := by
            have := HFR.out.2.1 F HIN.out
            exact ⟨this.to_, this.from_⟩
          have hw1 : IntKind.u64.wrap (max (a : Int) (F.from_ : Int) - (F.from_ : Int)) = (LO : Int) := by rw [IntKind.wrap_u64]; omega
          have hw2 : IntKind.u64.wrap (min (z : Int) (F.to_ : Int) - (F.from_ : Int)) = (HI : Int) := by rw [IntKind.wrap_u64]; omega
          have hcT : T ≤ c7 := by omega
          have hcM : c7 ≤ maxLen := by omega
          have hlim : Hid (ds.length + YS.length ≤ lim) := Lib.hid (by
            have h1 := congrArg List.length HP.out
            have h2 := congrArg List.length HYS.out
            have h3 := congrArg List.length htk.out
            have h4 := recsJ_take_le pre D.seen a z fs (k + 1)
            have h5 := HLEN.out
            rw [List.length_map] at h1 h2
            rw [List.length_append] at h3
            rw [lim_eq]
            omega)
          have HR8 := Lib.hid hr8
          have HS6w : Hid (Step w w6) := Lib.hid ((HS3.out.trans HS5.out).trans HS6.out)
          have HA60 : Hid (Gr.Own (tGB 5) 40 w6 (· < w.heap.size) w.heap.size (.slice oa on oc) ds) := Lib.hid (Gr.Own.step HA.out ((HR3.out.trans HS5.out).trans HS6.out))
          have n1 : w6.cell? ⟨fb, 1, none⟩ = some (.int .u64 (F.from_ : Int)) := (CellsAt.step HB3.out (HS5.out.trans HS6.out)).cell 1
          have n2 : w6.cell? ⟨fb, 2, none⟩ = some (.int .u64 (F.to_ : Int)) := (CellsAt.step HB3.out (HS5.out.trans HS6.out)).cell 2
          have hz5 : wr.heap.size ≤ w5.heap.size := (HR3.out.trans HS5.out).size
          have hzw : w.heap.size ≤ wr.heap.size := HS.out.size
          clear hr7 hr8 hpt3 hYS hLO hHI ho7 hc7 htt hdl1 hc6 hF64
          go_upto_region 14 with (at_builtin; refine wpList_append_acc (w0 := w) (E := tGB 5) (ys := YS) rfl (.tmp 73) (.tmp 93) rfl stRowsB (HS6w.out.trans stp) (Gr.Own.step HA60.out stp) (Src.later HR8.out stp (fun c _ hc => by rcases hc with hc | hc; (show c < w5.heap.size; omega); (have h := (HA.out.lt hc).2; show c < w5.heap.size; omega))) hlim.out (by rfl) (by rfl) ?_; intro v7 w7 hA7 hB7 hG7 hn7; have HA7 := Lib.hid hA7; have HS7 := Lib.hid hB7; have hz7 := hG7.size; clear hA7 hB7 hG7 hn7)
          all_goals
            have hz67 : w6.heap.size ≤ w7.heap.size := by (try simp only [World.size_drew] at hz7); omega
            have HPP : Hid ((ds ++ YS).map Prod.fst = recsJ pre D.seen a z (fs.take (k + 1))) := Lib.hid (by rw [List.map_append, HP.out, HYS.out, htk.out])
            have HAPN : Hid (ApartD (ds ++ YS)) := Lib.hid (by
              refine List.pairwise_append.2 ⟨HAp.out, HAP6.out.sublist HSUB.out, fun x hx y hy c hc hc' => ?_⟩
              have h1 := HB.out x hx c hc
              have h2 := (HDB.out y (HSUB.out.subset hy) c hc').1
              omega)
            have HBN : Hid (∀ d ∈ ds ++ YS, ∀ b, d.2 = some b → b < w7.heap.size) := Lib.hid (fun d hd c hc => by
              rcases List.mem_append.1 hd with hd | hd
              · have h1 := HB.out d hd c hc
                have h2 := HS6.out.size
                omega
              · have := (HDB.out d (HSUB.out.subset hd) c hc).2
                omega)
            have HLT : Hid (k + 1 ≤ fs.length) := Lib.hid hlt
            clear hz7 hz67 hlh hht hw1 hw2 hcT hcM n1 n2 k1 k2 k3
            obtain ⟨va7, vn7, vc7, hv7, _⟩ := HA7.out.valN
            subst hv7
            (try generalize (if c7 = LO then some (⟨b6, o7, none⟩ : Addr) else some ⟨b6, o7 + LO, none⟩) = PP)
            go_wp2
            go_roundw
            case rel => exact ⟨k + 1, ds ++ YS, by go_num, HLT.out, HA7, HS7, HPP, HAPN, HBN⟩
            case measure => (have h2 := HLT.out; simp [Go.RowKit.intOf]; omega)
    · have hd : decide ((k : Int) < (fs.length : Int)) = false := decide_eq_false (by omega)
      have hke : fs.take k = fs := List.take_of_length_le (by omega)
      rw [hke] at HP
      clear hke
      obtain ⟨oa, on, oc, rfl, HON⟩ := HA.out.valN
      go_wp2
      go_ret2
      exact ⟨_, ds, rfl, HA.out, HS.out, HP, HAp.out⟩
end Go.Proofs.YthebdlkmoailaaaGreatDoor
