/-
  Walk: the outcome of bytes (ToReply), at whatever bytes.
-/
import Derived.Test.YthflkfgiclcdiaaZR20
namespace Go.Proofs.Ythflkfgiclcdiaa
open Go.RowKit Go.Gr
set_option linter.unusedSimpArgs false
set_option linter.unusedVariables false
abbrev oC (er at_ : Int) (rv wv : Value) : Array Value := #[.int .i64 er, .int .i64 at_, rv, wv]
theorem stRowsR : SliceTy Try.prog 38 59 (Ty.slice tPair).n := .mk' (z := .slice none 0 0) (by_ := 24) Try.underlying38 (by kernel_rfl) rfl (by decide) (by omega)
theorem nil_repR {w : World} {M : Nat → Prop} : (Ty.slice (Ty.slice tPair)).rep w M [.slice none 0 0] [] := ⟨none, 0, rfl, Nat.le_refl _, by simp [maxLen], by simp [lim_eq], fun h => absurd h (by simp)⟩
theorem readRows_none {ps : List (List UInt8)} {k : Nat} (hk : k < ps.length) (h : readW ps[k] = none) : readRows ps = none := by
  induction ps generalizing k with
  | nil => simp at hk
  | cons p ps ih =>
    rcases k with _ | k
    · simp only [List.getElem_cons_zero] at h
      simp only [readRows, h]
    · simp only [List.getElem_cons_succ] at h
      have := ih (by simpa using hk) h
      simp only [readRows, this]
      cases readW p <;> rfl
/-- What ToReply answers. -/
def TrRet (w : World) (xs : List UInt8) (y : Ending) (w' : World) : Prop :=
  ∃ (rv : Value), y = .returned (.tuple #[.agg (oC (toReplyF xs).1.err (toReplyF xs).1.at_ rv (.slice none 0 0)), .int .i64 (toReplyF xs).2]) ∧ (Ty.slice (Ty.slice tPair)).rep w' (fun _ => False) [rv] (toReplyF xs).1.rows ∧ Step w w'
theorem list_drop2 {w : World} {M : Nat → Prop} {b off c : Nat} {p q : List UInt8} {ps : List (List UInt8)} {A : Option Addr} (h : (Ty.slice Ty.bytes).rep w M [.slice (some ⟨b, off, none⟩) (ps.length + 2) c] (p :: q :: ps)) (hA : A = if c = 2 then some ⟨b, off, none⟩ else some ⟨b, off + 2, none⟩) :
    (Ty.slice Ty.bytes).rep w M [.slice A ps.length (c - 2)] ps := by
  obtain ⟨a', c', hv, h3, h4, h5, hs⟩ := h
  simp only [List.cons.injEq, Value.slice.injEq, and_true] at hv
  obtain ⟨rfl, _, rfl⟩ := hv
  simp only [List.length_cons] at h3 h5 hs
  refine ⟨A, c - 2, rfl, by omega, by omega, by omega, fun hp => ?_⟩
  obtain ⟨b', off', ha, hb, hM, hc⟩ := hs (by omega)
  simp only [Option.some.injEq, Addr.mk.injEq, and_true] at ha
  obtain ⟨rfl, rfl⟩ := ha
  rw [if_neg (by omega)] at hA
  refine ⟨b, off + 2, hA, hb, hM, fun i hi => ?_⟩
  obtain ⟨es, he, hce⟩ := hc (i + 2) (by simpa using hi)
  refine ⟨es, by simpa using he, fun j u hu => ?_⟩
  have := hce j u hu
  simp only [show (Ty.bytes).n = 1 from rfl, Nat.mul_one] at this ⊢
  rw [show off + 2 + i + j = off + (i + 2) + j by omega]
  exact this
set_option maxRecDepth 100000 in
set_option maxHeartbeats 8000000 in
theorem ToReply_ {w : World} {M : Nat → Prop} {v : Value} {xs : List UInt8} (h : Ty.bytes.rep w M [v] xs) (hl : xs.length ≤ 4294967296) :
    Calls Try.prog 42 #[v] w (TrRet w xs) := by
  have H := Lib.hid h
  have hsm := splitF_small xs
  have HSM := Lib.hid (fun p hp => Nat.le_trans (hsm.2 p hp) hl : ∀ p ∈ (splitF xs).1, p.length ≤ 4294967296)
  have hsl0 : (splitF xs).1.length ≤ 4294967296 := Nat.le_trans hsm.1 hl
  have HSp := Lib.hid (fun (W : World) (M : Nat → Prop) (v : Value) (h : Ty.bytes.rep W M [v] xs) => pSplit_ h)
  obtain ⟨R, hR⟩ : ∃ R, R = toReplyF xs := ⟨_, rfl⟩
  have hTR : TrRet w xs = fun y w' => ∃ (rv : Value), y = .returned (.tuple #[.agg (oC R.1.err R.1.at_ rv (.slice none 0 0)), .int .i64 R.2]) ∧ (Ty.slice (Ty.slice tPair)).rep w' (fun _ => False) [rv] R.1.rows ∧ Step w w' := by rw [hR]; rfl
  rw [hTR]
  unfold toReplyF at hR
  clear h hsm hTR
  obtain ⟨SP, hSP⟩ : ∃ SP, SP = splitF xs := ⟨_, rfl⟩
  rw [← hSP] at hR HSp HSM hsl0
  clear hSP
  obtain ⟨sp, se⟩ := SP
  simp only at hR HSp HSM hsl0
  obtain ⟨rz, hrz'⟩ : ∃ r, w.heap.size = r := ⟨_, rfl⟩
  go_enter Try.func42, Try.ntmps42
  go_upto_region 2 with (go_at_call 80; refine (HSp.out _ _ _ (Ty.step _ H.out (by (repeat (first | exact Step.refl _ | refine Step.alloc ?_ _ | refine Step.drew ?_ | refine Step.drewN ?_ _ | refine Step.setCell ?_ (by first | exact Nat.le_refl _ | assumption | omega | (simp; done) | (simp; omega)) _ | assumption | refine Step.trans ?_ (by assumption : Step _ _)))))).mono ?_; rintro y w2 ⟨v2, rfl, hR2, hS2⟩; obtain ⟨va, vk, rfl, hvk, _, hsl⟩ := Ty.slice_val hR2; have HR2 := Lib.hid hR2; have hZ2 := Lib.hid (CellsAt.step (CellsAt.new rfl) hS2 : CellsAt w2 w.heap.size (oC 0 0 (.slice none 0 0) (.slice none 0 0)) 41); have hS2' := Lib.hid (Step.trans ((Step.refl w).alloc _) hS2); have hz2 := hS2.size; simp only [World.size_alloc] at hz2; clear hR2 hS2)
  rw [hrz'] at hz2 hZ2
  have hrz : w.heap.size ≤ rz := by omega
  have z0 : w2.cell? ⟨rz, 0, none⟩ = some (.int .i64 0) := hZ2.out.cell 0
  have z1 : w2.cell? ⟨rz, 1, none⟩ = some (.int .i64 0) := hZ2.out.cell 1
  have z2 : w2.cell? ⟨rz, 2, none⟩ = some (.slice none 0 0) := hZ2.out.cell 2
  have z3 : w2.cell? ⟨rz, 3, none⟩ = some (.slice none 0 0) := hZ2.out.cell 3
  have f0 : w2.frozen? ⟨rz, 0, none⟩ = false := hZ2.out.frozen 0
  have f1 : w2.frozen? ⟨rz, 1, none⟩ = false := hZ2.out.frozen 1
  have f2 : w2.frozen? ⟨rz, 2, none⟩ = false := hZ2.out.frozen 2
  have f3 : w2.frozen? ⟨rz, 3, none⟩ = false := hZ2.out.frozen 3
  clear HSp
  by_cases hse : se = 0
  · subst hse
    rw [if_neg (by simp)] at hR
    rcases sp with _ | ⟨c, _ | ⟨a, ps⟩⟩
    · have HRE := Lib.hid hR
      clear hR
      simp only [List.length_nil] at HR2 hvk hsl
      go_wp2
      refine bodyPost_ret (v := .tuple #[.agg (oC 0 0 (.slice none 0 0) (.slice none 0 0)), .int .i64 _]) (results_row_tmp Try.results42 _ _ rz 41 _ _ rfl (CellsAt.set (CellsAt.set (CellsAt.set (CellsAt.set hZ2.out 0 _) 1 _) 2 _) 3 _) Try.underlying41 rfl (by kernel_rfl)) rfl ?_
      rw [HRE.out]
      exact ⟨_, rfl, nil_repR, Step.setCell (Step.setCell (Step.setCell (Step.setCell hS2'.out (p := ⟨_, _, _⟩) hrz _) (p := ⟨_, _, _⟩) hrz _) (p := ⟨_, _, _⟩) hrz _) (p := ⟨_, _, _⟩) hrz _⟩
    · have HRE := Lib.hid hR
      clear hR
      simp only [List.length_cons, List.length_nil, Nat.zero_add] at HR2 hvk hsl
      go_wp2
      refine bodyPost_ret (v := .tuple #[.agg (oC 0 0 (.slice none 0 0) (.slice none 0 0)), .int .i64 _]) (results_row_tmp Try.results42 _ _ rz 41 _ _ rfl (CellsAt.set (CellsAt.set (CellsAt.set (CellsAt.set hZ2.out 0 _) 1 _) 2 _) 3 _) Try.underlying41 rfl (by kernel_rfl)) rfl ?_
      rw [HRE.out]
      exact ⟨_, rfl, nil_repR, Step.setCell (Step.setCell (Step.setCell (Step.setCell hS2'.out (p := ⟨_, _, _⟩) hrz _) (p := ⟨_, _, _⟩) hrz _) (p := ⟨_, _, _⟩) hrz _) (p := ⟨_, _, _⟩) hrz _⟩
    · simp only at hR
      simp only [List.length_cons] at HR2 hvk hsl hsl0
      obtain ⟨b1, o1, u0, rfl, hb1, _, hu0, q0⟩ := Ty.slice_at1 rfl HR2.out (k := 0) (by simp)
      obtain ⟨b2, o2, u1, hbb, _, _, hu1, q1⟩ := Ty.slice_at1 rfl HR2.out (k := 1) (by simp)
      obtain ⟨rfl, rfl⟩ : b1 = b2 ∧ o1 = o2 := by
        simp only [Option.some.injEq, Addr.mk.injEq, and_true] at hbb
        exact hbb
      simp only [List.getElem_cons_zero, List.getElem_cons_succ, Nat.add_zero] at hu0 hu1 q0
      obtain ⟨a3, c3, rfl, _⟩ := Ty.slice_val hu0
      obtain ⟨a4, c4, rfl, _⟩ := Ty.slice_val hu1
      have HNC := Lib.hid (bNumber_ hu0)
      have HNA := Lib.hid (bNumber_ hu1)
      have hc2 : (2 : Int) ≤ (vk : Int) := by omega
      have hlt2 : decide (((ps.length + 1 + 1 : Nat) : Int) < 2) = false := decide_eq_false (by omega)
      have hlt3 : ¬ (ps.length + 1 + 1 < 2) := by omega
      have hpos1 : decide ((0 : Int) < ((ps.length + 1 + 1 : Nat) : Int)) = true := decide_eq_true (by omega)
      have hpos2 : decide ((1 : Int) < ((ps.length + 1 + 1 : Nat) : Int)) = true := decide_eq_true (by omega)
      clear hu0 hu1 hbb
      generalize numberF c = NC at *
      generalize numberF a = NA at *
      obtain ⟨nc, ec⟩ := NC
      obtain ⟨na, ea⟩ := NA
      simp only at hR HNC HNA
      have HR := Lib.hid hR
      clear hR
      go_upto_region 7 with (go_at_call 81; refine HNC.out.mono ?_; rintro y w3 ⟨rfl, rfl⟩)
      go_upto_region 8 with (go_at_call 81; refine HNA.out.mono ?_; rintro y w3 ⟨rfl, rfl⟩)
      by_cases hbad : ec ≠ 0 ∨ ea ≠ 0
      · have HRE := Lib.hid (HR.out.trans (if_pos hbad))
        by_cases hec : ec = 0
        · subst hec
          have hea : ea ≠ 0 := hbad.resolve_left (by simp)
          have hea1 : (ea == 0) = false := beq_eq_false_iff_ne.2 hea
          have hea2 : (ea != 0) = true := by rw [bne, hea1]; rfl
          clear hbad hea
          go_wp2
          refine bodyPost_ret (v := .tuple #[.agg (oC 0 0 (.slice none 0 0) (.slice none 0 0)), .int .i64 _]) (results_row_tmp Try.results42 _ _ rz 41 _ _ rfl (CellsAt.set (CellsAt.set (CellsAt.set (CellsAt.set hZ2.out 0 _) 1 _) 2 _) 3 _) Try.underlying41 rfl (by kernel_rfl)) rfl ?_
          rw [HRE.out]
          exact ⟨_, rfl, nil_repR, Step.setCell (Step.setCell (Step.setCell (Step.setCell hS2'.out (p := ⟨_, _, _⟩) hrz _) (p := ⟨_, _, _⟩) hrz _) (p := ⟨_, _, _⟩) hrz _) (p := ⟨_, _, _⟩) hrz _⟩
        · have hec1 : (ec == 0) = false := beq_eq_false_iff_ne.2 hec
          have hec2 : (ec != 0) = true := by rw [bne, hec1]; rfl
          clear hbad hec
          go_wp2
          refine bodyPost_ret (v := .tuple #[.agg (oC 0 0 (.slice none 0 0) (.slice none 0 0)), .int .i64 _]) (results_row_tmp Try.results42 _ _ rz 41 _ _ rfl (CellsAt.set (CellsAt.set (CellsAt.set (CellsAt.set hZ2.out 0 _) 1 _) 2 _) 3 _) Try.underlying41 rfl (by kernel_rfl)) rfl ?_
          rw [HRE.out]
          exact ⟨_, rfl, nil_repR, Step.setCell (Step.setCell (Step.setCell (Step.setCell hS2'.out (p := ⟨_, _, _⟩) hrz _) (p := ⟨_, _, _⟩) hrz _) (p := ⟨_, _, _⟩) hrz _) (p := ⟨_, _, _⟩) hrz _⟩
      · have h0 : ec = 0 ∧ ea = 0 := ⟨by by_cases h : ec = 0; exact h; exact absurd (.inl h) hbad, by by_cases h : ea = 0; exact h; exact absurd (.inr h) hbad⟩
        obtain ⟨rfl, rfl⟩ := h0
        have HRM := Lib.hid (HR.out.trans (if_neg (by simp)))
        obtain ⟨A, hA⟩ : ∃ A, (if vk = 2 then some (⟨b1, o1, none⟩ : Addr) else some ⟨b1, o1 + 2, none⟩) = A := ⟨_, rfl⟩
        have HPS := Lib.hid (list_drop2 HR2.out hA.symm)
        clear hbad HNC HNA HR q0 q1
        go_upto_region 11 with fail
        obtain ⟨ob, hob⟩ : ∃ o, w3.heap.size = o := ⟨_, rfl⟩
        have hvk2 : (2 : Int) ≤ (ps.length : Int) + 1 + 1 := by omega
        refine wp_code (fun wl => CellsAt wl ob (oC nc na (.slice none 0 0) (.slice none 0 0)) 41 ∧ CellsAt wl rz (oC 0 0 (.slice none 0 0) (.slice none 0 0)) 41 ∧ (Ty.slice Ty.bytes).rep wl (ob ≤ ·) [.slice A ps.length (vk - 2)] ps ∧ Step w wl ∧ wl.heap.size = ob + 1) ?_ ?_
        · subst hob
          refine ⟨CellsAt.new rfl, CellsAt.step hZ2.out ((Step.refl _).alloc _), Ty.keep _ HPS.out (fun b h1 _ => ⟨((Step.refl w3).alloc _ : Step w3 _).heap h1, fun h => by omega⟩), hS2'.out.alloc _, ?_⟩
          show (w3.alloc _).heap.size = _
          rw [World.size_alloc]
        rintro wl ⟨hC, hZ, hPl, hSl, hzl⟩
        rw [hob]
        have hobz : rz < ob := by omega
        have HC := Lib.hid hC
        have HZ := Lib.hid hZ
        have HPl := Lib.hid hPl
        have HSl := Lib.hid hSl
        have hSls := hSl.size
        clear hC hZ hPl hSl z0 z1 z2 z3 f0 f1 f2 f3 hZ2 hS2' HPS HR2
        go_wp2
        go_loopw [57] (fun i w' => ∃ (k : Nat) (rows : List (List DPair)) (ra : Option Addr) (rn rc : Nat), i = .int .i64 k ∧ k ≤ ps.length ∧ Hid (readRows (ps.take k) = some rows) ∧ Hid (rows.length = k) ∧ Hid (CellsAt w' ob (oC nc na (.slice ra rn rc) (.slice none 0 0)) 41) ∧ Hid (Own (Ty.slice tPair) 59 w' (fun b => b = ob ∨ b = rz) (ob + 1) (.slice ra rn rc) rows) ∧ Hid (Turn (ob ≤ ·) wl w')) (fun i _ => ps.length - (Go.RowKit.intOf i).toNat)
        case atStart => exact ⟨0, [], none, 0, 0, rfl, Nat.zero_le _, Lib.hid rfl, Lib.hid rfl, HC, Lib.hid Own.nil, Lib.hid (Turn.refl _ _)⟩
        case round =>
          obtain ⟨k, rows, ra, rn, rc, rfl, hk, hrr, hrl, hCr, hAr, hTr⟩ := hrel
          obtain ⟨wo, hwo⟩ : ∃ x, x = wr := ⟨_, rfl⟩
          subst hwo
          have hzr := hTr.out.size
          have hPr := Lib.hid (Ty.kept _ HPl.out hTr.out.kept)
          have hZr := Lib.hid (HZ.out.kept (hTr.out.block rz (by omega) (by omega)))
          have hSr : Hid (Step w wo) := Lib.hid (Turn.step HSl.out hTr.out (fun b hb => by omega))
          have hSrs := hSr.out.size
          by_cases hlt : k < ps.length
          · have hd : decide ((k : Int) < (ps.length : Int)) = true := decide_eq_true (by omega)
            have hpl : (ps[k]).length ≤ 4294967296 := HSM.out _ (by simp [List.getElem_mem hlt])
            have hstp : Hid (readRows (ps.take (k + 1)) = match readW ps[k] with | none => none | some ws => some (rows ++ [ws.map pairOf])) := Lib.hid (by rw [List.take_succ_eq_append_getElem hlt, readRows_snoc, hrr.out]; rfl)
            have hnon : Hid (readW ps[k] = none → readRows ps = none) := Lib.hid (readRows_none hlt)
            have hB : Step wo wo := Step.refl wo
            obtain ⟨pb, po, pu, hAe, hpb, hpn, hpu, hpc⟩ := Ty.slice_at1 rfl hPr.out hlt
            subst hAe
            obtain ⟨pa0, pn0, rfl, _⟩ := Ty.slice_val hpu
            have HRD := Lib.hid (recRead_ hpu hpl)
            clear hpu
            generalize ps[k] = pk at *
            go_upto_region 15 with (go_at_call 82; refine HRD.out.mono ?_; rintro y w5 ⟨kind, x, vw, a5, n5, c5, cm, sa, sn, sc, ya, yn, yc, id, nm, e5, hyy, hS5, hn5, hy5, ws, hws5, hrep5⟩; obtain ⟨wa, wcc, rfl, _, _, hwl⟩ := Ty.slice_val hrep5; simp only [recC] at hyy; subst hyy; have HS5 := Lib.hid hS5; have HN5 := Lib.hid hn5; have HY5 := Lib.hid hy5; have HWS5 := Lib.hid hws5; have HREP5 := Lib.hid hrep5; have hz5 := hS5.size; clear hS5 hn5 hy5 hws5 hrep5)
            cases hq : readW pk with
            | none =>
              have hor := HN5.out hq
              have HRE := Lib.hid (HRM.out.trans (by rw [hnon.out hq] : _ = ((⟨0, 0, [], []⟩ : DOutcome), (3 : Int))))
              have hZ5 := Lib.hid (fun o => CellsAt.step (hZr.out.step HS5.out) ((Step.refl w5).alloc o))
              have hS6 := Lib.hid (fun o => (hSr.out.trans HS5.out).alloc o)
              by_cases he5 : e5 = 0
              · subst he5
                have hk4 : kind ≠ 4 := hor.resolve_left (by simp)
                have hk5 : (kind == 4) = false := beq_eq_false_iff_ne.2 hk4
                have hk6 : (kind != 4) = true := by rw [bne, hk5]; rfl
                clear hor hk4
                go_upto_region 16 with fail
                refine wp_code (fun w9 => CellsAt w9 rz (oC 0 0 (.slice none 0 0) (.slice none 0 0)) 41 ∧ Step w w9) ⟨hZ5.out _, hS6.out _⟩ ?_
                clear hZ5 hS6
                rintro w6 ⟨hZ6, hS6⟩
                have z0 : w6.cell? ⟨rz, 0, none⟩ = some (.int .i64 0) := hZ6.cell 0; have f0 : w6.frozen? ⟨rz, 0, none⟩ = false := hZ6.frozen 0; have z1 : w6.cell? ⟨rz, 1, none⟩ = some (.int .i64 0) := hZ6.cell 1; have f1 : w6.frozen? ⟨rz, 1, none⟩ = false := hZ6.frozen 1; have z2 : w6.cell? ⟨rz, 2, none⟩ = some (.slice none 0 0) := hZ6.cell 2; have f2 : w6.frozen? ⟨rz, 2, none⟩ = false := hZ6.frozen 2; have z3 : w6.cell? ⟨rz, 3, none⟩ = some (.slice none 0 0) := hZ6.cell 3; have f3 : w6.frozen? ⟨rz, 3, none⟩ = false := hZ6.frozen 3
                go_wp2
                refine bodyPost_ret (v := .tuple #[.agg (oC 0 0 (.slice none 0 0) (.slice none 0 0)), .int .i64 _]) (results_row_tmp Try.results42 _ _ rz 41 _ _ rfl (CellsAt.set (CellsAt.set (CellsAt.set (CellsAt.set hZ6 0 _) 1 _) 2 _) 3 _) Try.underlying41 rfl (by kernel_rfl)) rfl ?_
                rw [HRE.out]
                exact ⟨_, rfl, nil_repR, Step.setCell (Step.setCell (Step.setCell (Step.setCell hS6 (p := ⟨_, _, _⟩) hrz _) (p := ⟨_, _, _⟩) hrz _) (p := ⟨_, _, _⟩) hrz _) (p := ⟨_, _, _⟩) hrz _⟩
              · have he6 : (e5 == 0) = false := beq_eq_false_iff_ne.2 he5
                have he7 : (e5 != 0) = true := by rw [bne, he6]; rfl
                clear hor he5
                go_upto_region 16 with fail
                refine wp_code (fun w9 => CellsAt w9 rz (oC 0 0 (.slice none 0 0) (.slice none 0 0)) 41 ∧ Step w w9) ⟨hZ5.out _, hS6.out _⟩ ?_
                clear hZ5 hS6
                rintro w6 ⟨hZ6, hS6⟩
                have z0 : w6.cell? ⟨rz, 0, none⟩ = some (.int .i64 0) := hZ6.cell 0; have f0 : w6.frozen? ⟨rz, 0, none⟩ = false := hZ6.frozen 0; have z1 : w6.cell? ⟨rz, 1, none⟩ = some (.int .i64 0) := hZ6.cell 1; have f1 : w6.frozen? ⟨rz, 1, none⟩ = false := hZ6.frozen 1; have z2 : w6.cell? ⟨rz, 2, none⟩ = some (.slice none 0 0) := hZ6.cell 2; have f2 : w6.frozen? ⟨rz, 2, none⟩ = false := hZ6.frozen 2; have z3 : w6.cell? ⟨rz, 3, none⟩ = some (.slice none 0 0) := hZ6.cell 3; have f3 : w6.frozen? ⟨rz, 3, none⟩ = false := hZ6.frozen 3
                go_wp2
                refine bodyPost_ret (v := .tuple #[.agg (oC 0 0 (.slice none 0 0) (.slice none 0 0)), .int .i64 _]) (results_row_tmp Try.results42 _ _ rz 41 _ _ rfl (CellsAt.set (CellsAt.set (CellsAt.set (CellsAt.set hZ6 0 _) 1 _) 2 _) 3 _) Try.underlying41 rfl (by kernel_rfl)) rfl ?_
                rw [HRE.out]
                exact ⟨_, rfl, nil_repR, Step.setCell (Step.setCell (Step.setCell (Step.setCell hS6 (p := ⟨_, _, _⟩) hrz _) (p := ⟨_, _, _⟩) hrz _) (p := ⟨_, _, _⟩) hrz _) (p := ⟨_, _, _⟩) hrz _⟩
            | some ws' =>
              obtain ⟨rfl, rfl⟩ := HY5.out _ hq
              have hww : ws = ws' := by have := HWS5.out; rw [hq] at this; exact this.symm
              subst hww
              rw [hq] at hstp
              clear HN5 HY5 HWS5 hnon hd
              go_upto_region 17 with fail
              refine wp_code (fun w9 => w9.cell? ⟨w5.heap.size, 4, none⟩ = some (.slice wa ws.length wcc) ∧ Step w5 w9) ⟨(CellsAt.new rfl : CellsAt (w5.alloc (.cells (recC 4 x (.slice wa ws.length wcc) (.slice a5 n5 c5) cm (.slice sa sn sc) (.slice ya yn yc) id nm) 154)) w5.heap.size _ _).cell 4, (Step.refl w5).alloc _⟩ ?_
              rintro w6 ⟨h46, hS6⟩
              go_wp2
              go_loopw [14, 77] (fun l i w' => ∃ m : Nat, i = .int .i64 m ∧ m ≤ ws.length ∧ Own tPair 95 w' (· < wo.heap.size) w5.heap.size l ((ws.map pairOf).take m) ∧ Step w5 w') (fun _ i _ => ws.length - (Go.RowKit.intOf i).toNat)
              case atStart => exact ⟨0, rfl, by omega, Own.nil, hS6⟩
              case round =>
                obtain ⟨m, rfl, hm, hAl, hBl⟩ := hrel
                have HAl := Lib.hid hAl
                clear hAl
                have hszl := hBl.size
                by_cases hlm : m < ws.length
                · obtain ⟨ob, oo, oes, rfl, ohb, _, ou, ocu⟩ := Ty.slice_at HREP5.out hlm
                  obtain ⟨oc0, oc1, rfl, oh0, oh1⟩ := ou
                  have oq0 := (Step.cell (w' := wr) (by (repeat (first | exact Step.refl _ | refine Step.alloc ?_ _ | refine Step.drew ?_ | refine Step.drewN ?_ _ | refine Step.setCell ?_ (by first | exact Nat.le_refl _ | assumption | omega | (simp; done) | (simp; omega)) _ | assumption | refine Step.trans ?_ (by assumption : Step _ _)))) ohb _).trans (ocu 0 _ rfl)
                  have oq1 := (Step.cell (w' := wr) (by (repeat (first | exact Step.refl _ | refine Step.alloc ?_ _ | refine Step.drew ?_ | refine Step.drewN ?_ _ | refine Step.setCell ?_ (by first | exact Nat.le_refl _ | assumption | omega | (simp; done) | (simp; omega)) _ | assumption | refine Step.trans ?_ (by assumption : Step _ _)))) ohb _).trans (ocu 1 _ rfl)
                  have oq2 := (Step.cell (w' := wr) (by (repeat (first | exact Step.refl _ | refine Step.alloc ?_ _ | refine Step.drew ?_ | refine Step.drewN ?_ _ | refine Step.setCell ?_ (by first | exact Nat.le_refl _ | assumption | omega | (simp; done) | (simp; omega)) _ | assumption | refine Step.trans ?_ (by assumption : Step _ _)))) ohb _).trans (ocu 2 _ rfl)
                  simp only [show tWrite.n = 3 from rfl, Nat.add_zero] at oq0 oq1 oq2
                  obtain ⟨oa0, on0, rfl, _⟩ := Ty.slice_val oh0
                  obtain ⟨oa1, on1, rfl, _⟩ := Ty.slice_val oh1
                  have oH0 := Lib.hid oh0
                  have oH1 := Lib.hid oh1
                  clear ocu oh0 oh1
                  have htm : Hid ((ws.map pairOf).take (m + 1) = (ws.map pairOf).take m ++ [⟨ws[m].key, ws[m].value⟩]) := Lib.hid (by rw [List.take_succ_eq_append_getElem (by simpa using hlm)]; simp [pairOf])
                  have nE : Hid (∀ b, (b < wo.heap.size ∨ u14.ownBlock = some b) → b < w5.heap.size → b < wo.heap.size) := Lib.hid (fun b h hb => h.elim (fun h => h) (fun h => by have := (HAl.out.lt h).1; omega))
                  have hwl2 : ws.length ≤ 68719476736 := by rw [lim_eq] at hwl; exact hwl
                  go_wp2_with (at_builtin; refine wpList_append_acc (w0 := w5) (E := tPair) (M := (· < wo.heap.size)) (ys := [⟨ws[m].key, ws[m].value⟩]) rfl (.tmp 81) (.tmp 87) rfl stPairs (by (repeat (first | exact Step.refl _ | refine Step.alloc ?_ _ | refine Step.drew ?_ | refine Step.drewN ?_ _ | refine Step.setCell ?_ (by first | exact Nat.le_refl _ | assumption | omega | (simp; done) | (simp; omega)) _ | assumption | refine Step.trans ?_ (by assumption : Step _ _)))) (Own.step HAl.out (by (repeat (first | exact Step.refl _ | refine Step.alloc ?_ _ | refine Step.drew ?_ | refine Step.drewN ?_ _ | refine Step.setCell ?_ (by first | exact Nat.le_refl _ | assumption | omega | (simp; done) | (simp; omega)) _ | assumption | refine Step.trans ?_ (by assumption : Step _ _))))) (Src.oneAt (E := tPair) (y := ⟨ws[m].key, ws[m].value⟩) (by simp) ⟨_, _, rfl, Ty.step _ (Ty.less _ oH0.out (fun b hb hm => nE.out b hm hb)) (by (repeat (first | exact Step.refl _ | refine Step.alloc ?_ _ | refine Step.drew ?_ | refine Step.drewN ?_ _ | refine Step.setCell ?_ (by first | exact Nat.le_refl _ | assumption | omega | (simp; done) | (simp; omega)) _ | assumption | refine Step.trans ?_ (by assumption : Step _ _)))), Ty.step _ (Ty.less _ oH1.out (fun b hb hm => nE.out b hm hb)) (by (repeat (first | exact Step.refl _ | refine Step.alloc ?_ _ | refine Step.drew ?_ | refine Step.drewN ?_ _ | refine Step.setCell ?_ (by first | exact Nat.le_refl _ | assumption | omega | (simp; done) | (simp; omega)) _ | assumption | refine Step.trans ?_ (by assumption : Step _ _))))⟩) (by rw [List.length_take, lim_eq]; simp; omega) rfl rfl ?_; intro v7 w7 hA7 hB7 _ _; have HA7 := Lib.hid hA7; clear hA7)
                  go_roundw
                  case rel => exact ⟨m + 1, by go_num, by omega, by rw [htm.out]; exact HA7.out, hB7⟩
                  case measure => simp [Go.RowKit.intOf]; omega
                · obtain rfl : m = ws.length := by omega
                  have HA6 : Hid (Own tPair 95 wr (· < wo.heap.size) w5.heap.size u14 (ws.map pairOf)) := Lib.hid (by have := HAl.out; rwa [List.take_of_length_le (by simp)] at this)
                  obtain ⟨la, ln, lc, rfl, HLN⟩ := HA6.out.valN
                  have hS7 : Step wo wr := HS5.out.trans hBl
                  have hCw := Lib.hid (hCr.out.step hS7)
                  have hAw := Lib.hid (Own.step hAr.out hS7)
                  have hTw := Lib.hid (hTr.out.then hS7)
                  have hobl := hCr.out.lt
                  have k2 : wr.cell? ⟨ob, 2, none⟩ = some (.slice ra rn rc) := hCw.out.cell 2
                  have hrep : (Ty.slice tPair).rep wr (fun b => (b = ob ∨ b = rz) ∨ (Value.slice ra rn rc).ownBlock = some b) [.slice la ln lc] (ws.map pairOf) := Own.rep' (HA6.out.less (fun b hb hm => hm.elim (fun h => by omega) (fun h => (hAr.out.lt h).2))) (fun b hb hm => by have h1 := (HA6.out.lt hb).1; rcases hm with hm | hm; (omega); (have := (hAr.out.lt hm).2; omega))
                  have HREP := Lib.hid hrep
                  clear hrep
                  go_wp2_with (at_builtin; refine wpList_append_gen (E := Ty.slice tPair) (B := ob + 1) (M := fun b => b = ob ∨ b = rz) (xs := rows) (ys := [ws.map pairOf]) rfl (.tmp 91) (.tmp 93) rfl stRowsR (hAw.out.alloc _) (Src.oneAt (E := Ty.slice tPair) (by simp) HREP.out) (by rw [hrl.out, lim_eq]; simp; omega) (by simp; omega) rfl rfl ?_; intro v8 w8 hA8 hG8 hn8; have hC8 := (CellsAt.step hCw.out ((Step.refl _).alloc _)).kept (hG8.block ob (by simp; omega) (fun e => (by have := (hAr.out.lt e.symm).1; omega))); obtain ⟨a8, n8, c8, rfl, HN8⟩ := hA8.valN; have g28 : w8.cell? ⟨ob, 2, none⟩ = some (.slice ra rn rc) := hC8.cell 2; have f28 : w8.frozen? ⟨ob, 2, none⟩ = false := hC8.frozen 2; have HC8 := Lib.hid hC8; have HA8 := Lib.hid hA8; have HT8 := Lib.hid (Turn.grown (hTw.out.alloc _) hG8 (fun g hg hlt => by have := (hAr.out.lt hg).1; omega)); clear hA8 hG8 hn8 hC8)
                  go_roundw
                  case rel => exact ⟨k + 1, rows ++ [ws.map pairOf], a8, n8, c8, by go_num, by omega, Lib.hid (by rw [hstp.out]), Lib.hid (by rw [List.length_append, hrl.out]; rfl), Lib.hid (CellsAt.set HC8.out 2 _), Lib.hid (Own.set HA8.out (p := ⟨ob, 2, none⟩) (.inl rfl) (by show ob < ob + 1; omega) _), Lib.hid (HT8.out.setCell (p := ⟨ob, 2, none⟩) (fun _ => Nat.le_refl _) _)⟩
                  case measure => simp [Go.RowKit.intOf]; omega
          · obtain rfl : k = ps.length := by omega
            have hrr2 : readRows ps = some rows := by have := hrr.out; rwa [List.take_length] at this
            have HRE := Lib.hid (HRM.out.trans (by rw [hrr2] : _ = ((⟨nc, na, rows, []⟩ : DOutcome), (0 : Int))))
            have c0 : wo.cell? ⟨ob, 0, none⟩ = some (.int .i64 nc) := hCr.out.cell 0
            have c1 : wo.cell? ⟨ob, 1, none⟩ = some (.int .i64 na) := hCr.out.cell 1
            have c2 : wo.cell? ⟨ob, 2, none⟩ = some (.slice ra rn rc) := hCr.out.cell 2
            have c3 : wo.cell? ⟨ob, 3, none⟩ = some (.slice none 0 0) := hCr.out.cell 3
            have z0 : wo.cell? ⟨rz, 0, none⟩ = some (.int .i64 0) := hZr.out.cell 0; have f0 : wo.frozen? ⟨rz, 0, none⟩ = false := hZr.out.frozen 0; have z1 : wo.cell? ⟨rz, 1, none⟩ = some (.int .i64 0) := hZr.out.cell 1; have f1 : wo.frozen? ⟨rz, 1, none⟩ = false := hZr.out.frozen 1; have z2 : wo.cell? ⟨rz, 2, none⟩ = some (.slice none 0 0) := hZr.out.cell 2; have f2 : wo.frozen? ⟨rz, 2, none⟩ = false := hZr.out.frozen 2; have z3 : wo.cell? ⟨rz, 3, none⟩ = some (.slice none 0 0) := hZr.out.cell 3; have f3 : wo.frozen? ⟨rz, 3, none⟩ = false := hZr.out.frozen 3
            clear hrr2
            go_wp2
            refine bodyPost_ret (v := .tuple #[.agg (oC nc na (.slice ra rn rc) (.slice none 0 0)), .int .i64 _]) (results_row_tmp Try.results42 _ _ rz 41 _ _ rfl (CellsAt.set (CellsAt.set (CellsAt.set (CellsAt.set hZr.out 0 _) 1 _) 2 _) 3 _) Try.underlying41 rfl (by kernel_rfl)) rfl ?_
            rw [HRE.out]
            refine ⟨_, rfl, ?_, Step.setCell (Step.setCell (Step.setCell (Step.setCell hSr.out (p := ⟨_, _, _⟩) hrz _) (p := ⟨_, _, _⟩) hrz _) (p := ⟨_, _, _⟩) hrz _) (p := ⟨_, _, _⟩) hrz _⟩
            have h1 := Own.rep' (hAr.out.less (M' := fun b => b = rz) (fun b _ h => .inr h)) (fun b hb h => by have h' : b = rz := h; have := (hAr.out.lt hb).1; omega)
            have h2 := Ty.kept _ (Ty.kept _ (Ty.kept _ (Ty.kept _ h1 (Kept.setCell _ ⟨rz, 0, none⟩ (.int .i64 nc) rfl)) (Kept.setCell _ ⟨rz, 1, none⟩ (.int .i64 na) rfl)) (Kept.setCell _ ⟨rz, 2, none⟩ (.slice ra rn rc) rfl)) (Kept.setCell _ ⟨rz, 3, none⟩ (.slice none 0 0) rfl)
            exact Ty.less _ h2 (fun b _ h => h.elim)
  · rw [if_pos hse] at hR
    have HRE := Lib.hid hR
    have hse' : (se == 0) = false := beq_eq_false_iff_ne.2 hse
    have hse2 : (se != 0) = true := by rw [bne, hse']; rfl
    clear hR hse
    go_wp2
    refine bodyPost_ret (v := .tuple #[.agg (oC 0 0 (.slice none 0 0) (.slice none 0 0)), .int .i64 _]) (results_row_tmp Try.results42 _ _ rz 41 _ _ rfl (CellsAt.set (CellsAt.set (CellsAt.set (CellsAt.set hZ2.out 0 _) 1 _) 2 _) 3 _) Try.underlying41 rfl (by kernel_rfl)) rfl ?_
    rw [HRE.out]
    exact ⟨_, rfl, nil_repR, Step.setCell (Step.setCell (Step.setCell (Step.setCell hS2'.out (p := ⟨_, _, _⟩) hrz _) (p := ⟨_, _, _⟩) hrz _) (p := ⟨_, _, _⟩) hrz _) (p := ⟨_, _, _⟩) hrz _⟩
end Go.Proofs.Ythflkfgiclcdiaa
