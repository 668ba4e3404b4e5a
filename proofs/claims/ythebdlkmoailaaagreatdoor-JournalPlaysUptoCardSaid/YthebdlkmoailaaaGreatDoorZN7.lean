/-
  Walk: the reference's Append.
-/
import Derived.Test.YthebdlkmoailaaaGreatDoorZP17
import Derived.Test.YthebdlkmoailaaaGreatDoorZK13
set_option linter.unusedVariables false
set_option linter.unusedSimpArgs false
namespace Go.Proofs.YthebdlkmoailaaaGreatDoor
open Go.RowKit Go.Gr
set_option linter.unusedSimpArgs false
set_option linter.unusedVariables false
theorem sealB_cells (b : List UInt8) : (sealB b).length = 8 + cellsN b.length := by
  rw [sealB_len]
  unfold cellsN
  omega
theorem headB_cells (a b : Nat) : (headB a b).length = 8 + cellsN ((numB a).length + (numB b).length) := by
  unfold headB
  rw [sealB_cells]
  simp [numsB]
/-- The files, with a new one behind them where one is begun. -/
def rFiles (W : RLog) (most : Int) : List RFile := if rFresh W most then W.files ++ [⟨rNext W.files, [], ((headB (W.serial + 1) (rNext W.files)).length : Int)⟩] else W.files
def rSerial (W : RLog) (most : Int) : Nat := if rFresh W most then W.serial + 1 else W.serial
theorem rFiles_cases (W : RLog) (most : Int) : ∃ I F, rFiles W most = I ++ [F] := by
  unfold rFiles
  by_cases h : rFresh W most = true
  · rw [if_pos h]
    exact ⟨_, _, rfl⟩
  · rw [if_neg h]
    rcases filesR_cases W.files with h0 | h0
    · exact absurd (by unfold rFresh; rw [h0]; rfl) h
    · exact h0
theorem rAppend_eq {W : RLog} {most : Int} {recs : List (List UInt8)} {I : List RFile} {F : RFile} (hne : recs ≠ []) (h : rFiles W most = I ++ [F]) : rAppend W most recs = ⟨I ++ [rGrown F recs], rSerial W most, false⟩ ∧ rOpen W most = F := by
  unfold rFiles at h
  unfold rAppend rSerial rOpen
  rw [if_neg hne]
  by_cases hf : rFresh W most = true
  · rw [if_pos hf] at h ⊢
    obtain ⟨rfl, h2⟩ := List.append_inj' h rfl
    simp only [List.cons.injEq, and_true] at h2
    rw [if_pos hf, if_pos hf, h2]
    exact ⟨rfl, rfl⟩
  · rw [if_neg hf] at h ⊢
    rw [if_neg hf, if_neg hf, h, lastR_snoc]
    exact ⟨by simp, rfl⟩
/-- A row of files of which one is put anew. -/
theorem row_put3 {w : World} {M : Nat → Prop} {B g n c k : Nat} {e : TypeId} {xs : List RFile} {y : RFile} {u0 u1 u2 : Value} (h : Gr.Own tRFile e w M B (.slice (some ⟨g, 0, none⟩) n c) xs) (hk : k < xs.length) (hy : tRFile.rep w (fun b => M b ∨ b = g) [u0, u1, u2] y) (hM : ¬ M g) :
    (Ty.slice tRFile).rep (((w.setCell ⟨g, k * 3, none⟩ u0).setCell ⟨g, k * 3 + 1, none⟩ u1).setCell ⟨g, k * 3 + 2, none⟩ u2) M [.slice (some ⟨g, 0, none⟩) n c] (xs.set k y) := by
  obtain ⟨hl, cells, ho, hr⟩ := h
  rcases ho.2 with ⟨hv, h0⟩ | ⟨g', cap, cur, hv, hb, hg, hnc, hcm, hcs, htake⟩
  · omega
  · obtain ⟨rfl, rfl, rfl⟩ : g = g' ∧ n = xs.length ∧ c = cap := by simpa using hv
    have hg0 : CellsAt w g cur e := hg
    have hg' := ((hg0.set (k * 3) u0).set (k * 3 + 1) u1).set (k * 3 + 2) u2
    have hoth : ∀ b, b ≠ g → (((w.setCell ⟨g, k * 3, none⟩ u0).setCell ⟨g, k * 3 + 1, none⟩ u1).setCell ⟨g, k * 3 + 2, none⟩ u2).heap[b]? = w.heap[b]? := fun b hb => by
      rw [heap_setCell_other _ _ _ _ hb, heap_setCell_other _ _ _ _ hb, heap_setCell_other _ _ _ _ hb]
    have hn3 : tRFile.n = 3 := rfl
    have hkn : (k + 1) * 3 ≤ xs.length * 3 := Nat.mul_le_mul_right _ hk
    have hlc : cells.length = xs.length * 3 := ho.1
    have hcl : cells.length ≤ cur.size := by
      have := congrArg List.length htake
      rw [List.length_take] at this
      simp at this
      omega
    refine ⟨some ⟨g, 0, none⟩, c, by simp, by simpa using hnc, hcm, by simpa using hl, fun hn => ⟨g, 0, rfl, hg'.lt, hM, fun i hi => ?_⟩⟩
    simp only [List.length_set] at hi
    by_cases hik : i = k
    · subst hik
      refine ⟨[u0, u1, u2], ?_, fun j u hu => ?_⟩
      · rw [List.getElem_set_self]
        exact tRFile.keep hy (fun b hb hm => ⟨hoth b (fun e => hm (.inr e)), fun hx => hm (.inl hx)⟩)
      · rw [hn3, hg'.cell]
        rcases j with _ | _ | _ | j
        · obtain rfl : u0 = u := by simpa using hu
          simp [Array.getElem?_setIfInBounds]
          omega
        · obtain rfl : u1 = u := by simpa using hu
          simp [Array.getElem?_setIfInBounds]
          omega
        · obtain rfl : u2 = u := by simpa using hu
          simp [Array.getElem?_setIfInBounds]
          omega
        · simp at hu
    · have hin : (i + 1) * 3 ≤ xs.length * 3 := Nat.mul_le_mul_right _ hi
      refine ⟨grp cells tRFile.n i, ?_, fun j u hu => ?_⟩
      · rw [List.getElem_set_ne (fun e => hik e.symm)]
        exact tRFile.keep (hr i hi) (fun b hb hm => ⟨hoth b (fun e => hm (.inr (by rw [e]; rfl))), fun hx => hm (.inl hx)⟩)
      · obtain ⟨h1, h2⟩ := grp_getElem hu
        rw [hn3] at h1 h2 ⊢
        rw [hg'.cell]
        have h3 : cells[i * 3 + j]? = cur[i * 3 + j]? := by
          rw [← htake, List.getElem?_take, if_pos (show i * 3 + j < xs.length * tRFile.n from (show i * 3 + j < xs.length * 3 by omega))]
          simp
        rw [h3] at h1
        rw [Nat.zero_add, Array.getElem?_setIfInBounds_ne (by omega), Array.getElem?_setIfInBounds_ne (by omega), Array.getElem?_setIfInBounds_ne (by omega)]
        exact h1
theorem CellsAt.drew {w : World} {b : Nat} {cs : Array Value} {e : TypeId} (h : CellsAt w b cs e) : CellsAt w.drew b cs e := h
theorem open_kkA {P : Program} {c : Code} {Q : Exit → Act → World → Prop} {K : Act → World → Prop} {a : Act} {w : World} (h : ∀ a w, Code.wp P c Q a w → K a w) (h2 : Code.wp P c Q a w) : K a w := h a w h2
set_option maxRecDepth 100000 in
set_option maxHeartbeats 8000000 in
theorem rAppend_ {w : World} {M : Nat → Prop} {fv rv : Value} {files : List RFile} {recs : List (List UInt8)} {s : Nat} {cl : Bool} {most : Int} (h : (Ty.slice tRFile).rep w M [fv] files) (hr : (Ty.slice Ty.bytes).rep w M [rv] recs) (hM : ∀ c, M c → c < w.heap.size) (hm : I64 most)
    (hrec : ∀ r ∈ recs, r.length ≤ 1048576) (hn : recs.length ≤ 1000) (hfl : ∀ F ∈ files, F.recs.length ≤ 1000000) (hfew : files.length ≤ 1000000) (hs : s + 1 < 18446744073709551616) (hto : rNext files + recs.length < 18446744073709551616)
    (hsz : 0 ≤ (rOpen ⟨files, s, cl⟩ (max 1 most)).size ∧ (rOpen ⟨files, s, cl⟩ (max 1 most)).size + (sealsB recs).length ≤ 1152921504606846976) :
    Calls Tryz.prog 30 #[.agg #[fv, .int .u64 (s : Int), .bool cl], .int .i64 most, rv] w fun e w' => ∃ (fv' : Value) (s' : Nat) (cl' : Bool), e = .returned (.agg #[fv', .int .u64 (s' : Int), .bool cl']) ∧ (Ty.slice tRFile).rep w' M [fv'] (rAppend ⟨files, s, cl⟩ (max 1 most) recs).files ∧ s' = (rAppend ⟨files, s, cl⟩ (max 1 most) recs).serial ∧ cl' = (rAppend ⟨files, s, cl⟩ (max 1 most) recs).closed ∧ Step w w' := by
  obtain ⟨a, c, rfl, _, _, hl⟩ := Ty.slice_val h
  obtain ⟨ra, rc, rfl, _, _, hrl⟩ := Ty.slice_val hr
  by_cases h0 : recs = []
  · subst h0
    have hE : rAppend ⟨files, s, cl⟩ (max 1 most) [] = ⟨files, s, cl⟩ := if_pos rfl
    rw [hE]
    have H := Lib.hid h
    clear h hr hE
    go_enter Tryz.func30, Tryz.ntmps30
    go_wp2
    refine bodyPost_ret (results_cell_row Tryz.results30 _ _ (w.heap.size + 1) 55 #[.slice a files.length c, .int .u64 (s : Int), .bool cl] (0, 0) _ rfl (CellsAt.new (by simp)) Tryz.underlying55 rfl (by kernel_rfl)) rfl ?_
    exact ⟨_, _, _, rfl, Ty.step _ H.out stp, rfl, rfl, by (repeat (first | exact Step.refl _ | refine Step.alloc ?_ _ | refine Step.drew ?_ | refine Step.drewN ?_ _ | refine Step.setCell ?_ (by first | exact Nat.le_refl _ | assumption | omega | (simp; done) | (simp; omega)) _ | assumption | refine Step.trans ?_ (by assumption : Step _ _)))⟩
  · have hz : 0 < recs.length := List.length_pos_iff.2 h0
    obtain ⟨N, hN⟩ : ∃ N, N = files.length := ⟨_, rfl⟩
    rw [← hN] at h hl hfew ⊢
    have HN := Lib.hid hN
    clear hN
    have H : Hid ((Ty.slice tRFile).rep w (fun d => M d ∨ w.heap.size ≤ d) [.slice a N c] files) := Lib.hid (Ty.keep _ h (fun d hd hm => ⟨rfl, fun hx => hx.elim hm (fun hx => by omega)⟩))
    have HR : Hid ((Ty.slice Ty.bytes).rep w (fun d => M d ∨ w.heap.size ≤ d) [.slice ra recs.length rc] recs) := Lib.hid (Ty.keep _ hr (fun d hd hm => ⟨rfl, fun hx => hx.elim hm (fun hx => by omega)⟩))
    have HM := Lib.hid hM
    have HREC := Lib.hid hrec
    have HFL := Lib.hid hfl
    have HSZ := Lib.hid hsz
    have HTO := Lib.hid hto
    have HNE := Lib.hid h0
    rw [lim_eq] at hl
    clear h hr hM hrec hfl hsz hto h0
    obtain ⟨mo, hmo⟩ : ∃ mo, mo = max 1 most := ⟨_, rfl⟩
    rw [← hmo] at HSZ ⊢
    have hz2 : ((recs.length : Int) == 0) = false := by rw [beq_eq_false_iff_ne]; omega
    go_enter Tryz.func30, Tryz.ntmps30
    go_upto_if 21 with fail
    refine wp_codeN (fun wx => CellsAt wx w.heap.size #[.slice a N c, .int .u64 (s : Int), .bool cl] 55 ∧ CellsAt wx (w.heap.size + 1) #[.slice none 0 0, .int .u64 0, .bool false] 55 ∧ Step w wx) ⟨CellsAt.step (CellsAt.new rfl) ((Step.refl _).alloc _), CellsAt.new (by simp), by (repeat (first | exact Step.refl _ | refine Step.alloc ?_ _ | refine Step.drew ?_ | refine Step.drewN ?_ _ | refine Step.setCell ?_ (by first | exact Nat.le_refl _ | assumption | omega | (simp; done) | (simp; omega)) _ | assumption | refine Step.trans ?_ (by assumption : Step _ _)))⟩ ?_
    rintro w1 ⟨hlb1, hrb1, hS1⟩
    obtain ⟨lb, hlb⟩ : ∃ lb, lb = w.heap.size := ⟨_, rfl⟩
    obtain ⟨rb, hrb⟩ : ∃ rb, rb = w.heap.size + 1 := ⟨_, rfl⟩
    rw [← hlb] at hlb1
    rw [← hrb] at hrb1
    rw [← hrb, ← hlb]
    have hwl : w.heap.size ≤ lb := by omega
    have hlr : lb < rb := by omega
    have HLB := Lib.hid hlb1
    have HRB := Lib.hid hrb1
    have HS1 := Lib.hid hS1
    have hrl1 := hrb1.lt
    clear hlb1 hrb1 hS1 hlb hrb hz2
    go_cut [1] (fun s1 wx => s1 = .int .i64 mo ∧ wx = w1)
    case first =>
      by_cases hm1 : most < 1
      · have hd : decide (most < 1) = true := decide_eq_true hm1
        go_wp2
        go_meet
        case rel => exact ⟨by rw [hmo]; congr 1; omega, rfl⟩
      · have hd : decide (most < 1) = false := decide_eq_false hm1
        go_wp2
        go_meet
        case rel => exact ⟨by rw [hmo]; congr 1; omega, rfl⟩
    case rest =>
      obtain ⟨rfl, rfl⟩ := hcut
      refine open_kkA (by assumption) ?_
      obtain ⟨wd, hwd⟩ : ∃ wd, wd = wc := ⟨_, rfl⟩
      subst hwd
      have l0 : wd.cell? ⟨lb, 0, none⟩ = some (.slice a N c) := HLB.out.cell 0
      have l1 : wd.cell? ⟨lb, 1, none⟩ = some (.int .u64 (s : Int)) := HLB.out.cell 1
      have l2 : wd.cell? ⟨lb, 2, none⟩ = some (.bool cl) := HLB.out.cell 2
      have hll := HLB.out.lt
      clear hm hmo
      go_upto_region 8 with (first
        | (go_at_call 29; refine (rNext_ (Ty.step _ H.out (HS1.out.trans stp))).mono ?_; rintro e w2 ⟨rfl, hS2⟩; have HS2 : Hid (Step wd w2) := Lib.hid (Step.trans stp hS2); have m0 : ∀ o, (w2.alloc o).cell? ⟨lb, 0, none⟩ = some (.slice a N c) := fun o => ((HS2.out.alloc o).cell hll 0).trans l0; clear hS2)
        | (at_builtin; refine wpList_append_acc (w0 := wd) (E := tRFile) (xs := []) (ys := files) rfl (.tmp 24) (.tmp 26) rfl stRFile (HS2.out.trans stp) (M := fun d => M d ∨ w.heap.size ≤ d) (Own.base (Own.lit (w := w2) rfl (by rw [lim_eq]; simp) (Nat.le_refl _) rfl (by simp)) HS2.out.size) (Src.later H.out (HS1.out.trans (HS2.out.trans stp)) (fun d hd hm => (by rcases hm with hm | hm; exact hm; (have h9 := (HS1.out.trans HS2.out).size; simp [Value.ownBlock] at hm; omega)))) (by rw [lim_eq, ← HN.out]; simp only [List.length_nil]; omega) rfl rfl ?_; intro v3 w3 hA3 hB3 hG3 _; obtain ⟨a3, n3, c3, hv3, HN3⟩ := hA3.valN; subst hv3; have hn3 : N = n3 := (HN3.out.trans HN.out.symm).symm; subst hn3; have HA3 : Hid (Gr.Own tRFile 107 w3 (fun d => M d ∨ w.heap.size ≤ d) wd.heap.size (.slice a3 N c3) files) := Lib.hid hA3; have HS3 := Lib.hid hB3; clear hA3 hB3 hG3))
      obtain ⟨nx, hnx⟩ : ∃ nx, nx = rNext files := ⟨_, rfl⟩
      rw [← hnx] at HTO ⊢
      have HNX := Lib.hid hnx
      obtain ⟨s1, hs1, hs1l⟩ : ∃ s1 : Nat, (s : Int) + 1 = (s1 : Int) ∧ s1 = s + 1 := ⟨s + 1, by omega, rfl⟩
      have HS1L := Lib.hid hs1l
      have hs1b : s1 < 18446744073709551616 := by omega
      have hnxb : nx < 18446744073709551616 := by have := HTO.out; omega
      have HLB3 := Lib.hid (HLB.out.step HS3.out)
      have HRB3 := Lib.hid (HRB.out.step HS3.out)
      have HW3 : Hid (Step w w3) := Lib.hid (HS1.out.trans HS3.out)
      have l0 : w3.cell? ⟨lb, 0, none⟩ = some (.slice a N c) := HLB3.out.cell 0
      have l1 : w3.cell? ⟨lb, 1, none⟩ = some (.int .u64 (s : Int)) := HLB3.out.cell 1
      have l2 : w3.cell? ⟨lb, 2, none⟩ = some (.bool cl) := HLB3.out.cell 2
      have fl : ∀ j, w3.frozen? ⟨lb, j, none⟩ = false := HLB3.out.frozen
      clear hnx hs1l HLB HRB HS2 m0
      obtain ⟨fr, hfr⟩ : ∃ fr, fr = rFresh ⟨files, s, cl⟩ mo := ⟨_, rfl⟩
      have HFR := Lib.hid hfr
      clear hfr
      go_cut [53] (fun s53 wx => s53 = .bool fr ∧ wx = w3)
      case first =>
        rcases filesR_cases files with hf0 | ⟨I, F, hf0⟩
        · have hln : N = 0 := by rw [HN.out, hf0]; rfl
          have hfe : fr = true := by rw [HFR.out, hf0]; rfl
          clear hf0
          subst hln
          go_wp2
          go_meet
          case rel => exact ⟨by rw [hfe], rfl⟩
        · subst hf0
          obtain ⟨g9, es, hga, hg1, hg2, hes, hce, hfz⟩ := (OwnG.of HA3.out).at (k := I.length) (by simp)
          rw [List.getElem_append_right (Nat.le_refl _)] at hes
          simp only [Nat.sub_self, List.getElem_cons_zero] at hes
          obtain ⟨c1, rfl, _, hrr, _⟩ := hes
          obtain ⟨fa, fc, rfl, _⟩ := Ty.slice_val hrr
          subst hga
          have q1 : w3.cell? ⟨g9, I.length * 3 + 1, none⟩ = some (.slice fa F.recs.length fc) := hce 1 _ rfl
          have q2 : w3.cell? ⟨g9, I.length * 3 + 2, none⟩ = some (.int .i64 F.size) := hce 2 _ rfl
          have hF : Hid (fr = (decide (mo ≤ F.size) || (cl && decide (0 < F.recs.length)))) := Lib.hid (by rw [HFR.out]; unfold rFresh; rw [lastR_snoc]; simp)
          clear hce hrr hfz HNX
          have hNn : N = I.length + 1 := by rw [HN.out]; simp
          generalize I.length = n at *
          have hwm : (N : Int) - 1 = (n : Int) := by omega
          have hwn : IntKind.i64.wrap (n : Int) = (n : Int) := by rw [IntKind.wrap_i64]; omega
          have hnlt : (n : Int) < (N : Int) := by omega
          have hn0 : ((N : Int) == 0) = false := by rw [beq_eq_false_iff_ne]; omega
          have HNN := Lib.hid hNn
          clear hNn
          by_cases c1 : mo ≤ F.size
          · have d1 : decide (mo ≤ F.size) = true := decide_eq_true c1
            go_wp2
            go_meet
            case rel => exact ⟨by rw [hF.out, d1]; rfl, rfl⟩
          · have d1 : decide (mo ≤ F.size) = false := decide_eq_false c1
            cases cl with
            | false =>
              go_wp2
              go_meet
              case rel => exact ⟨by rw [hF.out, d1]; rfl, rfl⟩
            | true =>
              by_cases c2 : 0 < F.recs.length
              · have d2 : decide ((0 : Int) < (F.recs.length : Int)) = true := decide_eq_true (by omega)
                have d3 : decide (0 < F.recs.length) = true := decide_eq_true c2
                go_wp2
                go_meet
                case rel => exact ⟨by rw [hF.out, d1, d3]; rfl, rfl⟩
              · have d2 : decide ((0 : Int) < (F.recs.length : Int)) = false := decide_eq_false (by omega)
                have d3 : decide (0 < F.recs.length) = false := decide_eq_false c2
                go_wp2
                go_meet
                case rel => exact ⟨by rw [hF.out, d1, d3]; rfl, rfl⟩
      case rest =>
        obtain ⟨rfl, rfl⟩ := hcut
        refine open_kkA (by assumption) ?_
        go_upto_if 53 with fail
        go_cut [7, 9] (fun s7 s9 wx => ∃ I F, rFiles ⟨files, s, cl⟩ mo = I ++ [F] ∧ s7 = .int .i64 ((I.length : Int) + 1) ∧ Gr.Own tRFile 107 wx (fun d => M d ∨ w.heap.size ≤ d) wd.heap.size s9 (I ++ [F]) ∧ CellsAt wx lb #[.slice a N c, .int .u64 (rSerial ⟨files, s, cl⟩ mo : Int), .bool cl] 55 ∧ CellsAt wx rb #[.slice none 0 0, .int .u64 0, .bool false] 55 ∧ Step w wx)
        case first =>
          cases fr with
          | true =>
            go_upto_region 10 with fail
            refine wp_codeN (fun wx => CellsAt wx lb #[.slice a N c, .int .u64 (s1 : Int), .bool cl] 55 ∧ CellsAt wx rb #[.slice none 0 0, .int .u64 0, .bool false] 55 ∧ Step w wx ∧ wd.heap.size ≤ wx.heap.size ∧ Gr.Own tRFile 107 wx (fun d => M d ∨ w.heap.size ≤ d) wd.heap.size (.slice a3 N c3) files) ⟨HLB3.out.set 1 _, HRB3.out.other (p := ⟨lb, 1, none⟩) (by show rb ≠ lb; omega) _, HW3.out.setCell (p := ⟨lb, 1, none⟩) hwl _, (by simpa using HS3.out.size), HA3.out.kept (fun d hd hm => heap_setCell_other _ _ _ _ (fun e => hm (.inr (by rw [e]; exact hwl)))) (fun g hg => heap_setCell_other _ _ _ _ (fun e => by have := (HA3.out.lt hg).1; have e2 : g = lb := e; omega))⟩ ?_
            rintro w4 ⟨hlb4, hrb4, hS4, hz4, hA4⟩
            have HLB4 := Lib.hid hlb4
            have HRB4 := Lib.hid hrb4
            have HS4 := Lib.hid hS4
            have HA4 := Lib.hid hA4
            have l1 : w4.cell? ⟨lb, 1, none⟩ = some (.int .u64 (s1 : Int)) := HLB4.out.cell 1
            have hll4 := hlb4.lt
            have hrl4 := hrb4.lt
            obtain ⟨Z, hZ⟩ : ∃ Z, Z = (headB s1 nx).length := ⟨_, rfl⟩
            have HZ := Lib.hid hZ
            have hZb : Z ≤ 1000 := by
              rw [hZ]
              have := numsB2_len hs1b hnxb
              unfold headB
              rw [sealB_len]
              omega
            clear hlb4 hrb4 hS4 hA4 l0 l2 fl HLB3 HRB3 HW3 HA3 hZ
            go_upto_region 11 with (first
              | (go_at_call 62; have hx5 := HS5; clear hx5; refine (rNumber_ (n := nx) hnxb).mono ?_; rintro e w6 ⟨v6, d6, rfl, hA6, hd6, hS6⟩; obtain ⟨a6, n6, c6, rfl, HN6⟩ := hA6.valN; have HA6 := Lib.hid hA6; have HD6 := Lib.hid hd6; have HS6 : Hid (Step w4 w6) := Lib.hid (HS5.out.trans (Step.trans stp hS6)); have HT6 : Hid (Step w5 w6) := Lib.hid (Step.trans stp hS6); clear hA6 hd6 hS6)
              | (go_at_call 62; refine (rNumber_ (n := s1) hs1b).mono ?_; rintro e w5 ⟨v5, d5, rfl, hA5, hd5, hS5⟩; obtain ⟨a5, n5, c5, rfl, HN5⟩ := hA5.valN; have HA5 := Lib.hid hA5; have HD5 := Lib.hid hd5; have HS5 : Hid (Step w4 w5) := Lib.hid (Step.trans stp hS5); clear hA5 hd5 hS5)
              | (at_builtin; refine wpList_append_acc (w0 := w4) (ys := d6) rfl (.tmp 60) (.tmp 62) rfl stBytes (HS6.out.trans stp) (Own.step HA5.out (HT6.out.trans stp)) (Src.flat Ty.flat_byte (Own.rep' (HA6.out.step stp) (fun d hd hm => by have h1 := (HA6.out.lt hd).1; have h2 := HS5.out.size; omega))) (by have h1 := HD5.out; have h2 := HD6.out; have h3 := numB_len hs1b; have h4 := numB_len hnxb; rw [lim_eq]; omega) rfl rfl ?_; intro v7 w7 hA7 hB7 hG7 hn7; obtain ⟨a7, n7, c7, rfl, HN7⟩ := hA7.valN; have HA7 := Lib.hid hA7; have HS7 := Lib.hid hB7; clear hA7 hB7 hG7 hn7))
            go_upto_region 12 with (first
              | (go_at_call 63; refine (rSealed_ (Own.rep' (M := fun _ => False) (HA7.out.less (fun _ _ h => h.elim)) (fun _ _ h => h)) (by have h1 := HD5.out; have h2 := HD6.out; have h3 := numB_len hs1b; have h4 := numB_len hnxb; rw [List.length_append]; omega)).mono ?_; rintro e w8 ⟨rfl, hS8⟩; rw [show 8 + cellsN (d5 ++ d6).length = Z by rw [HZ.out, headB_cells, List.length_append, HD5.out, HD6.out]]; have HS8 : Hid (Step w4 w8) := Lib.hid (HS7.out.trans (Step.trans stp hS8)); clear hS8)
              | (at_builtin; refine wpList_append_gen (E := tRFile) (B := wd.heap.size) (M := fun d => M d ∨ w.heap.size ≤ d) (xs := files) (ys := [⟨nx, [], (Z : Int)⟩]) rfl (.tmp 64) (.tmp 69) rfl stRFile (Own.step HA4.out (HS8.out.trans stp)) (Src.oneAt (E := tRFile) (y := ⟨nx, [], (Z : Int)⟩) (by first | rfl | simp) ⟨_, rfl, by show nx + 0 < _; omega, ⟨none, 0, rfl, Nat.le_refl _, by simp [maxLen], by simp, fun h => absurd h (by simp)⟩, by show I64 (Z : Int); unfold I64; omega⟩) (by rw [lim_eq, ← HN.out]; simp only [List.length_cons, List.length_nil]; omega) (Nat.le_trans hz4 (HS8.out.trans stp).size) rfl rfl ?_; intro v9 w9 hA9 hG9 hn9; have HLB9 := Lib.hid (CellsAt.kept (CellsAt.step HLB4.out (HS8.out.trans stp)) (hG9.block lb (by have := HS8.out.size; (first | omega | (simp; omega))) (fun e => by have := (HA4.out.lt e.symm).1; omega))); have HRB9 := Lib.hid (CellsAt.kept (CellsAt.step HRB4.out (HS8.out.trans stp)) (hG9.block rb (by have := HS8.out.size; (first | omega | (simp; omega))) (fun e => by have := (HA4.out.lt e.symm).1; omega))); have HS9 : Hid (Step w w9) := Lib.hid (Own.grown (w0 := w) (Own.base (Own.step HA4.out (HS8.out.trans stp)) HS1.out.size) (HS4.out.trans (HS8.out.trans stp)) hG9); have HA9 := Lib.hid hA9; clear hA9 hG9 hn9))
            go_wp2
            go_meet
            case rel =>
              have h1 : rFiles ⟨files, s, cl⟩ mo = files ++ [⟨nx, [], (Z : Int)⟩] := by
                unfold rFiles
                rw [if_pos HFR.out.symm, HZ.out, HNX.out, HS1L.out]
              have h2 : rSerial ⟨files, s, cl⟩ mo = s1 := by
                unfold rSerial
                rw [if_pos HFR.out.symm, HS1L.out]
              rw [h2]
              exact ⟨files, _, h1, by rw [← HN.out], HA9.out, HLB9.out, HRB9.out, HS9.out⟩

          | false =>
            go_wp2
            go_meet
            case rel =>
              have h1 : rFiles ⟨files, s, cl⟩ mo = files := if_neg (by rw [← HFR.out]; simp)
              have h2 : rSerial ⟨files, s, cl⟩ mo = s := if_neg (by rw [← HFR.out]; simp)
              obtain ⟨I, F, h3⟩ := rFiles_cases ⟨files, s, cl⟩ mo
              rw [h2]
              rw [h1] at h3
              exact ⟨I, F, h1.trans h3, by rw [HN.out, h3]; simp, by rw [← h3]; exact HA3.out, HLB3.out, HRB3.out, HW3.out⟩
        case rest =>
          obtain ⟨I, F, hIF, rfl, hA, hlb, hrb, hS⟩ := hcut
          refine open_kkA (by assumption) ?_
          obtain ⟨e1, e2⟩ := rAppend_eq HNE.out hIF
          have HE1 := Lib.hid e1
          have hszF := HSZ.out
          rw [e2] at hszF
          have hRL : F.recs.length ≤ 1000000 := by
            have hFm : F ∈ rFiles ⟨files, s, cl⟩ mo := by rw [hIF]; simp
            unfold rFiles at hFm
            split at hFm
            · rcases List.mem_append.1 hFm with hFm | hFm
              · exact HFL.out F hFm
              · obtain rfl := List.mem_singleton.1 hFm
                simp
            · exact HFL.out F hFm
          have hTO : rEnd F + recs.length < 18446744073709551616 := by
            have h5 := HTO.out
            rw [HNX.out] at h5
            have h6 : rEnd F = rNext files := by
              unfold rFiles at hIF
              split at hIF
              · obtain ⟨_, h2⟩ := List.append_inj' hIF rfl
                simp only [List.cons.injEq, and_true] at h2
                rw [← h2]
                rfl
              · unfold rNext
                rw [show files = I ++ [F] from hIF, lastR_snoc]
            rw [h6]
            exact h5
          have HTF := Lib.hid hTO
          clear hIF e1 e2 hTO HTO HNX HFR HS3 HLB3 HRB3 HW3 HA3 l0 l1 l2 fl HFL HSZ HN HS1L
          obtain ⟨a9, c9, rfl⟩ := hA.val
          obtain ⟨g9, es, rfl, hg1, hg2, hes, hce, hfz⟩ := (OwnG.of hA).at (k := I.length) (by simp)
          rw [List.getElem_append_right (Nat.le_refl _)] at hes
          simp only [Nat.sub_self, List.getElem_cons_zero] at hes
          obtain ⟨c1, rfl, hbd, hrr, hszI⟩ := hes
          obtain ⟨fa, fc, rfl, _⟩ := Ty.slice_val hrr
          have q0 : wc.cell? ⟨g9, I.length * 3, none⟩ = some (.int .u64 (F.from_ : Int)) := hce 0 _ rfl
          have q1 : wc.cell? ⟨g9, I.length * 3 + 1, none⟩ = some (.slice fa F.recs.length fc) := hce 1 _ rfl
          have q2 : wc.cell? ⟨g9, I.length * 3 + 2, none⟩ = some (.int .i64 F.size) := hce 2 _ rfl
          have HA := Lib.hid hA
          have HLB := Lib.hid hlb
          have HRB := Lib.hid hrb
          have HS := Lib.hid hS
          have HRR := Lib.hid hrr
          obtain ⟨n, hn⟩ : ∃ n, n = I.length := ⟨_, rfl⟩
          have hil : (I ++ [F]).length = n + 1 := by rw [hn]; simp
          rw [hil] at HA ⊢
          rw [← hn] at q0 q1 q2 ⊢
          have HNI := Lib.hid hn
          have hnb : n + 1 ≤ lim := by rw [← hil]; exact hA.le
          rw [lim_eq] at hnb
          clear hA hlb hrb hS hrr hce hn hil
          have hwn : IntKind.i64.wrap (n : Int) = (n : Int) := by rw [IntKind.wrap_i64]; omega
          have hnlt : (n : Int) < (n : Int) + 1 := by omega
          go_upto_region 14 with fail
          refine wp_codeN (fun wx => CellsAt wx wc.heap.size #[.int .u64 (F.from_ : Int), .slice fa F.recs.length fc, .int .i64 F.size] 107 ∧ Step wc wx) ⟨CellsAt.new rfl, by (repeat (first | exact Step.refl _ | refine Step.alloc ?_ _ | refine Step.drew ?_ | refine Step.drewN ?_ _ | refine Step.setCell ?_ (by first | exact Nat.le_refl _ | assumption | omega | (simp; done) | (simp; omega)) _ | assumption | refine Step.trans ?_ (by assumption : Step _ _)))⟩ ?_
          rintro w5 ⟨hf5, hS5⟩
          obtain ⟨fb, hfb⟩ : ∃ fb, fb = wc.heap.size := ⟨_, rfl⟩
          rw [← hfb] at hf5 ⊢
          have HF5 := Lib.hid hf5
          have HS5 := Lib.hid hS5
          have f1 : w5.cell? ⟨fb, 1, none⟩ = some (.slice fa F.recs.length fc) := hf5.cell 1
          have hfl5 := hf5.lt
          have hwf : wc.heap.size ≤ fb := by omega
          have hwg9 : g9 < fb := by omega
          clear hf5 hS5 q0 q1 q2 hfb
          go_upto_region 15 with (go_at_call 15; (refine (Copies_ _ _ _ _ (Ty.step _ HRR.out (HS5.out.trans stp))).mono ?_; rintro e w6 ⟨v6, rfl, hA6, hS6⟩; obtain ⟨a6, n6, c6, rfl, HN6⟩ := hA6.valN; have HA6 := Lib.hid hA6; have HS6 : Hid (Step w5 w6) := Lib.hid (Step.trans stp hS6); have f6 : w6.cell? ⟨fb, 1, none⟩ = some (.slice fa F.recs.length fc) := (HS6.out.cell hfl5 1).trans f1; have ff6 : ∀ j, w6.frozen? ⟨fb, j, none⟩ = false := fun j => (HF5.out.step HS6.out).frozen j; clear hA6 hS6))
          have hw56 : w5.heap.size ≤ w6.heap.size := HS6.out.size
          refine wp_codeN (fun wx => CellsAt wx fb #[.int .u64 (F.from_ : Int), .slice a6 n6 c6, .int .i64 F.size] 107 ∧ Gr.Own Ty.bytes 40 wx (fun d => d < w5.heap.size) w5.heap.size (.slice a6 n6 c6) F.recs ∧ Step wc wx ∧ w5.heap.size ≤ wx.heap.size) ⟨(HF5.out.step HS6.out).set 1 _, HA6.out.kept (fun d hd hm => heap_setCell_other _ _ _ _ (fun e => hm (by rw [e]; exact hfl5))) (fun g hg => heap_setCell_other _ _ _ _ (fun e => by have := (HA6.out.lt hg).1; have e2 : g = fb := e; omega)), (HS5.out.trans HS6.out).setCell (p := ⟨fb, 1, none⟩) (by show _ ≤ fb; omega) _, by simpa using hw56⟩ ?_
          rintro w7 ⟨hf7, hA7, hS7, hz7⟩
          have HF7 := Lib.hid hf7
          have HA7 := Lib.hid hA7
          have HS7 := Lib.hid hS7
          clear hf7 hA7 hS7 f1 f6 ff6 HF5 HA6 HS6 HN6
          go_wp2
          go_loopw [12] (fun iv w' => ∃ (k nn gc : Nat) (ga : Option Addr), iv = .int .i64 (k : Int) ∧ k ≤ recs.length ∧ Hid (CellsAt w' fb #[.int .u64 (F.from_ : Int), .slice ga nn gc, .int .i64 (F.size + ((sealsB (recs.take k)).length : Int))] 107) ∧ Hid (Gr.Own Ty.bytes 40 w' (fun d => d < w5.heap.size) w5.heap.size (.slice ga nn gc) (F.recs ++ recs.take k)) ∧ Hid (Step wc w') ∧ w5.heap.size ≤ w'.heap.size) (fun iv _ => recs.length - (Go.RowKit.intOf iv).toNat)
          case atStart => exact ⟨0, n6, c6, a6, rfl, Nat.zero_le _, by simpa [sealsB] using HF7, by simpa using HA7, HS7, hz7⟩
          case round =>
            obtain ⟨k, nn, gc, ga, rfl, hk, HFB, HRW, HSW, hzw⟩ := hrel
            have hfl := HFB.out.lt
            by_cases hlt : k < recs.length
            · have hd : decide ((k : Int) < (recs.length : Int)) = true := decide_eq_true (by omega)
              obtain ⟨g1, o1, v1, rfl, hg1l, _, hv1, qv⟩ := Ty.slice_at1 rfl HR.out hlt
              have HV1 := Lib.hid hv1
              have hv1l : Hid (recs[k].length ≤ 1048576) := Lib.hid (HREC.out _ (List.getElem_mem hlt))
              have HWW : Hid (Step w wr) := Lib.hid (HS.out.trans HSW.out)
              have qr := (HWW.out.cell hg1l _).trans qv
              have b1 : wr.cell? ⟨fb, 1, none⟩ = some (.slice ga nn gc) := HFB.out.cell 1
              have htk : Hid (recs.take (k + 1) = recs.take k ++ [recs[k]]) := Lib.hid (List.take_succ_eq_append_getElem hlt)
              have hstk : Hid ((sealsB (recs.take (k + 1))).length = (sealsB (recs.take k)).length + (8 + cellsN recs[k].length)) := Lib.hid (by rw [sealsB_take hlt, List.length_append, sealB_cells])
              have hsle := sealsB_take_le recs (k + 1)
              rw [hstk.out] at hsle
              have hnl : Hid ((F.recs ++ recs.take k).length + 1 ≤ lim) := Lib.hid (by rw [List.length_append, List.length_take, lim_eq]; omega)
              generalize recs[k] = R at *
              have hsz2 : F.size + ((sealsB (recs.take k)).length : Int) + ((8 + cellsN R.length : Nat) : Int) ≤ 1152921504606846976 := by omega
              generalize (sealsB (recs.take k)).length = T at *
              obtain ⟨Z, hZ⟩ : ∃ Z : Nat, Z = 8 + cellsN R.length := ⟨_, rfl⟩
              have HZ := Lib.hid hZ
              rw [← hZ] at hsz2 hstk hsle
              have HLT : Hid (k + 1 ≤ recs.length) := Lib.hid hlt
              have qv2 := Lib.hid qv
              clear hZ hv1 qv
              go_upto_region 18 with fail
              refine wp_region_cut (S := (fun w' => w'.cell? ⟨fb, 1, none⟩ = some (.slice ga nn gc) ∧ w'.cell? ⟨g1, o1 + k, none⟩ = some v1)) 10 (by kernel_rfl) ?_ (fun hHeld => ?_)
              · (go_keep)
              refine tkC 0 [1, 8, 9, 10] ?_
              try simp only [Act.put, gtA, gtB, gtC, gtD, gtE, gtF]
              refine tkC 1 [8, 9, 10] ?_
              try simp only [Act.put, gtA, gtB, gtC, gtD, gtE, gtF]
              refine tkC 2 [4, 5, 6, 7, 8, 9, 10] ?_
              try simp only [Act.put, gtA, gtB, gtC, gtD, gtE, gtF]
              refine tkC 3 [4, 5, 6, 7, 8, 9, 10] ?_
              try simp only [Act.put, gtA, gtB, gtC, gtD, gtE, gtF]
              refine tkC 4 [5, 6, 7, 8, 9, 10] ?_
              try simp only [Act.put, gtA, gtB, gtC, gtD, gtE, gtF]
              refine tkC 5 [6, 7, 8, 9, 10] ?_
              try simp only [Act.put, gtA, gtB, gtC, gtD, gtE, gtF]
              refine rdC (rs := [6]) (.cons rfl (by decide) (fun K hK => ?_) .nil)
              try simp only [gtA, gtB, gtC]
              go_simp
              (go_at_call 52; refine (Copy_ _ _ _ _ (Ty.step _ HV1.out (HWW.out.trans stp))).mono ?_; rintro e w8 ⟨v8, rfl, hA8, hS8⟩; obtain ⟨a8, n8, c8, rfl, HN8⟩ := hA8.valN; have HA8 := Lib.hid hA8; have HS8 : Hid (Step wr w8) := Lib.hid (Step.trans stp hS8); have s8a : w8.cell? ⟨fb, 1, none⟩ = some (.slice ga nn gc) := (HS8.out.cell hfl 1).trans b1; have s8b : w8.cell? ⟨g1, o1 + k, none⟩ = some v1 := (HS8.out.cell (Nat.lt_of_lt_of_le hg1l HWW.out.size) _).trans qr; clear hA8 hS8)
              refine hK.out _ _ ?_ (fun hHeld => ?_)
              · (go_keep)
              clear hK K
              try simp only [Act.put, gtA, gtB, gtC, gtD, gtE, gtF]
              refine rdC (rs := [7]) (.cons rfl (by decide) (fun K hK => ?_) .nil)
              try simp only [gtA, gtB, gtC]
              go_simp
              refine hK.out _ _ ?_ (fun hHeld => ?_)
              · (go_keep)
              clear hK K
              try simp only [Act.put, gtA, gtB, gtC, gtD, gtE, gtF]
              refine rdC (rs := [8]) (.cons rfl (by decide) (fun K hK => ?_) .nil)
              try simp only [gtA, gtB, gtC]
              refine ite_then rfl ?_; refine wp_append_gen (E := Ty.bytes) (B := w5.heap.size) (M := fun d => d < w5.heap.size) (ys := [R]) (.tmp 89) (.tmp 95) rfl stList (Own.step HRW.out (HS8.out.trans stp)) (Src.one (Own.rep' (Own.flat Ty.flat_byte HA8.out) (fun d hd hm => by have h1 := (HA8.out.lt hd).1; (try simp only [World.size_drew] at h1); (rcases hm with hm | hm; omega; (have h2 := (HRW.out.lt hm).2; omega))))) (by simpa using hnl.out) (Nat.le_trans hzw (Step.size (HS8.out.trans stp))) rfl rfl ?_; intro v9 w9 hA9 hG9 hn9; obtain ⟨a10, n10, c10, rfl, HN10⟩ := hA9.valN; have hne9 : ∀ d, d < w5.heap.size → (Value.slice ga nn gc).ownBlock ≠ some d := fun d hd e => absurd (HRW.out.lt e).1 (by omega); have HF9 := Lib.hid (CellsAt.kept (CellsAt.step HFB.out (HS8.out.trans stp)) (hG9.block fb (Nat.lt_of_lt_of_le hfl (HS8.out.trans stp).size) (fun e => hne9 fb hfl5 e.symm))); have HC9 : Hid (Step wc w9) := Lib.hid (Own.grown (w0 := wc) (Own.base (Own.step HRW.out (HS8.out.trans stp)) (by omega)) (HSW.out.trans (HS8.out.trans stp)) hG9); have hz9 : w5.heap.size ≤ w9.heap.size := Nat.le_trans (Nat.le_trans hzw (Step.size (HS8.out.trans stp))) hG9.size; have s9a : w9.cell? ⟨fb, 1, none⟩ = some (.slice ga nn gc) := HF9.out.cell 1; have s9f : ∀ j, w9.frozen? ⟨fb, j, none⟩ = false := HF9.out.frozen; have s9b : w9.cell? ⟨g1, o1 + k, none⟩ = some v1 := ((HS.out.trans HC9.out).cell hg1l _).trans qv2.out; have HA9 := Lib.hid hA9; clear hA9 hG9 hn9
              refine hK.out _ _ ?_ (fun hHeld => ?_)
              · (go_keep)
              clear hK K
              try simp only [Act.put, gtA, gtB, gtC, gtD, gtE, gtF]
              refine tkC 9 [10] ?_
              try simp only [Act.put, gtA, gtB, gtC, gtD, gtE, gtF]
              refine rdC (rs := [10]) (.cut rfl (fun K hK => ?_))
              try simp only [gtA, gtB, gtC]
              go_simp
              refine hK.out _ _ trivial (fun hHeld => ?_)
              clear hK K
              try simp only [Act.put, gtA, gtB, gtC, gtD, gtE, gtF]
              have hTrue : True := trivial
              refine wpAnyH_done (by kernel_rfl) ?_ _
              have h10a : CellsAt (w9.setCell ⟨fb, 1, none⟩ (.slice a10 n10 c10)) fb #[.int .u64 (F.from_ : Int), .slice a10 n10 c10, .int .i64 (F.size + (T : Int))] 107 := HF9.out.set 1 _
              have h10b : Gr.Own Ty.bytes 40 (w9.setCell ⟨fb, 1, none⟩ (.slice a10 n10 c10)) (fun d => d < w5.heap.size) w5.heap.size (.slice a10 n10 c10) (F.recs ++ recs.take k ++ [R]) := HA9.out.kept (fun d hd hm => heap_setCell_other _ _ _ _ (fun e => hm (by rw [e]; exact hfl5))) (fun g hg => heap_setCell_other _ _ _ _ (fun e => by have := (HA9.out.lt hg).1; have e2 : g = fb := e; omega))
              have h10c : Step wc (w9.setCell ⟨fb, 1, none⟩ (.slice a10 n10 c10)) := HC9.out.setCell (p := ⟨fb, 1, none⟩) hwf _
              have h10d : w5.heap.size ≤ (w9.setCell ⟨fb, 1, none⟩ (.slice a10 n10 c10)).heap.size := by simpa using hz9
              have H10 := Lib.hid (And.intro h10a (And.intro h10b (And.intro h10c h10d)))
              clear h10a h10b h10c h10d
              go_upto_region 19 with fail
              refine wp_codeN (fun wx => CellsAt wx fb #[.int .u64 (F.from_ : Int), .slice a10 n10 c10, .int .i64 (F.size + (T : Int))] 107 ∧ Gr.Own Ty.bytes 40 wx (fun d => d < w5.heap.size) w5.heap.size (.slice a10 n10 c10) (F.recs ++ recs.take k ++ [R]) ∧ Step wc wx ∧ w5.heap.size ≤ wx.heap.size) (by first | exact H10.out | exact ⟨CellsAt.drew H10.out.1, H10.out.2.1.drew, H10.out.2.2.1.drew, H10.out.2.2.2⟩) ?_
              rintro w11 ⟨hf11, hA11, hS11, hz11⟩
              have b2 : w11.cell? ⟨fb, 2, none⟩ = some (.int .i64 (F.size + (T : Int))) := hf11.cell 2
              have b2f : ∀ j, w11.frozen? ⟨fb, j, none⟩ = false := hf11.frozen
              have hfl11 := hf11.lt
              have HF11 := Lib.hid hf11
              have HA11 := Lib.hid hA11
              have HS11 := Lib.hid hS11
              have b3 : w11.cell? ⟨g1, o1 + k, none⟩ = some v1 := ((HS.out.trans HS11.out).cell hg1l _).trans qv2.out
              have hwz : IntKind.i64.wrap (F.size + (T : Int) + (Z : Int)) = F.size + (T : Int) + (Z : Int) := by rw [IntKind.wrap_i64]; omega
              clear hf11 hA11 hS11 HF9 HA9 HC9 s9a s9b s9f HA8 HS8 s8a s8b qr b1 HFB HRW HSW
              refine wp_region_cut (S := (fun w' => w'.cell? ⟨fb, 2, none⟩ = some (.int .i64 (F.size + (T : Int))) ∧ w'.cell? ⟨g1, o1 + k, none⟩ = some v1)) 9 (by kernel_rfl) ?_ (fun hHeld => ?_)
              · (go_keep)
              refine tkC 0 [1, 7, 8, 9] ?_
              try simp only [Act.put, gtA, gtB, gtC, gtD, gtE, gtF]
              refine tkC 1 [7, 8, 9] ?_
              try simp only [Act.put, gtA, gtB, gtC, gtD, gtE, gtF]
              refine tkC 2 [4, 5, 6, 7, 8, 9] ?_
              try simp only [Act.put, gtA, gtB, gtC, gtD, gtE, gtF]
              refine tkC 3 [4, 5, 6, 7, 8, 9] ?_
              try simp only [Act.put, gtA, gtB, gtC, gtD, gtE, gtF]
              refine tkC 4 [5, 6, 7, 8, 9] ?_
              try simp only [Act.put, gtA, gtB, gtC, gtD, gtE, gtF]
              refine tkC 5 [6, 7, 8, 9] ?_
              try simp only [Act.put, gtA, gtB, gtC, gtD, gtE, gtF]
              refine rdC (rs := [6]) (.cons rfl (by decide) (fun K hK => ?_) .nil)
              try simp only [gtA, gtB, gtC]
              go_simp
              (go_at_call 63; refine (rSealed_ (Ty.step _ HV1.out (HS.out.trans (HS11.out.trans stp))) hv1l.out).mono ?_; rintro e w12 ⟨rfl, hS12⟩; rw [← HZ.out]; have HS12 : Hid (Step w11 w12) := Lib.hid (Step.trans stp hS12); have s12a : w12.cell? ⟨fb, 2, none⟩ = some (.int .i64 (F.size + (T : Int))) := (HS12.out.cell hfl11 2).trans b2; have s12b : w12.cell? ⟨g1, o1 + k, none⟩ = some v1 := ((HS.out.trans (HS11.out.trans HS12.out)).cell hg1l _).trans qv2.out; have s12f : ∀ j, w12.frozen? ⟨fb, j, none⟩ = false := (HF11.out.step HS12.out).frozen; clear hS12)
              refine hK.out _ _ ?_ (fun hHeld => ?_)
              · (go_keep)
              clear hK K
              try simp only [Act.put, gtA, gtB, gtC, gtD, gtE, gtF]
              refine tkC 7 [8, 9] ?_
              try simp only [Act.put, gtA, gtB, gtC, gtD, gtE, gtF]
              refine tkC 8 [9] ?_
              try simp only [Act.put, gtA, gtB, gtC, gtD, gtE, gtF]
              refine rdC (rs := [9]) (.cut rfl (fun K hK => ?_))
              try simp only [gtA, gtB, gtC]
              go_simp
              refine hK.out _ _ trivial (fun hHeld => ?_)
              clear hK K
              try simp only [Act.put, gtA, gtB, gtC, gtD, gtE, gtF]
              have hTrue : True := trivial
              refine wpAnyH_done (by kernel_rfl) ?_ _
              have h13a : CellsAt (w12.setCell ⟨fb, 2, none⟩ (.int .i64 (F.size + (T : Int) + (Z : Int)))) fb #[.int .u64 (F.from_ : Int), .slice a10 n10 c10, .int .i64 (F.size + (((sealsB (recs.take (k + 1))).length : Nat) : Int))] 107 := by
                have h5 := (HF11.out.step HS12.out).set 2 (.int .i64 (F.size + (T : Int) + (Z : Int)))
                rw [hstk.out, show F.size + ((T + Z : Nat) : Int) = F.size + (T : Int) + (Z : Int) by omega]
                exact h5
              have h13b : Gr.Own Ty.bytes 40 (w12.setCell ⟨fb, 2, none⟩ (.int .i64 (F.size + (T : Int) + (Z : Int)))) (fun d => d < w5.heap.size) w5.heap.size (.slice a10 n10 c10) (F.recs ++ recs.take (k + 1)) := by
                rw [htk.out, ← List.append_assoc]
                exact (HA11.out.step HS12.out).kept (fun d hd hm => heap_setCell_other _ _ _ _ (fun e => hm (by rw [e]; exact hfl5))) (fun g hg => heap_setCell_other _ _ _ _ (fun e => by have := (HA11.out.lt hg).1; have e2 : g = fb := e; omega))
              have h13c : Step wc (w12.setCell ⟨fb, 2, none⟩ (.int .i64 (F.size + (T : Int) + (Z : Int)))) := (HS11.out.trans HS12.out).setCell (p := ⟨fb, 2, none⟩) hwf _
              have h13d : w5.heap.size ≤ (w12.setCell ⟨fb, 2, none⟩ (.int .i64 (F.size + (T : Int) + (Z : Int)))).heap.size := by
                have := HS12.out.size
                rw [World.size_setCell]
                omega
              have H13 := Lib.hid (And.intro h13a (And.intro h13b (And.intro h13c h13d)))
              clear h13a h13b h13c h13d
              go_wp2
              go_roundw
              case rel =>
                refine ⟨k + 1, n10, c10, a10, by go_num, HLT.out, ?_⟩
                first
                  | exact ⟨Lib.hid H13.out.1, Lib.hid H13.out.2.1, Lib.hid H13.out.2.2.1, H13.out.2.2.2⟩
                  | exact ⟨Lib.hid (CellsAt.drew H13.out.1), Lib.hid H13.out.2.1.drew, Lib.hid H13.out.2.2.1.drew, H13.out.2.2.2⟩
              case measure => simp [Go.RowKit.intOf]; omega
            · have hd : decide ((k : Int) < (recs.length : Int)) = false := decide_eq_false (by omega)
              have hke : recs.take k = recs := List.take_of_length_le (by omega)
              rw [hke] at HFB HRW
              obtain ⟨Z, hZ⟩ : ∃ Z : Int, Z = F.size + ((sealsB recs).length : Int) := ⟨_, rfl⟩
              rw [← hZ] at HFB
              have hZI : I64 Z := by unfold I64; omega
              have HZ := Lib.hid hZ
              have b0 : wr.cell? ⟨fb, 0, none⟩ = some (.int .u64 (F.from_ : Int)) := HFB.out.cell 0
              have b1 : wr.cell? ⟨fb, 1, none⟩ = some (.slice ga nn gc) := HFB.out.cell 1
              have b2 : wr.cell? ⟨fb, 2, none⟩ = some (.int .i64 Z) := HFB.out.cell 2
              have HLBr := Lib.hid (HLB.out.step HSW.out)
              have HRBr := Lib.hid (HRB.out.step HSW.out)
              have hlbw := HLB.out.lt
              have hrbw := HRB.out.lt
              -- the row's cells are there, and its element put anew
              have HAr := Lib.hid (Own.step HA.out HSW.out)
              obtain ⟨gX, esX, hgX, _, hgX2, hesX, hceX, hfzX⟩ := (OwnG.of HAr.out).at (k := n) (by rw [List.length_append, List.length_singleton, ← HNI.out]; exact Nat.lt_succ_self _)
              obtain rfl : g9 = gX := by simpa using hgX
              obtain ⟨cX, rfl, _⟩ := hesX
              have r0 := hceX 0 _ rfl
              have r1 := hceX 1 _ rfl
              have r2 := hceX 2 _ rfl
              have hfr : ∀ o, wr.frozen? ⟨g9, o, none⟩ = false := hfzX
              simp only [show tRFile.n = 3 from rfl, Nat.add_zero] at r0 r1 r2
              have hg9w : wd.heap.size ≤ g9 := hg1
              have hyF : tRFile.rep wr (fun b => (M b ∨ b = rb) ∨ b = g9) [.int .u64 (F.from_ : Int), .slice ga nn gc, .int .i64 Z] (rGrown F recs) := by
                have h9 := Own.rep' HRW.out (fun d hd hm => absurd (HRW.out.lt hd).1 (by omega))
                have hnn : nn = (F.recs ++ recs).length := by
                  obtain ⟨_, _, hv⟩ := HRW.out.val
                  injection hv
                refine ⟨.slice ga nn gc, by rw [HZ.out]; rfl, ?_, Ty.less _ h9 (fun d hd hm => ?_), by show I64 (F.size + ((sealsB recs).length : Int)); rw [← HZ.out]; exact hZI⟩
                · have := HTF.out
                  unfold rEnd at this
                  show F.from_ + (F.recs ++ recs).length < _
                  rw [List.length_append]
                  omega
                · rcases hm with (hm | hm) | hm
                  · have := HM.out d hm
                    have := HS.out.size
                    omega
                  · omega
                  · omega
              have HYF := Lib.hid hyF
              have hset : (I ++ [F]).set n (rGrown F recs) = I ++ [rGrown F recs] := by rw [HNI.out]; simp
              have hgl : g9 ≠ lb := by omega
              have hgr : g9 ≠ rb := by omega
              have hput := row_put3 (M := fun d => M d ∨ d = rb) (Own.less HAr.out (fun d _ hd => hd.imp id (fun e => by omega))) (k := n) (y := rGrown F recs) (by rw [List.length_append, List.length_singleton, ← HNI.out]; exact Nat.lt_succ_self _) HYF.out (fun hx => hx.elim (fun hm => by have := HM.out _ hm; have := HS1.out.size; omega) (fun e => hgr e))
              rw [hset] at hput
              have h14b := ((HLBr.out.other (p := ⟨g9, n * 3, none⟩) (fun e => hgl e.symm) (.int .u64 (F.from_ : Int))).other (p := ⟨g9, n * 3 + 1, none⟩) (fun e => hgl e.symm) (.slice ga nn gc)).other (p := ⟨g9, n * 3 + 2, none⟩) (fun e => hgl e.symm) (.int .i64 Z)
              have h14c := ((HRBr.out.other (p := ⟨g9, n * 3, none⟩) (fun e => hgr e.symm) (.int .u64 (F.from_ : Int))).other (p := ⟨g9, n * 3 + 1, none⟩) (fun e => hgr e.symm) (.slice ga nn gc)).other (p := ⟨g9, n * 3 + 2, none⟩) (fun e => hgr e.symm) (.int .i64 Z)
              have hwg : w.heap.size ≤ g9 := Nat.le_trans HS1.out.size hg9w
              have h14d := (((HS.out.trans HSW.out).setCell (p := ⟨g9, n * 3, none⟩) hwg (.int .u64 (F.from_ : Int))).setCell (p := ⟨g9, n * 3 + 1, none⟩) hwg (.slice ga nn gc)).setCell (p := ⟨g9, n * 3 + 2, none⟩) hwg (.int .i64 Z)
              have H14 := Lib.hid (And.intro hput (And.intro h14b (And.intro h14c h14d)))
              clear hput h14b h14c h14d hset hyF hceX hfzX hgX hZ hke HFB HRW HYF
              go_upto_region 21 with fail
              refine wp_codeN (fun wx => (Ty.slice tRFile).rep wx (fun d => M d ∨ d = rb) [.slice (some ⟨g9, 0, none⟩) (n + 1) c9] (I ++ [rGrown F recs]) ∧ CellsAt wx lb #[.slice a N c, .int .u64 (rSerial ⟨files, s, cl⟩ mo : Int), .bool cl] 55 ∧ CellsAt wx rb #[.slice none 0 0, .int .u64 0, .bool false] 55 ∧ Step w wx) (by first | exact H14.out | exact ⟨Ty.step _ H14.out.1 stp, CellsAt.drew H14.out.2.1, CellsAt.drew H14.out.2.2.1, H14.out.2.2.2.drew⟩) ?_
              rintro w15 ⟨hf15, hlb15, hrb15, hS15⟩
              obtain ⟨S1, hS1e⟩ : ∃ S1, S1 = rSerial ⟨files, s, cl⟩ mo := ⟨_, rfl⟩
              rw [← hS1e] at hlb15
              have l1 : w15.cell? ⟨lb, 1, none⟩ = some (.int .u64 (S1 : Int)) := hlb15.cell 1
              have c0 : w15.cell? ⟨rb, 0, none⟩ = some (.slice none 0 0) := hrb15.cell 0
              have c1 : w15.cell? ⟨rb, 1, none⟩ = some (.int .u64 0) := hrb15.cell 1
              have c2 : w15.cell? ⟨rb, 2, none⟩ = some (.bool false) := hrb15.cell 2
              have cf : ∀ j, w15.frozen? ⟨rb, j, none⟩ = false := hrb15.frozen
              have HF15 := Lib.hid hf15
              have HRB15 := Lib.hid hrb15
              have HS15 := Lib.hid hS15
              have HSE := Lib.hid hS1e
              have hwrb : w.heap.size ≤ rb := by omega
              clear hf15 hlb15 hrb15 hS15 hS1e H14 b0 b1 b2 r0 r1 r2 hfr
              go_wp2
              refine bodyPost_ret (results_cell_row Tryz.results30 _ _ rb 55 #[.slice (some ⟨g9, 0, none⟩) (n + 1) c9, .int .u64 (S1 : Int), .bool false] (0, 0) _ rfl (CellsAt.set (CellsAt.set (CellsAt.set HRB15.out 0 _) 1 _) 2 _) Tryz.underlying55 rfl (by kernel_rfl)) rfl ?_
              rw [HE1.out]
              refine ⟨_, _, _, rfl, Ty.keep _ HF15.out (fun d hd hm => ⟨?_, fun hx => hm (.inl hx)⟩), HSE.out, rfl, step_set3 HS15.out hwrb⟩
              have hne : d ≠ rb := fun e => hm (.inr e)
              rw [heap_setCell_other _ _ _ _ hne, heap_setCell_other _ _ _ _ hne, heap_setCell_other _ _ _ _ hne]
end Go.Proofs.YthebdlkmoailaaaGreatDoor
