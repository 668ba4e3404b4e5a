/-
  Walk: the document's answer to a request (Run).
-/
import Derived.Test.YthflkfgiclcdiaaZB17
import Derived.Test.YthflkfgiclcdiaaZB6
import Derived.Laws.ResultCell
import Derived.Deep.CutBlock
set_option linter.unusedVariables false
set_option linter.unusedSimpArgs false
namespace Go.Proofs.Ythflkfgiclcdiaa
open Go.RowKit Go.Gr Go.Sort
set_option linter.unusedSimpArgs false
abbrev rfM (rb ob : Nat) : Nat → Prop := fun b => b = rb ∨ b = ob
abbrev rfN (rb ob : Nat) (rv : Value) : Nat → Prop := fun b => rfM rb ob b ∨ rv.ownBlock = some b
/-- Where the document's request stands behind k operations. -/
def RefAt (w w' : World) (rb ob : Nat) (P : List DPair) (ops : List DOp) (k : Nat) (nv : Value) : Prop :=
  ∃ (rv wv : Value) (rows : List (List DPair)) (ws : List DWrite), (Ty.slice tPair).rep w' (rfN rb ob rv) [nv] (overB P ws) ∧ CellsAt w' ob (outC 0 0 rv wv) 47 ∧ Gr.Own (Ty.slice tPair) 59 w' (rfM rb ob) (ob + 1) rv rows ∧
    (Ty.slice tWrite).rep w' (rfN rb ob rv) [wv] ws ∧ CellsAt w' rb (outC 0 0 (.slice none 0 0) (.slice none 0 0)) 47 ∧ Step w w' ∧ ws.length ≤ k ∧ RisW ws ∧ rows.length = k ∧ runL P ws rows k (ops.drop k) = runL P [] [] 0 ops
theorem results_tmp_row {P : Program} {fn : Func} {p u : Tmp} {ty : TypeId} (h : fn.results = #[.tmp u, .cell p ty]) (tmps : Array Value) (w : World) (g : Nat) (t : TypeId) (cs : Array Value) (d : TypeDesc)
    (hp : tmps.getD p undef = .pointer (some ⟨g, 0, none⟩)) (hg : CellsAt w g cs t) (hu : P.underlying ty = some d) (hd : (match d with | .struct _ | .array _ _ => true | _ => false) = true) (hi : (P.info? ty).map (·.size) = some cs.size) :
    (results fn tmps).run P w = .ok (.tuple #[tmps.getD u undef, .agg cs]) w := by
  have hl := run_loadVar_row w g t ty cs (0, 0) d hg hu hd hi
  have hq : (results fn tmps).run P w = ((asAddr (tmps.getD p undef)).run P w).andThen fun a w₁ => ((loadVar ty a).run P w₁).andThen fun v w₂ => .ok (.tuple #[tmps.getD u undef, v]) w₂ := by
    simp only [results, h]
    simp [Sem.run_bind, Result.andThen]
  rw [hq, hp]
  simp [asAddr, hl, Result.andThen]
/-- All that was there is as it was, but one block. -/
def SameBut (ob : Nat) (w w' : World) : Prop := ∀ b, b < w.heap.size → b ≠ ob → w'.heap[b]? = w.heap[b]?
theorem SameBut.refl (ob : Nat) (w : World) : SameBut ob w w := fun _ _ _ => rfl
theorem SameBut.of {ob : Nat} {w w' : World} (h : Step w w') : SameBut ob w w' := fun _ h1 _ => h.heap h1
theorem RefAt_next {w wc W5 w6 : World} {rb ob k : Nat} {nv rv wv v6 : Value} {P : List DPair} {ws : List DWrite} {ops : List DOp} {rows rows' : List (List DPair)} (h1 : w.heap.size ≤ rb) (h2 : rb < ob)
    (hN : (Ty.slice tPair).rep wc (rfN rb ob rv) [nv] (overB P ws)) (hC : CellsAt wc ob (outC 0 0 rv wv) 47) (hR : Gr.Own (Ty.slice tPair) 59 wc (rfM rb ob) (ob + 1) rv rows) (hW : (Ty.slice tWrite).rep wc (rfN rb ob rv) [wv] ws)
    (hRb : CellsAt wc rb (outC 0 0 (.slice none 0 0) (.slice none 0 0)) 47) (hS : Step w wc) (hS5 : Step wc W5) (hA : Gr.Own (Ty.slice tPair) 59 w6 (rfM rb ob) (ob + 1) v6 rows') (hG : W5.grownBy w6 rv.ownBlock) (hn : v6.ownBlock = rv.ownBlock ∨ v6.ownBlock = some W5.heap.size)
    (hws : ws.length ≤ k) (hwr : RisW ws) (hrl : rows'.length = k) (hrun : runL P ws rows' k (ops.drop k) = runL P [] [] 0 ops) :
    RefAt w (w6.setCell ⟨ob, 2, none⟩ v6) rb ob P ops k nv := by
  have z1 := hS5.size
  have z3 := hC.lt
  have z4 := hS.size
  have hgr : ∀ g, rv.ownBlock = some g → ob + 1 ≤ g ∧ g < wc.heap.size := fun g hg => hR.lt hg
  have hblk : ∀ b, b < wc.heap.size → ¬ rfN rb ob rv b → (w6.setCell ⟨ob, 2, none⟩ v6).heap[b]? = wc.heap[b]? ∧ ¬ rfN rb ob v6 b := fun b hb hx =>
    ⟨(heap_setCell_other _ _ _ _ (fun e => hx (.inl (.inr e)))).trans ((hG.block b (by omega) (fun e => hx (.inr e.symm))).trans (hS5.heap hb)), fun h => by
      rcases h with h | h
      · exact hx (.inl h)
      · rcases hn with hn | hn
        · exact hx (.inr (hn ▸ h))
        · rw [hn] at h; injection h with h; omega⟩
  have hobk : w6.heap[ob]? = wc.heap[ob]? := (hG.block ob (by omega) (fun e => by have := (hgr ob e.symm).1; omega)).trans (hS5.heap z3)
  have hrbk : w6.heap[rb]? = wc.heap[rb]? := (hG.block rb (by omega) (fun e => by have := (hgr rb e.symm).1; omega)).trans (hS5.heap (by omega))
  refine ⟨v6, wv, rows', ws, Ty.keep _ hN hblk, CellsAt.set (CellsAt.kept hC hobk) 2 _, ?_, Ty.keep _ hW hblk, CellsAt.other (CellsAt.kept hRb hrbk) (show rb ≠ ob by omega) _, ?_, hws, hwr, hrl, hrun⟩
  · exact own_keepM hA (fun g hg => heap_setCell_other _ _ _ _ (fun e => by have := (hA.lt hg).1; have e' : g = ob := e; omega)) (fun b hb hm => ⟨heap_setCell_other _ _ _ _ (fun e => hm (.inr e)), hm⟩)
  · refine Step.setCell (Step.of (Below.grown (Step.trans hS hS5) hG (by omega) (fun q e => by have := (hgr q e).1; omega))) (show w.heap.size ≤ ob by omega) _
set_option maxRecDepth 100000 in
set_option maxHeartbeats 8000000 in
theorem refRun_ {w : World} {M : Nat → Prop} {lv ov : Value} {P : List DPair} {ops : List DOp} (hp : (Ty.slice tPair).rep w M [lv] P) (ho : (Ty.slice tOp).rep w M [ov] ops) (hP : RisP P) (hPl : P.length ≤ 1000) :
    Calls Try.prog 26 #[lv, ov] w fun e w' => ∃ nv rv wv, e = .returned (.tuple #[nv, .agg (outC (runB P ops).err (runB P ops).at_ rv wv)]) ∧ (Ty.slice tPair).rep w' (fun _ => False) [nv] (nextB P ops) ∧
      (Ty.slice (Ty.slice tPair)).rep w' (fun _ => False) [rv] (runB P ops).rows ∧ (Ty.slice tWrite).rep w' (fun _ => False) [wv] (runB P ops).writes ∧ Step w w' := by
  obtain ⟨oa, oc, rfl, _, _, hol⟩ := Ty.slice_val ho
  obtain ⟨la, lc, rfl, _⟩ := Ty.slice_val hp
  rw [lim_eq] at hol
  have HPP := Lib.hid hp
  have HO := Lib.hid ho
  have HP := Lib.hid hP
  by_cases hck : checkB ops = 0
  · have hrun : runB P ops = runL P [] [] 0 ops := by unfold runB; rw [if_neg (by simp [hck])]
    have hnx : nextB P ops = if (runL P [] [] 0 ops).err ≠ 0 then P else overB P (runL P [] [] 0 ops).writes := by unfold nextB; rw [hrun]
    rw [hrun]
    have HNX := Lib.hid hnx
    have hok := check_ok hck
    have hol2 := hok.1
    have HOK := Lib.hid hok.2
    have HCK := Lib.hid hck
    clear hp ho hP hck hrun hok hnx
    go_enter Try.func26, Try.ntmps26
    go_upto_region 6 with (go_at_call 12; refine (refCheck_ (Ty.step _ HO.out (by (repeat (first | exact Step.refl _ | refine Step.alloc ?_ _ | refine Step.drew ?_ | refine Step.drewN ?_ _ | refine Step.setCell ?_ (by first | exact Nat.le_refl _ | assumption | omega | (simp; done) | (simp; omega)) _ | assumption | refine Step.trans ?_ (by assumption : Step _ _)))))).mono ?_; rintro e w1 ⟨rfl, hS1⟩; rw [← check_same, HCK.out])
    refine wp_code (fun wx => CellsAt wx w1.heap.size (outC 0 0 (.slice none 0 0) (.slice none 0 0)) 47 ∧ Step w1 wx) ⟨CellsAt.new rfl, by (repeat (first | exact Step.refl _ | refine Step.alloc ?_ _ | refine Step.drew ?_ | refine Step.drewN ?_ _ | refine Step.setCell ?_ (by first | exact Nat.le_refl _ | assumption | omega | (simp; done) | (simp; omega)) _ | assumption | refine Step.trans ?_ (by assumption : Step _ _)))⟩ ?_
    rintro w2 ⟨ho2, hS2⟩
    obtain ⟨ob, hob⟩ : ∃ o, w1.heap.size = o := ⟨_, rfl⟩
    rw [hob] at ho2 ⊢
    have hz1 : w.heap.size + 1 ≤ ob := by have := hS1.size; simp at this; omega
    have hrb2 : CellsAt w2 w.heap.size (outC 0 0 (.slice none 0 0) (.slice none 0 0)) 47 := CellsAt.step (CellsAt.new rfl) (hS1.trans hS2)
    have hSw2 : Step w w2 := ((Step.refl w).alloc _).trans (hS1.trans hS2)
    have hst : RefAt w w2 w.heap.size ob P ops 0 (.slice la P.length lc) :=
      ⟨.slice none 0 0, .slice none 0 0, [], [], Ty.keep _ HPP.out (fun b h1 h2 => ⟨hSw2.heap h1, fun h => by
          rcases h with (h | h) | h
          · omega
          · omega
          · simp [Value.ownBlock] at h⟩), ho2, Gr.Own.nil, nil_repG, hrb2, hSw2, by simp, List.Pairwise.nil, rfl, rfl⟩
    have HST := Lib.hid hst
    clear ho2 hS2 hrb2 hSw2 hst hS1 hob
    go_wp2
    go_loopw [7, 9] (fun nv i w' => ∃ k : Nat, i = .int .i64 k ∧ k ≤ ops.length ∧ Hid (RefAt w w' w.heap.size ob P ops k nv)) (fun _ i _ => ops.length - (Go.RowKit.intOf i).toNat)
    case atStart => exact ⟨0, rfl, by omega, HST⟩
    case round =>
      obtain ⟨k, rfl, hk, hra⟩ := hrel
      obtain ⟨rv, wv, rows, ws, hN, hC, hR, hW, hRb, hS, hws, hwr, hrl, hrun⟩ := hra.out
      obtain ⟨ra, rn, rc, rfl, HRN⟩ := hR.valN
      obtain ⟨na, nc, hnv, _⟩ := Ty.slice_val hN
      obtain ⟨wa, wcc, hwv, _⟩ := Ty.slice_val hW
      subst hnv hwv
      have hzr := hS.size
      have hobl := hC.lt
      have HN := Lib.hid hN
      have HC := Lib.hid hC
      have HR := Lib.hid hR
      have HW := Lib.hid hW
      have HRb := Lib.hid hRb
      have HS := Lib.hid hS
      have HWR := Lib.hid hwr
      have HRL := Lib.hid hrl
      have HRUN := Lib.hid hrun
      have hor : (Ty.slice tOp).rep wr (rfN w.heap.size ob (.slice ra rn rc)) [.slice oa ops.length oc] ops := Ty.keep _ HO.out (fun b h1 h2 => ⟨hS.heap h1, fun h => by
          rcases h with (h | h) | h
          · omega
          · omega
          · have := (hR.lt h).1; omega⟩)
      have HOR := Lib.hid hor
      clear hN hC hR hW hRb hS hwr hrl hrun hor hra
      by_cases hlt : k < ops.length
      · have hB : Step wr wr := Step.refl wr
        obtain ⟨pb, po, pes, rfl, phb, _, pu, pcu⟩ := Ty.slice_at HOR.out hlt
        obtain ⟨pc1, pc2, rfl, ph0, ph1, ph2, ph3⟩ := pu
        have pq0 := (Step.cell (w' := wr) (by (repeat (first | exact Step.refl _ | refine Step.alloc ?_ _ | refine Step.drew ?_ | refine Step.drewN ?_ _ | refine Step.setCell ?_ (by first | exact Nat.le_refl _ | assumption | omega | (simp; done) | (simp; omega)) _ | assumption | refine Step.trans ?_ (by assumption : Step _ _)))) phb _).trans (pcu 0 _ rfl)
        have pq1 := (Step.cell (w' := wr) (by (repeat (first | exact Step.refl _ | refine Step.alloc ?_ _ | refine Step.drew ?_ | refine Step.drewN ?_ _ | refine Step.setCell ?_ (by first | exact Nat.le_refl _ | assumption | omega | (simp; done) | (simp; omega)) _ | assumption | refine Step.trans ?_ (by assumption : Step _ _)))) phb _).trans (pcu 1 _ rfl)
        have pq2 := (Step.cell (w' := wr) (by (repeat (first | exact Step.refl _ | refine Step.alloc ?_ _ | refine Step.drew ?_ | refine Step.drewN ?_ _ | refine Step.setCell ?_ (by first | exact Nat.le_refl _ | assumption | omega | (simp; done) | (simp; omega)) _ | assumption | refine Step.trans ?_ (by assumption : Step _ _)))) phb _).trans (pcu 2 _ rfl)
        have pq3 := (Step.cell (w' := wr) (by (repeat (first | exact Step.refl _ | refine Step.alloc ?_ _ | refine Step.drew ?_ | refine Step.drewN ?_ _ | refine Step.setCell ?_ (by first | exact Nat.le_refl _ | assumption | omega | (simp; done) | (simp; omega)) _ | assumption | refine Step.trans ?_ (by assumption : Step _ _)))) phb _).trans (pcu 3 _ rfl)
        simp only [show tOp.n = 4 from rfl, Nat.add_zero] at pq0 pq1 pq2 pq3
        obtain ⟨pa1, pn1, rfl, _⟩ := Ty.slice_val ph1
        obtain ⟨pa2, pn2, rfl, _⟩ := Ty.slice_val ph2
        have pH0 := Lib.hid ph0
        have pH1 := Lib.hid ph1
        have pH2 := Lib.hid ph2
        have pH3 := Lib.hid ph3
        clear pcu ph0 ph1 ph2 ph3
        obtain ⟨hkd, hkl, hmo⟩ := HOK.out _ (List.getElem_mem hlt)
        have hdk : ops.drop k = ops[k] :: ops.drop (k + 1) := List.drop_eq_getElem_cons hlt
        have hP2 : RisP (overB P ws) := HP.out.over ws
        have hPl2 := overB_length (l := P) ws
        have hPl3 : (overB P ws).length ≤ 2000 := by omega
        have HP2 := Lib.hid hP2
        go_upto_region 10 with fail
        refine wp_code (fun wx => CellsAt wx wr.heap.size #[.int .i64 ops[k].kind, .slice pa1 ops[k].key.length pn1, .slice pa2 ops[k].value.length pn2, .int .i64 ops[k].most] 72 ∧ Step wr wx) ⟨CellsAt.new rfl, by (repeat (first | exact Step.refl _ | refine Step.alloc ?_ _ | refine Step.drew ?_ | refine Step.drewN ?_ _ | refine Step.setCell ?_ (by first | exact Nat.le_refl _ | assumption | omega | (simp; done) | (simp; omega)) _ | assumption | refine Step.trans ?_ (by assumption : Step _ _)))⟩ ?_
        rintro w3 ⟨hb3, hS3⟩
        have HB3 := Lib.hid hb3
        have x0 := hb3.cell 0
        have x1 := hb3.cell 1
        have x2 := hb3.cell 2
        have x3 := hb3.cell 3
        have hB3 := hS3
        obtain ⟨G, hG⟩ : ∃ G, G = getK DPair.key (overB P ws) ops[k].key := ⟨_, rfl⟩
        have hget := refGet_ (Ty.step _ HN.out hS3) (Ty.step _ pH1.out hS3)
        rw [← hG] at hget
        have HGET := Lib.hid hget
        have HG := Lib.hid hG
        clear hb3 hP2 hPl2 hget hG pq0 pq1 pq2 pq3
        go_cut [11, 12] (fun s11 s12 wx => ∃ (ga : Option Addr) (gn gc : Nat), s11 = .slice ga gn gc ∧ s12 = .bool G.isSome ∧ (∀ p, G = some p → Ty.bytes.rep wx (rfN w.heap.size ob (.slice ra rn rc)) [.slice ga gn gc] p.value) ∧ Step w3 wx)
        case first =>
          cases G with
          | none =>
            go_wp2_with (go_at_call 64; refine HGET.out.mono ?_; rintro e w4 ⟨⟨n4, rfl⟩, hE⟩; obtain rfl : e = _ := hE)
            go_meet
            case rel => exact ⟨_, _, _, rfl, rfl, (fun p h => by cases h), by (repeat (first | exact Step.refl _ | refine Step.alloc ?_ _ | refine Step.drew ?_ | refine Step.drewN ?_ _ | refine Step.setCell ?_ (by first | exact Nat.le_refl _ | assumption | omega | (simp; done) | (simp; omega)) _ | assumption | refine Step.trans ?_ (by assumption : Step _ _)))⟩
          | some p =>
            go_wp2_with (go_at_call 64; refine HGET.out.mono ?_; rintro e w4 ⟨⟨n4, rfl⟩, hE⟩; obtain ⟨v4, rfl, hv4⟩ := hE; obtain ⟨a4, c4, rfl, _⟩ := Ty.slice_val hv4; have HV4 := Lib.hid hv4; clear hv4)
            go_meet
            case rel => exact ⟨_, _, _, rfl, rfl, (fun q h => by cases h; exact Ty.step _ HV4.out (by (repeat (first | exact Step.refl _ | refine Step.alloc ?_ _ | refine Step.drew ?_ | refine Step.drewN ?_ _ | refine Step.setCell ?_ (by first | exact Nat.le_refl _ | assumption | omega | (simp; done) | (simp; omega)) _ | assumption | refine Step.trans ?_ (by assumption : Step _ _))))), by (repeat (first | exact Step.refl _ | refine Step.alloc ?_ _ | refine Step.drew ?_ | refine Step.drewN ?_ _ | refine Step.setCell ?_ (by first | exact Nat.le_refl _ | assumption | omega | (simp; done) | (simp; omega)) _ | assumption | refine Step.trans ?_ (by assumption : Step _ _)))⟩
        case rest =>
          obtain ⟨ga, gn, gc, rfl, rfl, hgv, hSg⟩ := hcut
          refine open_kk2 (by assumption) ?_
          have hB3c : Step wr wc := hS3.trans hSg
          have hbc := HB3.out.step hSg
          have y0 := hbc.cell 0
          have y1 := hbc.cell 1
          have y2 := hbc.cell 2
          have y3 := hbc.cell 3
          have HGV := Lib.hid hgv
          have HNc := Lib.hid (Ty.step _ HN.out hB3c)
          have HWc := Lib.hid (Ty.step _ HW.out hB3c)
          have HCc := Lib.hid (CellsAt.step HC.out hB3c)
          have HKc := Lib.hid (Ty.step _ pH1.out hB3c)
          have HVc := Lib.hid (Ty.step _ pH2.out hB3c)
          have c3 := HCc.out.cell 3
          have cf3 := HCc.out.frozen 3
          have hzc : wr.heap.size < wc.heap.size := hbc.lt
          have hobc : ob < wc.heap.size := HCc.out.lt
          have hrvl : ∀ g, (Value.slice ra rn rc).ownBlock = some g → ob + 1 ≤ g ∧ g < wr.heap.size := fun g hg => HR.out.lt hg
          have HRVL := Lib.hid hrvl
          have hMn : ∀ b, rfN w.heap.size ob (.slice ra rn rc) b → b < wr.heap.size := fun b h => by
            rcases h with (h | h) | h
            · omega
            · omega
            · exact (hrvl b h).2
          have HMN := Lib.hid hMn
          have HSw := Lib.hid (HS.out.trans hB3c)
          have HB3c := Lib.hid hB3c
          clear x0 x1 x2 x3 hbc hgv hB3c hB3 hS3 hSg hrvl hMn HGET HB3
          generalize ops[k] = o at *
          obtain ⟨kd, key, value, mo⟩ := o
          simp only at hkd hkl hmo HG y0 y1 y2 y3 HKc HVc ⊢
          obtain ⟨wp, hwp⟩ : ∃ x, x = wc := ⟨_, rfl⟩
          subst hwp
          go_upto_block 2 with fail
          go_cut [7, 13] (fun s7 s13 wx => ∃ (n2 t2 w2 : Option Addr) (nn nc2 tn tc wn wc2 : Nat) (ws' : List DWrite) (x : List DPair), s7 = .slice n2 nn nc2 ∧ s13 = .slice t2 tn tc ∧ doB P ws ⟨kd, key, value, mo⟩ = some (x, ws') ∧ (Ty.slice tPair).rep wx (rfN w.heap.size ob (.slice ra rn rc)) [.slice n2 nn nc2] (overB P ws') ∧ (Ty.slice tPair).rep wx (rfN w.heap.size ob (.slice ra rn rc)) [.slice t2 tn tc] x ∧
            CellsAt wx ob (outC 0 0 (.slice ra rn rc) (.slice w2 wn wc2)) 47 ∧ (Ty.slice tWrite).rep wx (rfN w.heap.size ob (.slice ra rn rc)) [.slice w2 wn wc2] ws' ∧ SameBut ob wp wx ∧ Step w wx)
          case first =>
            have hc : kd = 1 ∨ kd = 2 ∨ kd = 3 ∨ kd = 4 ∨ kd = 5 ∨ kd = 6 := by omega
            rcases hc with rfl | rfl | rfl | rfl | rfl | rfl
            · cases G with
              | none =>
                have HD := Lib.hid (show doB P ws ⟨1, key, value, mo⟩ = some ([], ws) by unfold doB; simp [← HG.out])
                rw [show (none : Option DPair).isSome = false from rfl]
                go_wp2
                go_meet
                case rel => exact ⟨_, _, _, _, _, _, _, _, _, _, _, rfl, rfl, HD.out, HNc.out, nil_repG, HCc.out, HWc.out, SameBut.refl _ _, HSw.out⟩
              | some p =>
                have hpk : p.key = key := (getK_some HG.out.symm).2
                have HD := Lib.hid (show doB P ws ⟨1, key, value, mo⟩ = some ([p], ws) by unfold doB; simp [← HG.out])
                have HGp := Lib.hid (HGV.out p rfl)
                have HKp : Hid (Ty.bytes.rep wp (rfN w.heap.size ob (.slice ra rn rc)) [.slice pa1 key.length pn1] p.key) := Lib.hid (by rw [hpk]; exact HKc.out)
                clear hpk
                rw [show (some p).isSome = true from rfl]
                go_wp2
                go_meet
                case rel =>
                  refine ⟨_, _, _, _, _, _, _, _, _, _, _, rfl, rfl, HD.out, Ty.step _ HNc.out (by (repeat (first | exact Step.refl _ | refine Step.alloc ?_ _ | refine Step.drew ?_ | refine Step.drewN ?_ _ | refine Step.setCell ?_ (by first | exact Nat.le_refl _ | assumption | omega | (simp; done) | (simp; omega)) _ | assumption | refine Step.trans ?_ (by assumption : Step _ _)))), ?_, CellsAt.step HCc.out (by (repeat (first | exact Step.refl _ | refine Step.alloc ?_ _ | refine Step.drew ?_ | refine Step.drewN ?_ _ | refine Step.setCell ?_ (by first | exact Nat.le_refl _ | assumption | omega | (simp; done) | (simp; omega)) _ | assumption | refine Step.trans ?_ (by assumption : Step _ _)))), Ty.step _ HWc.out (by (repeat (first | exact Step.refl _ | refine Step.alloc ?_ _ | refine Step.drew ?_ | refine Step.drewN ?_ _ | refine Step.setCell ?_ (by first | exact Nat.le_refl _ | assumption | omega | (simp; done) | (simp; omega)) _ | assumption | refine Step.trans ?_ (by assumption : Step _ _)))), SameBut.of (by (repeat (first | exact Step.refl _ | refine Step.alloc ?_ _ | refine Step.drew ?_ | refine Step.drewN ?_ _ | refine Step.setCell ?_ (by first | exact Nat.le_refl _ | assumption | omega | (simp; done) | (simp; omega)) _ | assumption | refine Step.trans ?_ (by assumption : Step _ _)))), HSw.out.trans (by (repeat (first | exact Step.refl _ | refine Step.alloc ?_ _ | refine Step.drew ?_ | refine Step.drewN ?_ _ | refine Step.setCell ?_ (by first | exact Nat.le_refl _ | assumption | omega | (simp; done) | (simp; omega)) _ | assumption | refine Step.trans ?_ (by assumption : Step _ _))))⟩
                  refine (Own.lit (E := tPair) (xs := [p]) (cs := #[.slice pa1 key.length pn1, .slice ga gn gc]) (B := 0) (M := rfN w.heap.size ob (.slice ra rn rc)) rfl (by simp [lim_eq]) (Nat.zero_le _) rfl (fun i hi => ?_)).rep' (fun b hb h => ?_)
                  · have h0 : i = 0 := by simpa using hi
                    subst h0
                    exact (show tPair.rep wp (rfN w.heap.size ob (.slice ra rn rc)) [.slice pa1 key.length pn1, .slice ga gn gc] p from ⟨_, _, rfl, HKp.out, HGp.out⟩)
                  · have := HMN.out b h
                    have hb' : wp.heap.size = b := by simpa [Value.ownBlock] using hb
                    omega
            · have HD := Lib.hid (show doB P ws ⟨2, key, value, mo⟩ = some ([], putK DWrite.key ⟨key, value, false⟩ ws) by unfold doB; simp)
              have hov : overB P (putK DWrite.key ⟨key, value, false⟩ ws) = putL DPair.key ⟨key, value⟩ false (overB P ws) := by rw [overB_put HP.out HWR.out, ← putW_eq HP2.out]
              have HOVE := Lib.hid hov
              have hnt : putL DWrite.key ⟨key, value, false⟩ false ws = putK DWrite.key ⟨key, value, false⟩ ws := putL_put HWR.out
              have HNT := Lib.hid hnt
              clear hov hnt
              go_wp2_with (first
                | (go_at_call 30; refine (refPut_ (M := rfN w.heap.size ob (.slice ra rn rc)) (g := false) (key := key) (value := value) (Ty.step _ HNc.out (by (repeat (first | exact Step.refl _ | refine Step.alloc ?_ _ | refine Step.drew ?_ | refine Step.drewN ?_ _ | refine Step.setCell ?_ (by first | exact Nat.le_refl _ | assumption | omega | (simp; done) | (simp; omega)) _ | assumption | refine Step.trans ?_ (by assumption : Step _ _))))) (Ty.step _ HKc.out (by (repeat (first | exact Step.refl _ | refine Step.alloc ?_ _ | refine Step.drew ?_ | refine Step.drewN ?_ _ | refine Step.setCell ?_ (by first | exact Nat.le_refl _ | assumption | omega | (simp; done) | (simp; omega)) _ | assumption | refine Step.trans ?_ (by assumption : Step _ _))))) (Ty.step _ HVc.out (by (repeat (first | exact Step.refl _ | refine Step.alloc ?_ _ | refine Step.drew ?_ | refine Step.drewN ?_ _ | refine Step.setCell ?_ (by first | exact Nat.le_refl _ | assumption | omega | (simp; done) | (simp; omega)) _ | assumption | refine Step.trans ?_ (by assumption : Step _ _))))) (by omega) (fun b h => Nat.lt_of_lt_of_le (HMN.out b h) (by simp; omega))).mono ?_; rintro e w5 ⟨v5, rfl, hA5, hS5⟩; obtain ⟨a5, n5, m5, rfl, HN5⟩ := hA5.valN; have s5_0 : ∀ j, w5.cell? ⟨wp.heap.size, j, none⟩ = _ := fun j => hS5.cell (by first | assumption | omega | (simp; done) | (simp; omega)) j; have s5_1 : ∀ j, w5.cell? ⟨ob, j, none⟩ = _ := fun j => hS5.cell (by first | assumption | omega | (simp; done) | (simp; omega)) j; have f5_1 : ∀ j, w5.frozen? ⟨ob, j, none⟩ = _ := fun j => hS5.frozen (by first | assumption | omega | (simp; done) | (simp; omega)) j; have z5 : wp.heap.size < w5.heap.size := Nat.lt_of_lt_of_le (by first | assumption | omega | (simp; done) | (simp; omega)) hS5.size; have HA5 := Lib.hid hA5; clear hA5)
                | (go_at_call 65; refine (refNote_ (M := rfN w.heap.size ob (.slice ra rn rc)) (g := false) (key := key) (value := value) (Ty.step _ HWc.out (by (repeat (first | exact Step.refl _ | refine Step.alloc ?_ _ | refine Step.drew ?_ | refine Step.drewN ?_ _ | refine Step.setCell ?_ (by first | exact Nat.le_refl _ | assumption | omega | (simp; done) | (simp; omega)) _ | assumption | refine Step.trans ?_ (by assumption : Step _ _))))) (Ty.step _ HKc.out (by (repeat (first | exact Step.refl _ | refine Step.alloc ?_ _ | refine Step.drew ?_ | refine Step.drewN ?_ _ | refine Step.setCell ?_ (by first | exact Nat.le_refl _ | assumption | omega | (simp; done) | (simp; omega)) _ | assumption | refine Step.trans ?_ (by assumption : Step _ _))))) (Ty.step _ HVc.out (by (repeat (first | exact Step.refl _ | refine Step.alloc ?_ _ | refine Step.drew ?_ | refine Step.drewN ?_ _ | refine Step.setCell ?_ (by first | exact Nat.le_refl _ | assumption | omega | (simp; done) | (simp; omega)) _ | assumption | refine Step.trans ?_ (by assumption : Step _ _))))) (by omega)).mono ?_; rintro e w6 ⟨v6, rfl, hA6, hS6⟩; obtain ⟨a6, n6, m6, rfl, HN6⟩ := hA6.valN; have s6_1 : ∀ j, w6.cell? ⟨ob, j, none⟩ = _ := fun j => hS6.cell (by first | assumption | omega | (simp; done) | (simp; omega)) j; have f6_1 : ∀ j, w6.frozen? ⟨ob, j, none⟩ = _ := fun j => hS6.frozen (by first | assumption | omega | (simp; done) | (simp; omega)) j; have HA6 := Lib.hid hA6; clear hA6))
              go_meet
              case rel =>
                have hSS : Step wp w6 := by (repeat (first | exact Step.refl _ | refine Step.alloc ?_ _ | refine Step.drew ?_ | refine Step.drewN ?_ _ | refine Step.setCell ?_ (by first | exact Nat.le_refl _ | assumption | omega | (simp; done) | (simp; omega)) _ | assumption | refine Step.trans ?_ (by assumption : Step _ _)))
                have hnm : ∀ (W : World), wp.heap.size ≤ W.heap.size → ∀ b, W.heap.size ≤ b → ¬ rfN w.heap.size ob (.slice ra rn rc) b := fun W hW b hb h => by have := HMN.out b h; omega
                refine ⟨_, _, _, _, _, _, _, _, _, _, _, rfl, rfl, HD.out, ?_, nil_repG, CellsAt.set (CellsAt.step HCc.out hSS) 3 _, ?_, fun b h1 h2 => (heap_setCell_other _ _ _ _ (fun e => h2 e)).trans (hSS.heap h1), (HSw.out.trans hSS).setCell (by show w.heap.size ≤ ob; omega) _⟩
                · rw [HOVE.out]
                  refine Ty.kept _ ((HA5.out.step hS6).rep' (fun b hb => ?_)) (Kept.setCell _ _ _ (.inl (.inr rfl)))
                  have := (HA5.out.lt hb).1
                  exact hnm wp (Nat.le_refl _) b (by simp at this; omega)
                · rw [← HNT.out]
                  refine Ty.kept _ (HA6.out.rep' (fun b hb => ?_)) (Kept.setCell _ _ _ (.inl (.inr rfl)))
                  have := (HA6.out.lt hb).1
                  exact hnm wp (Nat.le_refl _) b (by omega)
            · have HD := Lib.hid (show doB P ws ⟨3, key, value, mo⟩ = some ([], putK DWrite.key ⟨key, [], true⟩ ws) by unfold doB; simp)
              have hov : overB P (putK DWrite.key ⟨key, [], true⟩ ws) = putL DPair.key ⟨key, []⟩ true (overB P ws) := by rw [overB_put HP.out HWR.out, ← putW_eq HP2.out]
              have HOVE := Lib.hid hov
              have hnt : putL DWrite.key ⟨key, [], true⟩ false ws = putK DWrite.key ⟨key, [], true⟩ ws := putL_put HWR.out
              have HNT := Lib.hid hnt
              clear hov hnt
              go_wp2_with (first
                | (go_at_call 30; refine (refPut_ (M := rfN w.heap.size ob (.slice ra rn rc)) (g := true) (key := key) (value := ([] : List UInt8)) (Ty.step _ HNc.out (by (repeat (first | exact Step.refl _ | refine Step.alloc ?_ _ | refine Step.drew ?_ | refine Step.drewN ?_ _ | refine Step.setCell ?_ (by first | exact Nat.le_refl _ | assumption | omega | (simp; done) | (simp; omega)) _ | assumption | refine Step.trans ?_ (by assumption : Step _ _))))) (Ty.step _ HKc.out (by (repeat (first | exact Step.refl _ | refine Step.alloc ?_ _ | refine Step.drew ?_ | refine Step.drewN ?_ _ | refine Step.setCell ?_ (by first | exact Nat.le_refl _ | assumption | omega | (simp; done) | (simp; omega)) _ | assumption | refine Step.trans ?_ (by assumption : Step _ _))))) nil_rep (by omega) (fun b h => Nat.lt_of_lt_of_le (HMN.out b h) (by simp; omega))).mono ?_; rintro e w5 ⟨v5, rfl, hA5, hS5⟩; obtain ⟨a5, n5, m5, rfl, HN5⟩ := hA5.valN; have s5_0 : ∀ j, w5.cell? ⟨wp.heap.size, j, none⟩ = _ := fun j => hS5.cell (by first | assumption | omega | (simp; done) | (simp; omega)) j; have s5_1 : ∀ j, w5.cell? ⟨ob, j, none⟩ = _ := fun j => hS5.cell (by first | assumption | omega | (simp; done) | (simp; omega)) j; have f5_1 : ∀ j, w5.frozen? ⟨ob, j, none⟩ = _ := fun j => hS5.frozen (by first | assumption | omega | (simp; done) | (simp; omega)) j; have z5 : wp.heap.size < w5.heap.size := Nat.lt_of_lt_of_le (by first | assumption | omega | (simp; done) | (simp; omega)) hS5.size; have HA5 := Lib.hid hA5; clear hA5)
                | (go_at_call 65; refine (refNote_ (M := rfN w.heap.size ob (.slice ra rn rc)) (g := true) (key := key) (value := ([] : List UInt8)) (Ty.step _ HWc.out (by (repeat (first | exact Step.refl _ | refine Step.alloc ?_ _ | refine Step.drew ?_ | refine Step.drewN ?_ _ | refine Step.setCell ?_ (by first | exact Nat.le_refl _ | assumption | omega | (simp; done) | (simp; omega)) _ | assumption | refine Step.trans ?_ (by assumption : Step _ _))))) (Ty.step _ HKc.out (by (repeat (first | exact Step.refl _ | refine Step.alloc ?_ _ | refine Step.drew ?_ | refine Step.drewN ?_ _ | refine Step.setCell ?_ (by first | exact Nat.le_refl _ | assumption | omega | (simp; done) | (simp; omega)) _ | assumption | refine Step.trans ?_ (by assumption : Step _ _))))) nil_rep (by omega)).mono ?_; rintro e w6 ⟨v6, rfl, hA6, hS6⟩; obtain ⟨a6, n6, m6, rfl, HN6⟩ := hA6.valN; have s6_1 : ∀ j, w6.cell? ⟨ob, j, none⟩ = _ := fun j => hS6.cell (by first | assumption | omega | (simp; done) | (simp; omega)) j; have f6_1 : ∀ j, w6.frozen? ⟨ob, j, none⟩ = _ := fun j => hS6.frozen (by first | assumption | omega | (simp; done) | (simp; omega)) j; have HA6 := Lib.hid hA6; clear hA6))
              go_meet
              case rel =>
                have hSS : Step wp w6 := by (repeat (first | exact Step.refl _ | refine Step.alloc ?_ _ | refine Step.drew ?_ | refine Step.drewN ?_ _ | refine Step.setCell ?_ (by first | exact Nat.le_refl _ | assumption | omega | (simp; done) | (simp; omega)) _ | assumption | refine Step.trans ?_ (by assumption : Step _ _)))
                have hnm : ∀ (W : World), wp.heap.size ≤ W.heap.size → ∀ b, W.heap.size ≤ b → ¬ rfN w.heap.size ob (.slice ra rn rc) b := fun W hW b hb h => by have := HMN.out b h; omega
                refine ⟨_, _, _, _, _, _, _, _, _, _, _, rfl, rfl, HD.out, ?_, nil_repG, CellsAt.set (CellsAt.step HCc.out hSS) 3 _, ?_, fun b h1 h2 => (heap_setCell_other _ _ _ _ (fun e => h2 e)).trans (hSS.heap h1), (HSw.out.trans hSS).setCell (by show w.heap.size ≤ ob; omega) _⟩
                · rw [HOVE.out]
                  refine Ty.kept _ ((HA5.out.step hS6).rep' (fun b hb => ?_)) (Kept.setCell _ _ _ (.inl (.inr rfl)))
                  have := (HA5.out.lt hb).1
                  exact hnm wp (Nat.le_refl _) b (by simp at this; omega)
                · rw [← HNT.out]
                  refine Ty.kept _ (HA6.out.rep' (fun b hb => ?_)) (Kept.setCell _ _ _ (.inl (.inr rfl)))
                  have := (HA6.out.lt hb).1
                  exact hnm wp (Nat.le_refl _) b (by omega)
            · obtain ⟨n, rfl⟩ := Int.eq_ofNat_of_zero_le (show 0 ≤ mo by have := hmo rfl; omega)
              have hm4 := hmo rfl
              have HD := Lib.hid (show doB P ws ⟨4, key, value, (n : Int)⟩ = some (scanB (overB P ws) key value n, ws) by unfold doB; simp)
              have HSCN := Lib.hid (fun (W : World) (hW : Step wp W) => refScan_ (Ty.step _ HNc.out hW) (Ty.step _ HKc.out hW) (Ty.step _ HVc.out hW) (show 1 ≤ n by omega) (by omega))
              clear hm4 hmo
              go_wp2_with (go_at_call 66; refine (HSCN.out _ (by (repeat (first | exact Step.refl _ | refine Step.alloc ?_ _ | refine Step.drew ?_ | refine Step.drewN ?_ _ | refine Step.setCell ?_ (by first | exact Nat.le_refl _ | assumption | omega | (simp; done) | (simp; omega)) _ | assumption | refine Step.trans ?_ (by assumption : Step _ _))))).mono ?_; rintro e w5 ⟨v5, rfl, hA5, hS5⟩; obtain ⟨a5, n5, m5, rfl, HN5⟩ := hA5.valN; have HA5 := Lib.hid hA5; clear hA5)
              go_meet
              case rel =>
                refine ⟨_, _, _, _, _, _, _, _, _, _, _, rfl, rfl, HD.out, Ty.step _ HNc.out (by (repeat (first | exact Step.refl _ | refine Step.alloc ?_ _ | refine Step.drew ?_ | refine Step.drewN ?_ _ | refine Step.setCell ?_ (by first | exact Nat.le_refl _ | assumption | omega | (simp; done) | (simp; omega)) _ | assumption | refine Step.trans ?_ (by assumption : Step _ _)))), HA5.out.rep' (fun b hb h => ?_), CellsAt.step HCc.out (by (repeat (first | exact Step.refl _ | refine Step.alloc ?_ _ | refine Step.drew ?_ | refine Step.drewN ?_ _ | refine Step.setCell ?_ (by first | exact Nat.le_refl _ | assumption | omega | (simp; done) | (simp; omega)) _ | assumption | refine Step.trans ?_ (by assumption : Step _ _)))), Ty.step _ HWc.out (by (repeat (first | exact Step.refl _ | refine Step.alloc ?_ _ | refine Step.drew ?_ | refine Step.drewN ?_ _ | refine Step.setCell ?_ (by first | exact Nat.le_refl _ | assumption | omega | (simp; done) | (simp; omega)) _ | assumption | refine Step.trans ?_ (by assumption : Step _ _)))), SameBut.of (by (repeat (first | exact Step.refl _ | refine Step.alloc ?_ _ | refine Step.drew ?_ | refine Step.drewN ?_ _ | refine Step.setCell ?_ (by first | exact Nat.le_refl _ | assumption | omega | (simp; done) | (simp; omega)) _ | assumption | refine Step.trans ?_ (by assumption : Step _ _)))), HSw.out.trans (by (repeat (first | exact Step.refl _ | refine Step.alloc ?_ _ | refine Step.drew ?_ | refine Step.drewN ?_ _ | refine Step.setCell ?_ (by first | exact Nat.le_refl _ | assumption | omega | (simp; done) | (simp; omega)) _ | assumption | refine Step.trans ?_ (by assumption : Step _ _))))⟩
                have h1 := HMN.out b h
                have h2 := (HA5.out.lt hb).1
                omega
            · cases G with
              | none =>
                have HD := Lib.hid (show doB P ws ⟨5, key, value, mo⟩ = none by unfold doB; simp [← HG.out])
                have hrl2 : runL P [] [] 0 ops = ⟨12, k, [], []⟩ := by rw [← HRUN.out, hdk]; unfold runL; rw [HD.out]
                have HRL2 := Lib.hid hrl2
                have HRBX := Lib.hid (fun (W : World) (hW : Step wp W) => CellsAt.step (CellsAt.step HRb.out HB3c.out) hW)
                have r0 := (CellsAt.step HRb.out HB3c.out).cell 0
                have r1 := (CellsAt.step HRb.out HB3c.out).cell 1
                have r2 := (CellsAt.step HRb.out HB3c.out).cell 2
                have r3 := (CellsAt.step HRb.out HB3c.out).cell 3
                have q0 := (CellsAt.step HRb.out HB3c.out).frozen 0
                have q1 := (CellsAt.step HRb.out HB3c.out).frozen 1
                have q2 := (CellsAt.step HRb.out HB3c.out).frozen 2
                have q3 := (CellsAt.step HRb.out HB3c.out).frozen 3
                clear hrl2
                rw [show (none : Option DPair).isSome = false from rfl]
                go_wp2
                rw [HNX.out, HRL2.out]
                refine bodyPost_ret (v := .tuple #[.slice la P.length lc, .agg (outC 12 (k : Int) (.slice none 0 0) (.slice none 0 0))]) ?_ rfl ⟨_, _, _, rfl, ?_, nil_repG, nil_repG, ?_⟩
                · refine (results_tmp_row Try.results26 _ _ w.heap.size 47 (outC 12 (k : Int) (.slice none 0 0) (.slice none 0 0)) _ ?_ (CellsAt.set (CellsAt.set (CellsAt.set (CellsAt.set (HRBX.out _ (by (repeat (first | exact Step.refl _ | refine Step.alloc ?_ _ | refine Step.drew ?_ | refine Step.drewN ?_ _ | refine Step.setCell ?_ (by first | exact Nat.le_refl _ | assumption | omega | (simp; done) | (simp; omega)) _ | assumption | refine Step.trans ?_ (by assumption : Step _ _))))) 0 _) 1 _) 2 _) 3 _) Try.underlying47 rfl (by kernel_rfl)).trans ?_
                  · rfl
                  · rfl
                · refine Ty.keep _ HPP.out (fun b h1 h2 => ⟨?_, fun h => h⟩)
                  have hb0 : b ≠ w.heap.size := by omega
                  iterate 4 refine (heap_setCell_other _ _ _ _ (show b ≠ w.heap.size from hb0)).trans ?_
                  exact (HSw.out.trans (by (repeat (first | exact Step.refl _ | refine Step.alloc ?_ _ | refine Step.drew ?_ | refine Step.drewN ?_ _ | refine Step.setCell ?_ (by first | exact Nat.le_refl _ | assumption | omega | (simp; done) | (simp; omega)) _ | assumption | refine Step.trans ?_ (by assumption : Step _ _))))).heap h1
                · iterate 4 refine Step.setCell ?_ (Nat.le_refl _) _
                  exact HSw.out.trans (by (repeat (first | exact Step.refl _ | refine Step.alloc ?_ _ | refine Step.drew ?_ | refine Step.drewN ?_ _ | refine Step.setCell ?_ (by first | exact Nat.le_refl _ | assumption | omega | (simp; done) | (simp; omega)) _ | assumption | refine Step.trans ?_ (by assumption : Step _ _))))
              | some p =>
                have HGp := Lib.hid (HGV.out p rfl)
                have heq := fun (W : World) (hW : Step wp W) => Equal_ (Ty.step _ HGp.out hW) (Ty.step _ HVc.out hW)
                by_cases hpv : p.value = value
                · rw [show decide (p.value = value) = true from decide_eq_true hpv] at heq
                  have HEQ := Lib.hid heq
                  have HD := Lib.hid (show doB P ws ⟨5, key, value, mo⟩ = some ([], ws) by unfold doB; simp [← HG.out, hpv])
                  rw [show (some p).isSome = true from rfl]
                  go_wp2_with (go_at_call 67; refine (HEQ.out _ (by (repeat (first | exact Step.refl _ | refine Step.alloc ?_ _ | refine Step.drew ?_ | refine Step.drewN ?_ _ | refine Step.setCell ?_ (by first | exact Nat.le_refl _ | assumption | omega | (simp; done) | (simp; omega)) _ | assumption | refine Step.trans ?_ (by assumption : Step _ _))))).mono ?_; rintro e w5 ⟨rfl, n5, rfl⟩)
                  go_meet
                  case rel => exact ⟨_, _, _, _, _, _, _, _, _, _, _, rfl, rfl, HD.out, Ty.step _ HNc.out (by (repeat (first | exact Step.refl _ | refine Step.alloc ?_ _ | refine Step.drew ?_ | refine Step.drewN ?_ _ | refine Step.setCell ?_ (by first | exact Nat.le_refl _ | assumption | omega | (simp; done) | (simp; omega)) _ | assumption | refine Step.trans ?_ (by assumption : Step _ _)))), nil_repG, CellsAt.step HCc.out (by (repeat (first | exact Step.refl _ | refine Step.alloc ?_ _ | refine Step.drew ?_ | refine Step.drewN ?_ _ | refine Step.setCell ?_ (by first | exact Nat.le_refl _ | assumption | omega | (simp; done) | (simp; omega)) _ | assumption | refine Step.trans ?_ (by assumption : Step _ _)))), Ty.step _ HWc.out (by (repeat (first | exact Step.refl _ | refine Step.alloc ?_ _ | refine Step.drew ?_ | refine Step.drewN ?_ _ | refine Step.setCell ?_ (by first | exact Nat.le_refl _ | assumption | omega | (simp; done) | (simp; omega)) _ | assumption | refine Step.trans ?_ (by assumption : Step _ _)))), SameBut.of (by (repeat (first | exact Step.refl _ | refine Step.alloc ?_ _ | refine Step.drew ?_ | refine Step.drewN ?_ _ | refine Step.setCell ?_ (by first | exact Nat.le_refl _ | assumption | omega | (simp; done) | (simp; omega)) _ | assumption | refine Step.trans ?_ (by assumption : Step _ _)))), HSw.out.trans (by (repeat (first | exact Step.refl _ | refine Step.alloc ?_ _ | refine Step.drew ?_ | refine Step.drewN ?_ _ | refine Step.setCell ?_ (by first | exact Nat.le_refl _ | assumption | omega | (simp; done) | (simp; omega)) _ | assumption | refine Step.trans ?_ (by assumption : Step _ _))))⟩
                · rw [show decide (p.value = value) = false from decide_eq_false hpv] at heq
                  have HEQ := Lib.hid heq
                  have HD := Lib.hid (show doB P ws ⟨5, key, value, mo⟩ = none by unfold doB; simp [← HG.out, hpv])
                  have hrl2 : runL P [] [] 0 ops = ⟨12, k, [], []⟩ := by rw [← HRUN.out, hdk]; unfold runL; rw [HD.out]
                  have HRL2 := Lib.hid hrl2
                  have HRBX := Lib.hid (fun (W : World) (hW : Step wp W) => CellsAt.step (CellsAt.step HRb.out HB3c.out) hW)
                  have r0 := (CellsAt.step HRb.out HB3c.out).cell 0
                  have r1 := (CellsAt.step HRb.out HB3c.out).cell 1
                  have r2 := (CellsAt.step HRb.out HB3c.out).cell 2
                  have r3 := (CellsAt.step HRb.out HB3c.out).cell 3
                  have q0 := (CellsAt.step HRb.out HB3c.out).frozen 0
                  have q1 := (CellsAt.step HRb.out HB3c.out).frozen 1
                  have q2 := (CellsAt.step HRb.out HB3c.out).frozen 2
                  have q3 := (CellsAt.step HRb.out HB3c.out).frozen 3
                  clear hrl2
                  rw [show (some p).isSome = true from rfl]
                  go_wp2_with (go_at_call 67; refine (HEQ.out _ (by (repeat (first | exact Step.refl _ | refine Step.alloc ?_ _ | refine Step.drew ?_ | refine Step.drewN ?_ _ | refine Step.setCell ?_ (by first | exact Nat.le_refl _ | assumption | omega | (simp; done) | (simp; omega)) _ | assumption | refine Step.trans ?_ (by assumption : Step _ _))))).mono ?_; rintro e w5 ⟨rfl, n5, rfl⟩)
                  rw [HNX.out, HRL2.out]
                  refine bodyPost_ret (v := .tuple #[.slice la P.length lc, .agg (outC 12 (k : Int) (.slice none 0 0) (.slice none 0 0))]) ?_ rfl ⟨_, _, _, rfl, ?_, nil_repG, nil_repG, ?_⟩
                  · refine (results_tmp_row Try.results26 _ _ w.heap.size 47 (outC 12 (k : Int) (.slice none 0 0) (.slice none 0 0)) _ ?_ (CellsAt.set (CellsAt.set (CellsAt.set (CellsAt.set (HRBX.out _ (by (repeat (first | exact Step.refl _ | refine Step.alloc ?_ _ | refine Step.drew ?_ | refine Step.drewN ?_ _ | refine Step.setCell ?_ (by first | exact Nat.le_refl _ | assumption | omega | (simp; done) | (simp; omega)) _ | assumption | refine Step.trans ?_ (by assumption : Step _ _))))) 0 _) 1 _) 2 _) 3 _) Try.underlying47 rfl (by kernel_rfl)).trans ?_
                    · rfl
                    · rfl
                  · refine Ty.keep _ HPP.out (fun b h1 h2 => ⟨?_, fun h => h⟩)
                    have hb0 : b ≠ w.heap.size := by omega
                    iterate 4 refine (heap_setCell_other _ _ _ _ (show b ≠ w.heap.size from hb0)).trans ?_
                    exact (HSw.out.trans (by (repeat (first | exact Step.refl _ | refine Step.alloc ?_ _ | refine Step.drew ?_ | refine Step.drewN ?_ _ | refine Step.setCell ?_ (by first | exact Nat.le_refl _ | assumption | omega | (simp; done) | (simp; omega)) _ | assumption | refine Step.trans ?_ (by assumption : Step _ _))))).heap h1
                  · iterate 4 refine Step.setCell ?_ (Nat.le_refl _) _
                    exact HSw.out.trans (by (repeat (first | exact Step.refl _ | refine Step.alloc ?_ _ | refine Step.drew ?_ | refine Step.drewN ?_ _ | refine Step.setCell ?_ (by first | exact Nat.le_refl _ | assumption | omega | (simp; done) | (simp; omega)) _ | assumption | refine Step.trans ?_ (by assumption : Step _ _))))
            · cases G with
              | none =>
                have HD := Lib.hid (show doB P ws ⟨6, key, value, mo⟩ = some ([], ws) by unfold doB; simp [← HG.out])
                rw [show (none : Option DPair).isSome = false from rfl]
                go_wp2
                go_meet
                case rel => exact ⟨_, _, _, _, _, _, _, _, _, _, _, rfl, rfl, HD.out, Ty.step _ HNc.out (by (repeat (first | exact Step.refl _ | refine Step.alloc ?_ _ | refine Step.drew ?_ | refine Step.drewN ?_ _ | refine Step.setCell ?_ (by first | exact Nat.le_refl _ | assumption | omega | (simp; done) | (simp; omega)) _ | assumption | refine Step.trans ?_ (by assumption : Step _ _)))), nil_repG, CellsAt.step HCc.out (by (repeat (first | exact Step.refl _ | refine Step.alloc ?_ _ | refine Step.drew ?_ | refine Step.drewN ?_ _ | refine Step.setCell ?_ (by first | exact Nat.le_refl _ | assumption | omega | (simp; done) | (simp; omega)) _ | assumption | refine Step.trans ?_ (by assumption : Step _ _)))), Ty.step _ HWc.out (by (repeat (first | exact Step.refl _ | refine Step.alloc ?_ _ | refine Step.drew ?_ | refine Step.drewN ?_ _ | refine Step.setCell ?_ (by first | exact Nat.le_refl _ | assumption | omega | (simp; done) | (simp; omega)) _ | assumption | refine Step.trans ?_ (by assumption : Step _ _)))), SameBut.of (by (repeat (first | exact Step.refl _ | refine Step.alloc ?_ _ | refine Step.drew ?_ | refine Step.drewN ?_ _ | refine Step.setCell ?_ (by first | exact Nat.le_refl _ | assumption | omega | (simp; done) | (simp; omega)) _ | assumption | refine Step.trans ?_ (by assumption : Step _ _)))), HSw.out.trans (by (repeat (first | exact Step.refl _ | refine Step.alloc ?_ _ | refine Step.drew ?_ | refine Step.drewN ?_ _ | refine Step.setCell ?_ (by first | exact Nat.le_refl _ | assumption | omega | (simp; done) | (simp; omega)) _ | assumption | refine Step.trans ?_ (by assumption : Step _ _))))⟩
              | some p =>
                have HD := Lib.hid (show doB P ws ⟨6, key, value, mo⟩ = none by unfold doB; simp [← HG.out])
                have hrl2 : runL P [] [] 0 ops = ⟨12, k, [], []⟩ := by rw [← HRUN.out, hdk]; unfold runL; rw [HD.out]
                have HRL2 := Lib.hid hrl2
                have HRBX := Lib.hid (fun (W : World) (hW : Step wp W) => CellsAt.step (CellsAt.step HRb.out HB3c.out) hW)
                have r0 := (CellsAt.step HRb.out HB3c.out).cell 0
                have r1 := (CellsAt.step HRb.out HB3c.out).cell 1
                have r2 := (CellsAt.step HRb.out HB3c.out).cell 2
                have r3 := (CellsAt.step HRb.out HB3c.out).cell 3
                have q0 := (CellsAt.step HRb.out HB3c.out).frozen 0
                have q1 := (CellsAt.step HRb.out HB3c.out).frozen 1
                have q2 := (CellsAt.step HRb.out HB3c.out).frozen 2
                have q3 := (CellsAt.step HRb.out HB3c.out).frozen 3
                clear hrl2
                rw [show (some p).isSome = true from rfl]
                go_wp2
                rw [HNX.out, HRL2.out]
                refine bodyPost_ret (v := .tuple #[.slice la P.length lc, .agg (outC 12 (k : Int) (.slice none 0 0) (.slice none 0 0))]) ?_ rfl ⟨_, _, _, rfl, ?_, nil_repG, nil_repG, ?_⟩
                · refine (results_tmp_row Try.results26 _ _ w.heap.size 47 (outC 12 (k : Int) (.slice none 0 0) (.slice none 0 0)) _ ?_ (CellsAt.set (CellsAt.set (CellsAt.set (CellsAt.set (HRBX.out _ (by (repeat (first | exact Step.refl _ | refine Step.alloc ?_ _ | refine Step.drew ?_ | refine Step.drewN ?_ _ | refine Step.setCell ?_ (by first | exact Nat.le_refl _ | assumption | omega | (simp; done) | (simp; omega)) _ | assumption | refine Step.trans ?_ (by assumption : Step _ _))))) 0 _) 1 _) 2 _) 3 _) Try.underlying47 rfl (by kernel_rfl)).trans ?_
                  · rfl
                  · rfl
                · refine Ty.keep _ HPP.out (fun b h1 h2 => ⟨?_, fun h => h⟩)
                  have hb0 : b ≠ w.heap.size := by omega
                  iterate 4 refine (heap_setCell_other _ _ _ _ (show b ≠ w.heap.size from hb0)).trans ?_
                  exact (HSw.out.trans (by (repeat (first | exact Step.refl _ | refine Step.alloc ?_ _ | refine Step.drew ?_ | refine Step.drewN ?_ _ | refine Step.setCell ?_ (by first | exact Nat.le_refl _ | assumption | omega | (simp; done) | (simp; omega)) _ | assumption | refine Step.trans ?_ (by assumption : Step _ _))))).heap h1
                · iterate 4 refine Step.setCell ?_ (Nat.le_refl _) _
                  exact HSw.out.trans (by (repeat (first | exact Step.refl _ | refine Step.alloc ?_ _ | refine Step.drew ?_ | refine Step.drewN ?_ _ | refine Step.setCell ?_ (by first | exact Nat.le_refl _ | assumption | omega | (simp; done) | (simp; omega)) _ | assumption | refine Step.trans ?_ (by assumption : Step _ _))))
          case rest =>
            obtain ⟨n2, t2, w2a, nn, nc2, tn, tc, wn, wc2, ws', x, rfl, rfl, hd, hN2, hx, hC2, hW2, hsb, hS2⟩ := hcut
            refine open_kk2 (by assumption) ?_
            have hz2 := hC2.lt
            have hR2 := own_keepM (w' := wc) (M' := rfM w.heap.size ob) (HR.out.step HB3c.out) (fun g hg => hsb g (by have := (HRVL.out g hg).2; omega) (by have := (HRVL.out g hg).1; omega)) (fun b h1 h2 => ⟨hsb b h1 (fun e => h2 (.inr e)), h2⟩)
            have hRb2 := (CellsAt.step HRb.out HB3c.out).kept (hsb w.heap.size (by omega) (by omega))
            have hrl2 : runL P ws' (rows ++ [x]) (k + 1) (ops.drop (k + 1)) = runL P [] [] 0 ops := by
              rw [← HRUN.out, hdk]
              conv => rhs; unfold runL
              rw [hd]
            have HRL2 := Lib.hid hrl2
            have hwl2 := doB_length hd
            have HWR2 := Lib.hid (doB_rising HWR.out hd)
            have hlim6 : rows.length + 1 ≤ lim := by rw [HRL.out, lim_eq]; omega
            have g2 := hC2.cell 2
            have HN2 := Lib.hid hN2
            have HX2 := Lib.hid hx
            have HC2 := Lib.hid hC2
            have HW2 := Lib.hid hW2
            have HS2 := Lib.hid hS2
            have HR2 := Lib.hid hR2
            have HRb2 := Lib.hid hRb2
            clear hd hN2 hx hC2 hW2 hsb hS2 hR2 hRb2 hrl2 hdk y0 y1 y2 y3 c3 cf3
            go_wp2_with (at_builtin; refine wpList_append_gen (E := Ty.slice tPair) (B := ob + 1) (M := rfM w.heap.size ob) (xs := rows) (ys := [x]) rfl (.tmp 104) (.tmp 106) rfl stRowsP (HR2.out.alloc _) (Src.oneAt (E := Ty.slice tPair) (by simp) HX2.out) (by simpa using hlim6) (by simp; omega) rfl rfl ?_; intro v6 w6 hA6 hG6 hn6; have hC6 := (CellsAt.step HC2.out ((Step.refl _).alloc _)).kept (hG6.block ob (by first | assumption | omega | (simp; done) | (simp; omega)) (fun e => (by have := (HR2.out.lt e.symm).1; omega))); obtain ⟨a6, n6, c6, rfl, HN6⟩ := hA6.valN; have g26 := hC6.cell 2; have f26 := hC6.frozen 2; have HA6 := Lib.hid hA6; have HG6 := Lib.hid hG6; have HNN6 := Lib.hid hn6; clear hA6 hG6 hn6 hC6)
            go_roundw
            case rel => exact ⟨k + 1, by go_num, by omega, Lib.hid (RefAt_next (Nat.le_refl _) (by omega) HN2.out HC2.out HR2.out HW2.out HRb2.out HS2.out ((Step.refl _).alloc _) HA6.out HG6.out HNN6.out (by omega) HWR2.out (by rw [List.length_append, HRL.out]; rfl) HRL2.out)⟩
            case measure => ((try simp [Go.RowKit.intOf]); omega)
      · obtain rfl : k = ops.length := by omega
        have hfin : runL P [] [] 0 ops = ⟨0, 0, rows, ws⟩ := by rw [← HRUN.out, List.drop_length]; rfl
        have HFIN := Lib.hid hfin
        have e0 := HC.out.cell 0
        have e1 := HC.out.cell 1
        have e2 := HC.out.cell 2
        have e3 := HC.out.cell 3
        have k0 := HRb.out.cell 0
        have k1 := HRb.out.cell 1
        have k2 := HRb.out.cell 2
        have k3 := HRb.out.cell 3
        have f0 := HRb.out.frozen 0
        have f1 := HRb.out.frozen 1
        have f2 := HRb.out.frozen 2
        have f3 := HRb.out.frozen 3
        clear hfin
        go_upto_region 32 with fail
        refine wp_region_cut (S := (fun w' => w'.cell? ⟨ob, 0, none⟩ = some (.int .i64 0) ∧ w'.cell? ⟨ob, 1, none⟩ = some (.int .i64 0) ∧ w'.cell? ⟨ob, 2, none⟩ = some (.slice ra rn rc) ∧ w'.cell? ⟨ob, 3, none⟩ = some (.slice wa ws.length wcc))) 3 (by kernel_rfl) ?_ (fun hHeld => ?_)
        · (go_keep)
        refine wpAnyC_take (i := 0) (v := ?_) rfl (by kernel_rfl) (by kernel_rfl) (by kernel_rfl) (by decide) [2, 3] (by kernel_rfl) (fun _ _ _ h => h) (Or.inl ⟨by rfl, ?_⟩) (by assumption) ?_
        rotate_left 1
        · (intro w hSw; (try dsimp only at hSw); go_simp; (try with_reducible rfl))
        try simp only [Act.put, List.getElem_toArray, List.getElem_cons_succ, List.getElem_cons_zero, List.setIfInBounds_toArray, List.set_cons_zero, List.set_cons_succ]
        refine wpAnyC_take (i := 1) (v := ?_) rfl (by kernel_rfl) (by kernel_rfl) (by kernel_rfl) (by decide) [3] (by kernel_rfl) (fun _ _ _ h => h) (Or.inl ⟨by rfl, ?_⟩) (by assumption) ?_
        rotate_left 1
        · (intro w hSw; (try dsimp only at hSw); go_simp; (try with_reducible rfl))
        try simp only [Act.put, List.getElem_toArray, List.getElem_cons_succ, List.getElem_cons_zero, List.setIfInBounds_toArray, List.set_cons_zero, List.set_cons_succ]
        refine wpAnyC_take (i := 2) (v := ?_) rfl (by kernel_rfl) (by kernel_rfl) (by kernel_rfl) (by decide) [3] (by kernel_rfl) (fun _ _ _ h => h) (Or.inl ⟨by rfl, ?_⟩) (by assumption) ?_
        rotate_left 1
        · (intro w hSw; (try dsimp only at hSw); go_simp; (try with_reducible rfl))
        try simp only [Act.put, List.getElem_toArray, List.getElem_cons_succ, List.getElem_cons_zero, List.setIfInBounds_toArray, List.set_cons_zero, List.set_cons_succ]
        refine wpAnyC_ready (rs := [3]) (by kernel_rfl) (by simp) ?_
        refine AllReadyC.cut rfl (fun K hK => ?_)
        try simp only [List.getElem_toArray, List.getElem_cons_succ, List.getElem_cons_zero]
        go_simp
        refine hK.out _ _ trivial (fun hHeld => ?_)
        clear hK K
        try simp only [Act.put, List.getElem_toArray, List.getElem_cons_succ, List.getElem_cons_zero, List.setIfInBounds_toArray, List.set_cons_zero, List.set_cons_succ]
        have hTrue : True := trivial
        refine wpAnyH_done (by kernel_rfl) ?_ _
        go_wp2
        have hcs : CellsAt (World.drew ((((wr.setCell ⟨w.heap.size, 0, none⟩ (.int .i64 0)).setCell ⟨w.heap.size, 1, none⟩ (.int .i64 0)).setCell ⟨w.heap.size, 2, none⟩ (.slice ra rn rc)).setCell ⟨w.heap.size, 3, none⟩ (.slice wa ws.length wcc))) w.heap.size (outC 0 0 (.slice ra rn rc) (.slice wa ws.length wcc)) 47 := CellsAt.set (CellsAt.set (CellsAt.set (CellsAt.set HRb.out 0 (.int .i64 0)) 1 (.int .i64 0)) 2 (.slice ra rn rc)) 3 (.slice wa ws.length wcc)
        rw [HNX.out, HFIN.out]
        refine bodyPost_ret (v := .tuple #[.slice na (overB P ws).length nc, .agg (outC 0 0 (.slice ra rn rc) (.slice wa ws.length wcc))]) ?_ rfl ⟨_, _, _, rfl, ?_, ?_, ?_, ?_⟩
        · refine (results_tmp_row Try.results26 _ _ w.heap.size 47 (outC 0 0 (.slice ra rn rc) (.slice wa ws.length wcc)) _ ?_ hcs Try.underlying47 rfl (by kernel_rfl)).trans ?_
          · rfl
          · rfl
        · rw [if_neg (by simp)]
          refine Ty.less (M := rfN w.heap.size ob (.slice ra rn rc)) _ ?_ (fun b _ h => h.elim)
          refine Ty.step _ ?_ (Step.drew (Step.refl _))
          iterate 4 refine Ty.kept _ ?_ (Kept.setCell _ _ _ (.inl (.inl rfl)))
          exact Ty.step _ HN.out (by (repeat (first | exact Step.refl _ | refine Step.alloc ?_ _ | refine Step.drew ?_ | refine Step.drewN ?_ _ | refine Step.setCell ?_ (by first | exact Nat.le_refl _ | assumption | omega | (simp; done) | (simp; omega)) _ | assumption | refine Step.trans ?_ (by assumption : Step _ _))))
        · refine Ty.less (M := rfM w.heap.size ob) _ ?_ (fun b _ h => h.elim)
          refine Ty.step _ ?_ (Step.drew (Step.refl _))
          iterate 4 refine Ty.kept _ ?_ (Kept.setCell _ _ _ (.inl rfl))
          exact (HR.out.step (by (repeat (first | exact Step.refl _ | refine Step.alloc ?_ _ | refine Step.drew ?_ | refine Step.drewN ?_ _ | refine Step.setCell ?_ (by first | exact Nat.le_refl _ | assumption | omega | (simp; done) | (simp; omega)) _ | assumption | refine Step.trans ?_ (by assumption : Step _ _))))).rep' (fun b hb h => by have := (HR.out.lt hb).1; rcases h with h | h <;> omega)
        · refine Ty.less (M := rfN w.heap.size ob (.slice ra rn rc)) _ ?_ (fun b _ h => h.elim)
          refine Ty.step _ ?_ (Step.drew (Step.refl _))
          iterate 4 refine Ty.kept _ ?_ (Kept.setCell _ _ _ (.inl (.inl rfl)))
          exact Ty.step _ HW.out (by (repeat (first | exact Step.refl _ | refine Step.alloc ?_ _ | refine Step.drew ?_ | refine Step.drewN ?_ _ | refine Step.setCell ?_ (by first | exact Nat.le_refl _ | assumption | omega | (simp; done) | (simp; omega)) _ | assumption | refine Step.trans ?_ (by assumption : Step _ _))))
        · refine Step.drew ?_
          iterate 4 refine Step.setCell ?_ (Nat.le_refl _) _
          exact HS.out.trans (by (repeat (first | exact Step.refl _ | refine Step.alloc ?_ _ | refine Step.drew ?_ | refine Step.drewN ?_ _ | refine Step.setCell ?_ (by first | exact Nat.le_refl _ | assumption | omega | (simp; done) | (simp; omega)) _ | assumption | refine Step.trans ?_ (by assumption : Step _ _))))
  · have hrun : runB P ops = ⟨checkB ops, 0, [], []⟩ := by unfold runB; rw [if_pos hck]
    have hnx : nextB P ops = P := by unfold nextB; rw [hrun]; exact if_pos hck
    rw [hrun, hnx]
    obtain ⟨c, hc⟩ : ∃ c, c = checkB ops := ⟨_, rfl⟩
    rw [← hc]
    rw [← hc] at hck
    have HCK := Lib.hid hc
    have hne : ((c : Int) != 0) = true := by rw [bne_iff_ne]; exact hck
    clear hp ho hP hck hrun hnx hc
    go_enter Try.func26, Try.ntmps26
    go_wp2_with (go_at_call 12; refine (refCheck_ (Ty.step _ HO.out (by (repeat (first | exact Step.refl _ | refine Step.alloc ?_ _ | refine Step.drew ?_ | refine Step.drewN ?_ _ | refine Step.setCell ?_ (by first | exact Nat.le_refl _ | assumption | omega | (simp; done) | (simp; omega)) _ | assumption | refine Step.trans ?_ (by assumption : Step _ _)))))).mono ?_; rintro e w1 ⟨rfl, hS1⟩; rw [← check_same, ← HCK.out]; have hRb := CellsAt.step (CellsAt.new (w := w) (cs := outC 0 0 (.slice none 0 0) (.slice none 0 0)) (e := 47) rfl) hS1; have k0 := hRb.cell 0; have k1 := hRb.cell 1; have k2 := hRb.cell 2; have k3 := hRb.cell 3; have f0 := hRb.frozen 0; have f1 := hRb.frozen 1; have f2 := hRb.frozen 2; have f3 := hRb.frozen 3; have HRb := Lib.hid hRb; have HS1 := Lib.hid hS1; clear hRb hS1)
    refine bodyPost_ret (v := .tuple #[.slice la P.length lc, .agg (outC c 0 (.slice none 0 0) (.slice none 0 0))]) ?_ rfl ⟨_, _, _, rfl, ?_, nil_repG, nil_repG, ?_⟩
    · refine (results_tmp_row Try.results26 _ _ w.heap.size 47 (outC c 0 (.slice none 0 0) (.slice none 0 0)) _ ?_ (CellsAt.set (CellsAt.set (CellsAt.set (CellsAt.set HRb.out 0 _) 1 _) 2 _) 3 _) Try.underlying47 rfl (by kernel_rfl)).trans ?_
      · rfl
      · rfl
    · refine Ty.keep _ HPP.out (fun b h1 h2 => ⟨?_, fun h => h⟩)
      have hb0 : b ≠ w.heap.size := by omega
      iterate 4 refine (heap_setCell_other _ _ _ _ (show b ≠ w.heap.size from hb0)).trans ?_
      exact (((Step.refl w).alloc _).trans HS1.out).heap h1
    · iterate 4 refine Step.setCell ?_ (Nat.le_refl _) _
      exact ((Step.refl w).alloc _).trans HS1.out
end Go.Proofs.Ythflkfgiclcdiaa
