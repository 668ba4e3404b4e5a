/-
  Walk: a request in parts comes to the same as in one piece (BranchParts).
-/
import Derived.Test.YthflkfgiclcdiaaZB34
import Derived.Test.YthflkfgiclcdiaaZB33
import Derived.Test.YthflkfgiclcdiaaZB35
import Derived.Test.YthflkfgiclcdiaaZB18
import Derived.Test.YthflkfgiclcdiaaZB13
set_option linter.unusedVariables false
set_option linter.unusedSimpArgs false
namespace Go.Proofs.Ythflkfgiclcdiaa
open Go.RowKit Go.Gr Go.Sort
set_option linter.unusedSimpArgs false
set_option linter.unusedVariables false
/-- The shard of the part ahead; -1: there is none. -/
def lastS (l : List DPart) : Nat → Int
  | 0 => -1
  | k + 1 => (l[k]?.map DPart.shard).getD (-1)
theorem lastS_succ {l : List DPart} {k : Nat} (h : k < l.length) : lastS l (k + 1) = l[k].shard := by
  show (l[k]?.map DPart.shard).getD (-1) = _
  rw [List.getElem?_eq_getElem h]
  rfl
theorem step_of_drew {w w' : World} {n : Nat} (h : w' = w.drewN n) : Step w w' := by
  rw [h]
  exact (Step.refl _).drewN n
theorem lastS_lt {sp : List (List UInt8)} {ops : List DOp} (hG : GoodSp sp) {k : Nat} (h : k < (partsB sp ops (sp.length + 1)).length) : lastS (partsB sp ops (sp.length + 1)) k < (partsB sp ops (sp.length + 1))[k].shard := by
  rcases k with _ | k
  · obtain ⟨s, _, hs⟩ := (partsB_ok hG _ (List.getElem_mem h)).sh
    show (-1 : Int) < _
    rw [hs]
    omega
  · rw [lastS_succ (by omega)]
    have := rise_at (partsB_shards sp ops (sp.length + 1)) (i := k) (by rw [List.length_map]; exact h)
    simpa using this
set_option maxRecDepth 100000 in
set_option maxHeartbeats 8000000 in
theorem branchParts_ {w : World} {M M' M'' : Nat → Prop} {wv sv ov : Value} {ws : List DWrite} {sp : List (List UInt8)} {ops : List DOp} (hw : (Ty.slice tWrite).rep w M [wv] ws) (hs : (Ty.slice Ty.bytes).rep w M' [sv] sp) (ho : (Ty.slice tOp).rep w M'' [ov] ops) :
    Calls Try.prog 6 #[wv, sv, ov] w fun e w' => e = .returned (.bool true) ∧ Step w w' := by
  obtain ⟨wa, wc0, rfl, _⟩ := Ty.slice_val hw
  obtain ⟨sa, sc, rfl, _, _, hsl⟩ := Ty.slice_val hs
  obtain ⟨oa, oc, rfl, _⟩ := Ty.slice_val ho
  rw [lim_eq] at hsl
  have HWS := Lib.hid hw
  have HSP := Lib.hid hs
  have HOP := Lib.hid ho
  clear hw hs ho
  obtain ⟨q, hq⟩ : ∃ q, q = ops.take 16 := ⟨_, rfl⟩
  have hql : q.length ≤ 16 := by rw [hq, List.length_take]; omega
  have HQ := Lib.hid hq
  clear hq
  obtain ⟨c0, hc0⟩ : ∃ c, splitsB sp = c := ⟨_, rfl⟩
  have HS0 := Lib.hid hc0
  by_cases hsp : c0 = 0
  · subst hsp
    by_cases hck : checkRef q = 0
    · have hG := GoodSp.of hc0
      have hsp3 := hG.len
      have HGS := Lib.hid hG
      have HC0 := Lib.hid hck
      have hcb := (check_same q).trans hck
      have HCB := Lib.hid hcb
      obtain ⟨P, hPe⟩ : ∃ P, P = storedB ws := ⟨_, rfl⟩
      have HP := Lib.hid (hPe ▸ stored_rising ws : RisP P)
      have hPl : P.length ≤ 60 := hPe ▸ stored_len ws
      have HPE := Lib.hid hPe
      obtain ⟨D, hD⟩ : ∃ D, runB P q = D := ⟨_, rfl⟩
      have HD := Lib.hid hD
      clear hG hc0 hck hcb hPe hD
      go_enter Try.func6, Try.ntmps6
      go_upto_region 8 with (first
        | (go_at_call 23; refine (lawAwake_ w).mono ?_; rintro e w1 ⟨rfl, hS1⟩)
        | (go_at_call 33; refine (Copies_ _ _ _ sp (Ty.step _ HSP.out (by (repeat (first | exact Step.refl _ | refine Step.alloc ?_ _ | refine Step.drew ?_ | refine Step.drewN ?_ _ | refine Step.setCell ?_ (by first | exact Nat.le_refl _ | assumption | omega | (simp; done) | (simp; omega)) _ | assumption | refine Step.trans ?_ (by assumption : Step _ _)))))).mono ?_; rintro e w1c ⟨v1c, rfl, h1c, hS1c⟩; have h1c' := (Own.less (M' := fun _ => False) h1c (fun _ _ h => h.elim)).rep' (fun _ _ h => h); obtain ⟨xa, xc, rfl, _⟩ := Ty.slice_val h1c'; have HSC := Lib.hid h1c'; clear h1c h1c')
        | (go_at_call 36; refine (brSplits_ HSC.out).mono ?_; rintro e w1d ⟨rfl, rfl⟩; rw [HS0.out])
        | (go_at_call 10; refine (Few_ (n := 16) (Ty.step _ HOP.out (by (repeat (first | exact Step.refl _ | refine Step.alloc ?_ _ | refine Step.drew ?_ | refine Step.drewN ?_ _ | refine Step.setCell ?_ (by first | exact Nat.le_refl _ | assumption | omega | (simp; done) | (simp; omega)) _ | assumption | refine Step.trans ?_ (by assumption : Step _ _))))) (by omega)).mono ?_; rintro e w3 ⟨v3, rfl, h3, rfl⟩; rw [← HQ.out] at h3; obtain ⟨qa, qc, rfl, _⟩ := Ty.slice_val h3; have HQR := Lib.hid h3; clear h3)
        | (go_at_call 11; refine (refSplits_ (Ty.step _ HSP.out (by (repeat (first | exact Step.refl _ | refine Step.alloc ?_ _ | refine Step.drew ?_ | refine Step.drewN ?_ _ | refine Step.setCell ?_ (by first | exact Nat.le_refl _ | assumption | omega | (simp; done) | (simp; omega)) _ | assumption | refine Step.trans ?_ (by assumption : Step _ _)))))).mono ?_; rintro e w4 ⟨rfl, n4, hw4⟩; have hS4 := step_of_drew hw4; clear hw4 n4; rw [HS0.out])
        | (go_at_call 12; refine (refCheck_ (Ty.step _ HQR.out (by (repeat (first | exact Step.refl _ | refine Step.alloc ?_ _ | refine Step.drew ?_ | refine Step.drewN ?_ _ | refine Step.setCell ?_ (by first | exact Nat.le_refl _ | assumption | omega | (simp; done) | (simp; omega)) _ | assumption | refine Step.trans ?_ (by assumption : Step _ _)))))).mono ?_; rintro e w5 ⟨rfl, hS5⟩; rw [HC0.out]))
      go_upto_region 9 with (go_at_call 24; refine (stored_ (Ty.step _ HWS.out (by (repeat (first | exact Step.refl _ | refine Step.alloc ?_ _ | refine Step.drew ?_ | refine Step.drewN ?_ _ | refine Step.setCell ?_ (by first | exact Nat.le_refl _ | assumption | omega | (simp; done) | (simp; omega)) _ | assumption | refine Step.trans ?_ (by assumption : Step _ _)))))).mono ?_; rintro e w2 ⟨v2, rfl, h2, hS2⟩; rw [← HPE.out] at h2; obtain ⟨la, lc, rfl, _⟩ := Ty.slice_val h2; have HL := Lib.hid h2; clear h2)
      have hw32 : Step w3 w2 := by (repeat (first | exact Step.refl _ | refine Step.alloc ?_ _ | refine Step.drew ?_ | refine Step.drewN ?_ _ | refine Step.setCell ?_ (by first | exact Nat.le_refl _ | assumption | omega | (simp; done) | (simp; omega)) _ | assumption | refine Step.trans ?_ (by assumption : Step _ _)))
      have hw2 : Step w w2 := by (repeat (first | exact Step.refl _ | refine Step.alloc ?_ _ | refine Step.drew ?_ | refine Step.drewN ?_ _ | refine Step.setCell ?_ (by first | exact Nat.le_refl _ | assumption | omega | (simp; done) | (simp; omega)) _ | assumption | refine Step.trans ?_ (by assumption : Step _ _)))
      have HW2 := Lib.hid hw2
      have HQ2 := Lib.hid (Ty.step _ HQR.out hw32)
      have HS2 := Lib.hid (Ty.step _ HSP.out hw2)
      clear hw2 hw32 hS1 hS1c hS5 hS2 HQR HSP HOP HWS HSC
      go_upto_region 10 with (first
        | (go_at_call 33; refine (Copies_ _ _ _ sp HS2.out).mono ?_; rintro e w7 ⟨v7, rfl, h7, hS7⟩; have h7' := (Own.less (M' := fun _ => False) h7 (fun _ _ h => h.elim)).rep' (fun _ _ h => h); obtain ⟨ca, cc, rfl, _⟩ := Ty.slice_val h7'; have HC7 := Lib.hid h7'; clear h7 h7')
        | (go_at_call 14; refine (OwnOps_ _ _ _ q (Ty.step _ HQ2.out (by (repeat (first | exact Step.refl _ | refine Step.alloc ?_ _ | refine Step.drew ?_ | refine Step.drewN ?_ _ | refine Step.setCell ?_ (by first | exact Nat.le_refl _ | assumption | omega | (simp; done) | (simp; omega)) _ | assumption | refine Step.trans ?_ (by assumption : Step _ _)))))).mono ?_; rintro e w8 ⟨v8, rfl, h8, hS8⟩; have h8' := (Own.less (M' := fun _ => False) h8 (fun _ _ h => h.elim)).rep' (fun _ _ h => h); obtain ⟨ga, gc, rfl, _⟩ := Ty.slice_val h8'; have HG8 := Lib.hid h8'; clear h8 h8')
        | (go_at_call 32; refine (Parts_ _ (fun _ => False) _ _ sp q (Ty.step _ HC7.out (by (repeat (first | exact Step.refl _ | refine Step.alloc ?_ _ | refine Step.drew ?_ | refine Step.drewN ?_ _ | refine Step.setCell ?_ (by first | exact Nat.le_refl _ | assumption | omega | (simp; done) | (simp; omega)) _ | assumption | refine Step.trans ?_ (by assumption : Step _ _))))) (Ty.step _ HG8.out (by (repeat (first | exact Step.refl _ | refine Step.alloc ?_ _ | refine Step.drew ?_ | refine Step.drewN ?_ _ | refine Step.setCell ?_ (by first | exact Nat.le_refl _ | assumption | omega | (simp; done) | (simp; omega)) _ | assumption | refine Step.trans ?_ (by assumption : Step _ _))))) (by omega) (by omega)).mono ?_; rintro e w9 ⟨v9, rfl, h9, hS9⟩; have h9' := (Own.less (M' := fun _ => False) h9 (fun _ _ h => h.elim)).rep' (fun _ _ h => h); obtain ⟨pa, pc, rfl, _⟩ := Ty.slice_val h9'; have HP9 := Lib.hid h9'; clear h9 h9'))
      have hw9 : Step w2 w9 := by (repeat (first | exact Step.refl _ | refine Step.alloc ?_ _ | refine Step.drew ?_ | refine Step.drewN ?_ _ | refine Step.setCell ?_ (by first | exact Nat.le_refl _ | assumption | omega | (simp; done) | (simp; omega)) _ | assumption | refine Step.trans ?_ (by assumption : Step _ _)))
      have HW9 := Lib.hid hw9
      have hpl16 : (partsB sp q (sp.length + 1)).length ≤ 16 := Nat.le_trans partsB_le (by omega)
      have hpok : ∀ p ∈ partsB sp q (sp.length + 1), PartOk sp q p := partsB_ok HGS.out
      have hplt : ∀ k (h : k < (partsB sp q (sp.length + 1)).length), lastS (partsB sp q (sp.length + 1)) k < (partsB sp q (sp.length + 1))[k].shard := fun k h => lastS_lt HGS.out h
      have holen : (outsB P sp q).length = (partsB sp q (sp.length + 1)).length := outsB_len
      have hoat : ∀ i (h : i < (partsB sp q (sp.length + 1)).length) (h2 : i < (outsB P sp q).length), (outsB P sp q)[i] = runB (shardB P sp (partsB sp q (sp.length + 1))[i].shard.toNat) (partsB sp q (sp.length + 1))[i].ops := fun i h h2 => outsB_at h h2
      have hoir : ∀ o ∈ outsB P sp q, I64 o.err ∧ I64 o.at_ := outs_range HGS.out HCB.out (by omega)
      have hjn : ∀ (V : World) (ov pv cv : Value), (Ty.slice tOp).rep V (fun _ => False) [ov] q → (Ty.slice tPart).rep V (fun _ => False) [pv] (partsB sp q (sp.length + 1)) → (Ty.slice tOutcome).rep V (fun _ => False) [cv] (outsB P sp q) →
          Calls Try.prog 35 #[ov, pv, cv] V fun x w' => ∃ rv xv, x = .returned (.agg (jC D.err D.at_ rv xv)) ∧ (Ty.slice (Ty.slice tPair)).rep w' (fun _ => False) [rv] D.rows ∧ (Ty.slice tWrite).rep w' (fun _ => False) [xv] D.writes ∧ Step V w' := fun V ov pv cv h1 h2 h3 => by
        have h := joinParts_ (w := V) (Z := fun _ => False) HP.out HGS.out HCB.out h1 h2 h3 (fun b h => h.elim)
        rw [HD.out] at h
        exact h
      obtain ⟨PS, hPS⟩ : ∃ PS, partsB sp q (sp.length + 1) = PS := ⟨_, rfl⟩
      obtain ⟨OS, hOS⟩ : ∃ OS, outsB P sp q = OS := ⟨_, rfl⟩
      rw [hPS] at HP9 hpl16 hpok hplt holen hoat hjn
      rw [hOS] at holen hoat hoir hjn
      rw [hPS]
      have HPOK := Lib.hid hpok
      have HPLT := Lib.hid hplt
      have HOLEN := Lib.hid holen
      have HOAT := Lib.hid hoat
      have HOIR := Lib.hid hoir
      have HJN := Lib.hid hjn
      clear hw9 hS7 hS8 hS9 HC7 HG8 hpok hplt holen hoat hoir hjn hPS hOS
      go_wp2
      go_loopw [9, 10, 45] (fun o lv i w' => ∃ k : Nat, i = .int .i64 k ∧ k ≤ PS.length ∧ lv = .int .i64 (lastS PS k) ∧ Gr.Own tOutcome 41 w' (fun _ => False) w9.heap.size o (OS.take k) ∧ Step w9 w') (fun _ _ i _ => PS.length - (Go.RowKit.intOf i).toNat)
      case atStart => exact ⟨0, rfl, by omega, rfl, Gr.Own.nil, Step.refl _⟩
      case round =>
        obtain ⟨k, rfl, hk, rfl, hA, hS⟩ := hrel
        obtain ⟨ra, rn, rc, rfl, HRN⟩ := hA.valN
        have HA := Lib.hid hA
        clear hA
        obtain ⟨wo, hwo⟩ : ∃ x, x = wr := ⟨_, rfl⟩
        subst hwo
        by_cases hlt2 : k < PS.length
        · have hB := hS
          obtain ⟨pb, po, pes, rfl, phb, _, pu, pcu⟩ := Ty.slice_at HP9.out hlt2
          obtain ⟨pc1, pc2, rfl, ph0, ph1, ph2⟩ := pu
          have pq0 := (Step.cell (w' := wo) (by (repeat (first | exact Step.refl _ | refine Step.alloc ?_ _ | refine Step.drew ?_ | refine Step.drewN ?_ _ | refine Step.setCell ?_ (by first | exact Nat.le_refl _ | assumption | omega | (simp; done) | (simp; omega)) _ | assumption | refine Step.trans ?_ (by assumption : Step _ _)))) phb _).trans (pcu 0 _ rfl)
          have pq1 := (Step.cell (w' := wo) (by (repeat (first | exact Step.refl _ | refine Step.alloc ?_ _ | refine Step.drew ?_ | refine Step.drewN ?_ _ | refine Step.setCell ?_ (by first | exact Nat.le_refl _ | assumption | omega | (simp; done) | (simp; omega)) _ | assumption | refine Step.trans ?_ (by assumption : Step _ _)))) phb _).trans (pcu 1 _ rfl)
          have pq2 := (Step.cell (w' := wo) (by (repeat (first | exact Step.refl _ | refine Step.alloc ?_ _ | refine Step.drew ?_ | refine Step.drewN ?_ _ | refine Step.setCell ?_ (by first | exact Nat.le_refl _ | assumption | omega | (simp; done) | (simp; omega)) _ | assumption | refine Step.trans ?_ (by assumption : Step _ _)))) phb _).trans (pcu 2 _ rfl)
          simp only [show tPart.n = 3 from rfl, Nat.add_zero] at pq0 pq1 pq2
          obtain ⟨pa1, pn1, rfl, _⟩ := Ty.slice_val ph1
          obtain ⟨pa2, pn2, rfl, _⟩ := Ty.slice_val ph2
          have pH0 := Lib.hid ph0
          have pH1 := Lib.hid ph1
          have pH2 := Lib.hid ph2
          clear pcu ph0 ph1 ph2
          have hok := HPOK.out _ (List.getElem_mem hlt2)
          have hll := HPLT.out k hlt2
          have hls := lastS_succ hlt2
          have hok2 : k < OS.length := by rw [HOLEN.out]; exact hlt2
          have hat := HOAT.out k hlt2 hok2
          have hir := HOIR.out _ (List.getElem_mem hok2)
          have htk := List.take_succ_eq_append_getElem hok2
          have hp1 := pH1.out
          have hp2 := pH2.out
          obtain ⟨O, hO⟩ : ∃ O, OS[k] = O := ⟨_, rfl⟩
          rw [hO] at hat hir htk
          obtain ⟨pt, hpt⟩ : ∃ pt, PS[k] = pt := ⟨_, rfl⟩
          rw [hpt] at hat hp1 hp2 hok hll hls pq0 pq1 pq2
          clear hpt hO pH1 pH2
          obtain ⟨s, hs1, hsh⟩ := hok.sh
          rw [hsh] at hll hls pq0
          rw [hsh, Int.toNat_natCast] at hat
          have hpl := hok.len
          rw [hpl] at pq2 hp2
          obtain ⟨L, hL⟩ : ∃ L, lastS PS k = L := ⟨_, rfl⟩
          rw [hL] at hll ⊢
          have hne0 := hok.ne
          have hfew := hok.few
          have HLS := Lib.hid hls
          have HIR := Lib.hid hir
          have HTK := Lib.hid htk
          have HOK := Lib.hid hok
          have HP1 := Lib.hid hp1
          have HP2 := Lib.hid hp2
          have HAT := Lib.hid hat
          have HSH0 := Lib.hid hsh
          have HSo := Lib.hid hS
          clear hls hir htk hok hat hsh hL hpl hB hS hp1 hp2
          have hd1 : decide ((s : Int) ≤ L) = false := decide_eq_false (by omega)
          have hd2 : decide ((sp.length : Int) < (s : Int)) = false := decide_eq_false (by omega)
          have hd3 : ((pt.ops.length : Int) == 0) = false := beq_eq_false_iff_ne.2 (by omega)
          go_upto_region 15 with fail
          refine wp_code (fun wx => Step wo wx ∧ CellsAt wx wo.heap.size #[.int .i64 (s : Int), .slice pa1 pt.ops.length pn1, .slice pa2 pt.ops.length pn2] 84) ?_ ?_
          · exact ⟨by (repeat (first | exact Step.refl _ | refine Step.alloc ?_ _ | refine Step.drew ?_ | refine Step.drewN ?_ _ | refine Step.setCell ?_ (by first | exact Nat.le_refl _ | assumption | omega | (simp; done) | (simp; omega)) _ | assumption | refine Step.trans ?_ (by assumption : Step _ _))), CellsAt.new rfl⟩
          rintro w10 ⟨hS10, hC10⟩
          have c0 : w10.cell? ⟨wo.heap.size, 0, none⟩ = some (.int .i64 (s : Int)) := hC10.cell 0
          have c1 : w10.cell? ⟨wo.heap.size, 1, none⟩ = some (.slice pa1 pt.ops.length pn1) := hC10.cell 1
          have c2 : w10.cell? ⟨wo.heap.size, 2, none⟩ = some (.slice pa2 pt.ops.length pn2) := hC10.cell 2
          have hz10 := hC10.lt
          have HC10 := Lib.hid hC10
          clear pq0 pq1 pq2 hC10
          go_wp2
          go_loopw [80] (fun i w' => ∃ j : Nat, i = .int .i64 j ∧ j ≤ pt.ops.length ∧ Step w10 w') (fun i _ => pt.ops.length - (Go.RowKit.intOf i).toNat)
          case atStart => exact ⟨0, rfl, by omega, Step.refl _⟩
          case round =>
            obtain ⟨j, rfl, hj, hSj⟩ := hrel
            have d0 := (hSj.cell hz10 0).trans c0
            have d1 := (hSj.cell hz10 1).trans c1
            have d2 := (hSj.cell hz10 2).trans c2
            have hS9r : Step w9 wr := HSo.out.trans (hS10.trans hSj)
            have zor : wo.heap.size < wr.heap.size := Nat.lt_of_lt_of_le hz10 hSj.size
            by_cases hlt3 : j < pt.ops.length
            · have hB := hS9r
              obtain ⟨ob, oo, oes, rfl, ohb, _, ou, ocu⟩ := Ty.slice_at HP1.out hlt3
              obtain ⟨oc1, oc2, rfl, oh0, oh1, oh2, oh3⟩ := ou
              have oq0 := (Step.cell (w' := wr) (by (repeat (first | exact Step.refl _ | refine Step.alloc ?_ _ | refine Step.drew ?_ | refine Step.drewN ?_ _ | refine Step.setCell ?_ (by first | exact Nat.le_refl _ | assumption | omega | (simp; done) | (simp; omega)) _ | assumption | refine Step.trans ?_ (by assumption : Step _ _)))) ohb _).trans (ocu 0 _ rfl)
              have oq1 := (Step.cell (w' := wr) (by (repeat (first | exact Step.refl _ | refine Step.alloc ?_ _ | refine Step.drew ?_ | refine Step.drewN ?_ _ | refine Step.setCell ?_ (by first | exact Nat.le_refl _ | assumption | omega | (simp; done) | (simp; omega)) _ | assumption | refine Step.trans ?_ (by assumption : Step _ _)))) ohb _).trans (ocu 1 _ rfl)
              have oq2 := (Step.cell (w' := wr) (by (repeat (first | exact Step.refl _ | refine Step.alloc ?_ _ | refine Step.drew ?_ | refine Step.drewN ?_ _ | refine Step.setCell ?_ (by first | exact Nat.le_refl _ | assumption | omega | (simp; done) | (simp; omega)) _ | assumption | refine Step.trans ?_ (by assumption : Step _ _)))) ohb _).trans (ocu 2 _ rfl)
              have oq3 := (Step.cell (w' := wr) (by (repeat (first | exact Step.refl _ | refine Step.alloc ?_ _ | refine Step.drew ?_ | refine Step.drewN ?_ _ | refine Step.setCell ?_ (by first | exact Nat.le_refl _ | assumption | omega | (simp; done) | (simp; omega)) _ | assumption | refine Step.trans ?_ (by assumption : Step _ _)))) ohb _).trans (ocu 3 _ rfl)
              simp only [show tOp.n = 4 from rfl, Nat.add_zero] at oq0 oq1 oq2 oq3
              obtain ⟨oa1, on1, rfl, _⟩ := Ty.slice_val oh1
              obtain ⟨oa2, on2, rfl, _⟩ := Ty.slice_val oh2
              have oH0 := Lib.hid oh0
              have oH1 := Lib.hid oh1
              have oH2 := Lib.hid oh2
              have oH3 := Lib.hid oh3
              clear ocu oh0 oh1 oh2 oh3
              have hlt4 : j < pt.index.length := by rw [HOK.out.len]; exact hlt3
              obtain ⟨zb, zo, zu, rfl, hzb, _, hzu, hzc0⟩ := Ty.slice_at1 rfl HP2.out hlt4
              obtain ⟨hzu1, _⟩ := hzu
              obtain rfl : zu = .int .i64 pt.index[j] := by simpa using hzu1
              have hzc := (hS9r.cell hzb _).trans hzc0
              clear hzu1 hzc0
              obtain ⟨g, hg, eidx, ekind, eroute⟩ := HOK.out.at_ j hlt3 hlt4
              rw [eidx] at hzc
              rw [ekind] at oq0
              have hS2r : Step w2 wr := HW9.out.trans hS9r
              have hB2 := hB
              clear hB
              have hB := hS2r
              obtain ⟨yb, yo, yes, rfl, yhb, _, yu, ycu⟩ := Ty.slice_at HQ2.out hg
              obtain ⟨yc1, yc2, rfl, yh0, yh1, yh2, yh3⟩ := yu
              have yq0 := (Step.cell (w' := wr) (by (repeat (first | exact Step.refl _ | refine Step.alloc ?_ _ | refine Step.drew ?_ | refine Step.drewN ?_ _ | refine Step.setCell ?_ (by first | exact Nat.le_refl _ | assumption | omega | (simp; done) | (simp; omega)) _ | assumption | refine Step.trans ?_ (by assumption : Step _ _)))) yhb _).trans (ycu 0 _ rfl)
              have yq1 := (Step.cell (w' := wr) (by (repeat (first | exact Step.refl _ | refine Step.alloc ?_ _ | refine Step.drew ?_ | refine Step.drewN ?_ _ | refine Step.setCell ?_ (by first | exact Nat.le_refl _ | assumption | omega | (simp; done) | (simp; omega)) _ | assumption | refine Step.trans ?_ (by assumption : Step _ _)))) yhb _).trans (ycu 1 _ rfl)
              have yq2 := (Step.cell (w' := wr) (by (repeat (first | exact Step.refl _ | refine Step.alloc ?_ _ | refine Step.drew ?_ | refine Step.drewN ?_ _ | refine Step.setCell ?_ (by first | exact Nat.le_refl _ | assumption | omega | (simp; done) | (simp; omega)) _ | assumption | refine Step.trans ?_ (by assumption : Step _ _)))) yhb _).trans (ycu 2 _ rfl)
              have yq3 := (Step.cell (w' := wr) (by (repeat (first | exact Step.refl _ | refine Step.alloc ?_ _ | refine Step.drew ?_ | refine Step.drewN ?_ _ | refine Step.setCell ?_ (by first | exact Nat.le_refl _ | assumption | omega | (simp; done) | (simp; omega)) _ | assumption | refine Step.trans ?_ (by assumption : Step _ _)))) yhb _).trans (ycu 3 _ rfl)
              simp only [show tOp.n = 4 from rfl, Nat.add_zero] at yq0 yq1 yq2 yq3
              obtain ⟨ya1, yn1, rfl, _⟩ := Ty.slice_val yh1
              obtain ⟨ya2, yn2, rfl, _⟩ := Ty.slice_val yh2
              have yH0 := Lib.hid yh0
              have yH1 := Lib.hid yh1
              have yH2 := Lib.hid yh2
              have yH3 := Lib.hid yh3
              clear ycu yh0 yh1 yh2 yh3
              have hrt : (routeB sp pt.ops[j].key : Int) = (s : Int) := eroute.trans HSH0.out
              have hRT : ∀ (V : World), Step wr V → Calls Try.prog 37 #[.slice sa sp.length sc, .slice oa1 pt.ops[j].key.length on1] V fun e w' => e = .returned (.int .i64 (s : Int)) ∧ ∃ n, w' = V.drewN n := fun V hV => by
                rw [← hrt]
                exact refRoute_ (Ty.step _ HS2.out (hS2r.trans hV)) (Ty.step _ oH1.out (hS9r.trans hV))
              have HRT := Lib.hid hRT
              clear hRT
              have z9r := hS9r.size
              have z2r := hS2r.size
              have hzbr : zb < wr.heap.size := by omega
              have hybr : yb < wr.heap.size := by omega
              have hobr : ob < wr.heap.size := by omega
              have e1 : (0 : Int) ≤ (g : Int) := by omega
              have e2 : (g : Int) < (q.length : Int) := by omega
              have e10 : decide ((g : Int) < 0) = false := decide_eq_false (by omega)
              have e11 : decide ((q.length : Int) ≤ (g : Int)) = false := decide_eq_false (by omega)
              have e11n : decide (q.length ≤ g) = false := decide_eq_false (by omega)
              have e12 : (0 : Int) ≤ (j : Int) := by omega
              have e13 : (j : Int) < (pt.ops.length : Int) := by omega
              clear ekind eroute hrt hB hB2
              by_cases hj0 : j = 0
              · have hd0 : decide ((0 : Int) < (j : Int)) = false := decide_eq_false (by omega)
                have hd0n : decide (0 < j) = false := decide_eq_false (by omega)
                clear hj0 eidx
                go_upto_region 22 with fail
                go_big_quiet ((go_at_call 37; exact Calls.quiet_of (HRT.out _ (by (repeat (first | exact Step.refl _ | refine Step.alloc ?_ _ | refine Step.drew ?_ | refine Step.drewN ?_ _ | refine Step.setCell ?_ (by first | exact Nat.le_refl _ | assumption | omega | (simp; done) | (simp; omega)) _ | assumption | refine Step.trans ?_ (by assumption : Step _ _)))))))
                go_wp2
                go_roundw
                case rel => exact ⟨j + 1, by go_num, by omega, by (repeat (first | exact Step.refl _ | refine Step.alloc ?_ _ | refine Step.drew ?_ | refine Step.drewN ?_ _ | refine Step.setCell ?_ (by first | exact Nat.le_refl _ | assumption | omega | (simp; done) | (simp; omega)) _ | assumption | refine Step.trans ?_ (by assumption : Step _ _)))⟩
                case measure => ((try simp [Go.RowKit.intOf]); omega)
              · obtain ⟨j', rfl⟩ : ∃ j', j = j' + 1 := ⟨j - 1, by omega⟩
                have hlt5 : j' < pt.index.length := by omega
                obtain ⟨zb2, zo2, zu2, hz2e, hzb2, _, hzu2, hzc20⟩ := Ty.slice_at1 rfl HP2.out hlt5
                simp only [Option.some.injEq, Addr.mk.injEq, and_true] at hz2e
                obtain ⟨rfl, rfl⟩ := hz2e
                obtain ⟨hzu21, _⟩ := hzu2
                obtain rfl : zu2 = .int .i64 pt.index[j'] := by simpa using hzu21
                have hzc2 := (hS9r.cell hzb2 _).trans hzc20
                obtain ⟨g2, hg2, eidx2, _, _⟩ := HOK.out.at_ j' (by omega) hlt5
                have hrs := rise_at HOK.out.ris (i := j') hlt4
                rw [eidx2, eidx] at hrs
                rw [eidx2] at hzc2
                have e3 : (0 : Int) ≤ (j' : Int) := by omega
                have e4 : (j' : Int) < (pt.ops.length : Int) := by omega
                have e5 : (0 : Int) < (j' : Int) + 1 := by omega
                have e6 : (j' : Int) + 1 < (pt.ops.length : Int) := by omega
                have e7 : (0 : Int) ≤ (j' : Int) + 1 := by omega
                have e8 : ((j' : Int) + 1).toNat = j' + 1 := by omega
                have e9 : IntKind.i64.wrap (j' : Int) = (j' : Int) := IntWalk.i64_in _ (by omega)
                have e14 : decide ((g : Int) ≤ (g2 : Int)) = false := decide_eq_false (by omega)
                have e14n : decide (g ≤ g2) = false := decide_eq_false (by omega)
                have hd0 : decide ((0 : Int) < (j' : Int) + 1) = true := decide_eq_true e5
                clear hj0 eidx eidx2 hzu21 hzc20
                go_upto_region 22 with fail
                go_big_quiet ((go_at_call 37; exact Calls.quiet_of (HRT.out _ (by (repeat (first | exact Step.refl _ | refine Step.alloc ?_ _ | refine Step.drew ?_ | refine Step.drewN ?_ _ | refine Step.setCell ?_ (by first | exact Nat.le_refl _ | assumption | omega | (simp; done) | (simp; omega)) _ | assumption | refine Step.trans ?_ (by assumption : Step _ _)))))))
                go_wp2
                go_roundw
                case rel => exact ⟨j' + 1 + 1, by go_num, by omega, by (repeat (first | exact Step.refl _ | refine Step.alloc ?_ _ | refine Step.drew ?_ | refine Step.drewN ?_ _ | refine Step.setCell ?_ (by first | exact Nat.le_refl _ | assumption | omega | (simp; done) | (simp; omega)) _ | assumption | refine Step.trans ?_ (by assumption : Step _ _)))⟩
                case measure => ((try simp [Go.RowKit.intOf]); omega)
            · obtain rfl : j = pt.ops.length := by omega
              have z9o := HSo.out.size
              have z2o := HW9.out.size
              have hlim : (OS.take k).length + 1 ≤ lim := by
                rw [List.length_take, lim_eq]
                omega
              obtain ⟨Y, hYe⟩ : ∃ Y : Nat → Prop, Y = fun b => False ∨ (Value.slice ra rn rc).ownBlock = some b := ⟨_, rfl⟩
              have hYb : ∀ b, Y b → w9.heap.size ≤ b ∧ b < wo.heap.size := fun b hb => by
                rw [hYe] at hb
                exact HA.out.lt (hb.resolve_left id)
              have hLY : (Ty.slice tPair).rep wr Y [.slice la P.length lc] P := Ty.young HL.out (HW9.out.trans hS9r) (fun b hb => by have := (hYb b hb).1; omega)
              have hSY := Ty.young (Y := Y) HS2.out (HW9.out.trans hS9r) (fun b hb => by have := (hYb b hb).1; omega)
              have hOY : (Ty.slice tOp).rep wr Y [.slice pa1 pt.ops.length pn1] pt.ops := Ty.young HP1.out hS9r (fun b hb => (hYb b hb).1)
              have HSH := Lib.hid (fun (V : World) (hV : Step wr V) => refShard_ (s := s) (Ty.step _ hLY hV) (Ty.step _ hSY hV))
              have hbr : ∀ (V : World) (lv : Value), Step wr V → (Ty.slice tPair).rep V Y [lv] (shardB P sp s) →
                  Calls Try.prog 25 #[.iface 62 (.pointer (some ⟨V.heap.size, 0, none⟩)), .slice pa1 pt.ops.length pn1] (V.alloc (.cells #[lv, .slice none 0 0, .int .i64 0] 65)) fun e w' => ∃ rv xv, e = .returned (.agg (outC O.err O.at_ rv xv)) ∧
                    (Ty.slice (Ty.slice tPair)).rep w' Y [rv] O.rows ∧ (Ty.slice tWrite).rep w' Y [xv] O.writes ∧ Step V w' := fun V lv hV hl => by
                have h := brPart_ (Y := Y) (W := V) (fun b hb => by have := (hYb b hb).2; have := hV.size; omega) hl (Ty.step _ hOY hV) (shardB_rising HP.out sp s) (by have := shardB_len P sp s; omega)
                rw [← HAT.out] at h
                exact h
              have HBR := Lib.hid hbr
              have HYB := Lib.hid hYb
              have HYE := Lib.hid hYe
              have HS9R := Lib.hid hS9r
              have HSOR : Hid (Step wo wr) := Lib.hid (hS10.trans hSj)
              clear hLY hSY hOY hbr hYb hYe hS9r hSj hS10 c0 c1 c2
              go_upto_region 25 with fail
              refine wp_region_held_drew (S := (fun w' => w'.cell? ⟨wo.heap.size, 0, none⟩ = some (.int .i64 (s : Int)) ∧ w'.cell? ⟨wo.heap.size, 1, none⟩ = some (.slice pa1 pt.ops.length pn1))) (by kernel_rfl) ?_ (fun hHeld => ?_)
              · (go_keep)
              refine wpAnyH_take (i := 0) (v := ?_) rfl (by kernel_rfl) (by kernel_rfl) (by kernel_rfl) (fun _ _ _ h => h) (Or.inl ⟨by rfl, ?_⟩) (by assumption) ?_
              rotate_left 1
              · (intro w hSw; (try dsimp only at hSw); go_simp; (try with_reducible rfl))
              try simp only [Act.put, List.getElem_toArray, List.getElem_cons_succ, List.getElem_cons_zero, List.setIfInBounds_toArray, List.set_cons_zero, List.set_cons_succ]
              refine wpAnyH_take (i := 1) (v := ?_) rfl (by kernel_rfl) (by kernel_rfl) (by kernel_rfl) (fun _ _ _ h => h) (Or.inl ⟨by rfl, ?_⟩) (by assumption) ?_
              rotate_left 1
              · (intro w hSw; (try dsimp only at hSw); go_simp; (try with_reducible rfl))
              try simp only [Act.put, List.getElem_toArray, List.getElem_cons_succ, List.getElem_cons_zero, List.setIfInBounds_toArray, List.set_cons_zero, List.set_cons_succ]
              refine wpAnyH_take (i := 2) (v := ?_) rfl (by kernel_rfl) (by kernel_rfl) (by kernel_rfl) (fun _ _ _ h => h) (Or.inl ⟨by rfl, ?_⟩) (by assumption) ?_
              rotate_left 1
              · (intro w hSw; (try dsimp only at hSw); go_simp; (try with_reducible rfl))
              try simp only [Act.put, List.getElem_toArray, List.getElem_cons_succ, List.getElem_cons_zero, List.setIfInBounds_toArray, List.set_cons_zero, List.set_cons_succ]
              refine wpAnyH_take (i := 3) (v := ?_) rfl (by kernel_rfl) (by kernel_rfl) (by kernel_rfl) (fun _ _ _ h => h) (Or.inl ⟨by rfl, ?_⟩) (by assumption) ?_
              rotate_left 1
              · (intro w hSw; (try dsimp only at hSw); go_simp; (try with_reducible rfl))
              try simp only [Act.put, List.getElem_toArray, List.getElem_cons_succ, List.getElem_cons_zero, List.setIfInBounds_toArray, List.set_cons_zero, List.set_cons_succ]
              refine wpAnyH_take (i := 4) (v := ?_) rfl (by kernel_rfl) (by kernel_rfl) (by kernel_rfl) (fun _ _ _ h => h) (Or.inl ⟨by rfl, ?_⟩) (by assumption) ?_
              rotate_left 1
              · (intro w hSw; (try dsimp only at hSw); go_simp; (try with_reducible rfl))
              try simp only [Act.put, List.getElem_toArray, List.getElem_cons_succ, List.getElem_cons_zero, List.setIfInBounds_toArray, List.set_cons_zero, List.set_cons_succ]
              refine wpAnyH_take (i := 9) (v := ?_) rfl (by kernel_rfl) (by kernel_rfl) (by kernel_rfl) (fun _ _ _ h => h) (Or.inl ⟨by rfl, ?_⟩) (by assumption) ?_
              rotate_left 1
              · (intro w hSw; (try dsimp only at hSw); go_simp; (try with_reducible rfl))
              try simp only [Act.put, List.getElem_toArray, List.getElem_cons_succ, List.getElem_cons_zero, List.setIfInBounds_toArray, List.set_cons_zero, List.set_cons_succ]
              refine wpAnyH_take (i := 10) (v := ?_) rfl (by kernel_rfl) (by kernel_rfl) (by kernel_rfl) (fun _ _ _ h => h) (Or.inl ⟨by rfl, ?_⟩) (by assumption) ?_
              rotate_left 1
              · (intro w hSw; (try dsimp only at hSw); go_simp; (try with_reducible rfl))
              try simp only [Act.put, List.getElem_toArray, List.getElem_cons_succ, List.getElem_cons_zero, List.setIfInBounds_toArray, List.set_cons_zero, List.set_cons_succ]
              refine wpAnyH_ready (rs := [5]) (by kernel_rfl) (by simp) ?_
              refine AllReadyH.cons rfl (fun K hK => ?_) AllReadyH.nil
              try simp only [List.getElem_toArray, List.getElem_cons_succ, List.getElem_cons_zero]
              go_simp
              (go_at_call 34; refine (HSH.out _ (by (repeat (first | exact Step.refl _ | refine Step.alloc ?_ _ | refine Step.drew ?_ | refine Step.drewN ?_ _ | refine Step.setCell ?_ (by first | exact Nat.le_refl _ | assumption | omega | (simp; done) | (simp; omega)) _ | assumption | refine Step.trans ?_ (by assumption : Step _ _))))).mono ?_; rintro e w20 ⟨v20, rfl, hA20, hS20⟩; obtain ⟨a20, n20, c20, rfl, HN20⟩ := hA20.valN; have HR20 := Lib.hid (hA20.rep' (fun b hb hy => (by have h1 := (hA20.lt hb).1; have h2 := (HYB.out b hy).2; (try simp only [World.size_alloc, World.size_drew] at h1); omega))); clear hA20; have z20 : wo.heap.size < w20.heap.size := Nat.lt_of_lt_of_le (by first | assumption | omega | (simp; done) | (simp; omega)) hS20.size; have s20 : ∀ j, w20.cell? ⟨wo.heap.size, j, none⟩ = _ := fun j => hS20.cell (by first | assumption | omega | (simp; done) | (simp; omega)) j)
              refine hK.out _ _ ?_ (fun hHeld => ?_)
              · (go_keep)
              clear hK K
              try simp only [Act.put, List.getElem_toArray, List.getElem_cons_succ, List.getElem_cons_zero, List.setIfInBounds_toArray, List.set_cons_zero, List.set_cons_succ]
              refine wpAnyH_take (i := 6) (v := ?_) rfl (by kernel_rfl) (by kernel_rfl) (by kernel_rfl) (fun _ _ _ h => h) (Or.inl ⟨by rfl, ?_⟩) (by assumption) ?_
              rotate_left 1
              · (intro w hSw; (try dsimp only at hSw); go_simp; (try with_reducible rfl))
              try simp only [Act.put, List.getElem_toArray, List.getElem_cons_succ, List.getElem_cons_zero, List.setIfInBounds_toArray, List.set_cons_zero, List.set_cons_succ]
              refine wpAnyH_ready (rs := [7]) (by kernel_rfl) (by simp) ?_
              refine AllReadyH.cons rfl (fun K hK => ?_) AllReadyH.nil
              try simp only [List.getElem_toArray, List.getElem_cons_succ, List.getElem_cons_zero]
              go_simp
              refine hK.out _ _ ?_ (fun hHeld => ?_)
              · (go_keep)
              clear hK K
              try simp only [Act.put, List.getElem_toArray, List.getElem_cons_succ, List.getElem_cons_zero, List.setIfInBounds_toArray, List.set_cons_zero, List.set_cons_succ]
              refine wpAnyH_ready (rs := [8]) (by kernel_rfl) (by simp) ?_
              refine AllReadyH.cons rfl (fun K hK => ?_) AllReadyH.nil
              try simp only [List.getElem_toArray, List.getElem_cons_succ, List.getElem_cons_zero]
              go_simp
              refine hK.out _ _ ?_ (fun hHeld => ?_)
              · (go_keep)
              clear hK K
              try simp only [Act.put, List.getElem_toArray, List.getElem_cons_succ, List.getElem_cons_zero, List.setIfInBounds_toArray, List.set_cons_zero, List.set_cons_succ]
              refine wpAnyH_ready (rs := [11]) (by kernel_rfl) (by simp) ?_
              refine AllReadyH.cons rfl (fun K hK => ?_) AllReadyH.nil
              try simp only [List.getElem_toArray, List.getElem_cons_succ, List.getElem_cons_zero]
              go_simp
              (go_at_call 25; refine (HBR.out w20 _ (by (repeat (first | exact Step.refl _ | refine Step.alloc ?_ _ | refine Step.drew ?_ | refine Step.drewN ?_ _ | refine Step.setCell ?_ (by first | exact Nat.le_refl _ | assumption | omega | (simp; done) | (simp; omega)) _ | assumption | refine Step.trans ?_ (by assumption : Step _ _)))) HR20.out).mono ?_; rintro e w21 ⟨rv1, xv1, rfl, hr21, hx21, hS21⟩; obtain ⟨ra21, rc21, rfl, _⟩ := Ty.slice_val hr21; obtain ⟨xa21, xc21, rfl, _⟩ := Ty.slice_val hx21; have HR21 := Lib.hid hr21; have HX21 := Lib.hid hx21; clear hr21 hx21; have z21 : wo.heap.size < w21.heap.size := Nat.lt_of_lt_of_le (by first | assumption | omega | (simp; done) | (simp; omega)) hS21.size; have s21 : ∀ j, w21.cell? ⟨wo.heap.size, j, none⟩ = _ := fun j => hS21.cell (by first | assumption | omega | (simp; done) | (simp; omega)) j)
              refine hK.out _ _ ?_ (fun hHeld => ?_)
              · (go_keep)
              clear hK K
              try simp only [Act.put, List.getElem_toArray, List.getElem_cons_succ, List.getElem_cons_zero, List.setIfInBounds_toArray, List.set_cons_zero, List.set_cons_succ]
              refine wpAnyH_ready (rs := [12]) (by kernel_rfl) (by simp) ?_
              refine AllReadyH.cons rfl (fun K hK => ?_) AllReadyH.nil
              try simp only [List.getElem_toArray, List.getElem_cons_succ, List.getElem_cons_zero]
              go_simp
              refine hK.out _ _ ?_ (fun hHeld => ?_)
              · (go_keep)
              clear hK K
              try simp only [Act.put, List.getElem_toArray, List.getElem_cons_succ, List.getElem_cons_zero, List.setIfInBounds_toArray, List.set_cons_zero, List.set_cons_succ]
              refine wpAnyH_ready (rs := [13]) (by kernel_rfl) (by simp) ?_
              refine AllReadyH.cons rfl (fun K hK => ?_) AllReadyH.nil
              try simp only [List.getElem_toArray, List.getElem_cons_succ, List.getElem_cons_zero]
              refine ite_then rfl ?_; refine wp_append_gen (E := tOutcome) (B := w9.heap.size) (M := fun _ => False) (ys := [O]) (.tmp 132) (.tmp 144) rfl stOuts (Own.step HA.out (HSOR.out.trans (by (repeat (first | exact Step.refl _ | refine Step.alloc ?_ _ | refine Step.drew ?_ | refine Step.drewN ?_ _ | refine Step.setCell ?_ (by first | exact Nat.le_refl _ | assumption | omega | (simp; done) | (simp; omega)) _ | assumption | refine Step.trans ?_ (by assumption : Step _ _)))))) (Src.oneAt (E := tOutcome) (by simp) ⟨_, _, rfl, HIR.out.1, HIR.out.2, Ty.step _ (HYE.out ▸ HR21.out) (by (repeat (first | exact Step.refl _ | refine Step.alloc ?_ _ | refine Step.drew ?_ | refine Step.drewN ?_ _ | refine Step.setCell ?_ (by first | exact Nat.le_refl _ | assumption | omega | (simp; done) | (simp; omega)) _ | assumption | refine Step.trans ?_ (by assumption : Step _ _)))), Ty.step _ (HYE.out ▸ HX21.out) (by (repeat (first | exact Step.refl _ | refine Step.alloc ?_ _ | refine Step.drew ?_ | refine Step.drewN ?_ _ | refine Step.setCell ?_ (by first | exact Nat.le_refl _ | assumption | omega | (simp; done) | (simp; omega)) _ | assumption | refine Step.trans ?_ (by assumption : Step _ _))))⟩) hlim (by first | assumption | omega | (simp; done) | (simp; omega)) rfl rfl ?_; intro v22 w22 hA12 hG12 hn12; have s22 : ∀ j, w22.cell? ⟨wo.heap.size, j, none⟩ = _ := fun j => grown_cell hG12 (by first | assumption | omega | (simp; done) | (simp; omega)) (fun e => (by have := (HA.out.lt e).2; omega)) j; have HA12 := Lib.hid hA12; have HS12 := Lib.hid (Own.grown (w0 := w9) (Own.step HA.out (HSOR.out.trans (by (repeat (first | exact Step.refl _ | refine Step.alloc ?_ _ | refine Step.drew ?_ | refine Step.drewN ?_ _ | refine Step.setCell ?_ (by first | exact Nat.le_refl _ | assumption | omega | (simp; done) | (simp; omega)) _ | assumption | refine Step.trans ?_ (by assumption : Step _ _)))))) (HS9R.out.trans (by (repeat (first | exact Step.refl _ | refine Step.alloc ?_ _ | refine Step.drew ?_ | refine Step.drewN ?_ _ | refine Step.setCell ?_ (by first | exact Nat.le_refl _ | assumption | omega | (simp; done) | (simp; omega)) _ | assumption | refine Step.trans ?_ (by assumption : Step _ _))))) hG12); clear hA12 hG12 hn12
              refine hK.out _ _ ?_ (fun hHeld => ?_)
              · (go_keep)
              clear hK K
              try simp only [Act.put, List.getElem_toArray, List.getElem_cons_succ, List.getElem_cons_zero, List.setIfInBounds_toArray, List.set_cons_zero, List.set_cons_succ]
              refine wpAnyH_take (i := 14) (v := ?_) rfl (by kernel_rfl) (by kernel_rfl) (by kernel_rfl) (fun _ _ _ h => h) (Or.inl ⟨by rfl, ?_⟩) (by assumption) ?_
              rotate_left 1
              · (intro w hSw; (try dsimp only at hSw); go_simp; (try with_reducible rfl))
              try simp only [Act.put, List.getElem_toArray, List.getElem_cons_succ, List.getElem_cons_zero, List.setIfInBounds_toArray, List.set_cons_zero, List.set_cons_succ]
              refine wpAnyH_done (by kernel_rfl) ?_ _
              go_wp2
              go_roundw
              case rel => exact ⟨k + 1, by go_num, by omega, by rw [HLS.out], by rw [HTK.out]; exact HA12.out, HS12.out⟩
              case measure => ((try simp [Go.RowKit.intOf]); omega)
        · obtain rfl : k = PS.length := by omega
          have hfull : OS.take PS.length = OS := List.take_of_length_le (by rw [HOLEN.out]; exact Nat.le_refl _)
          rw [hfull] at HA
          obtain ⟨L, hL⟩ : ∃ L, lastS PS PS.length = L := ⟨_, rfl⟩
          rw [hL]
          have HOR := Lib.hid (HA.out.rep' (fun _ _ h => h))
          have hS2o : Step w2 wo := HW9.out.trans hS
          have hrf := refRun_ (M := fun _ => False) (Ty.step _ HL.out hS2o) (Ty.less _ (Ty.step _ HQ2.out hS2o) (fun _ _ h => h.elim)) HP.out (by omega)
          rw [HD.out] at hrf
          have HRF := Lib.hid hrf
          have HQo := Lib.hid (Ty.step _ HQ2.out hS2o)
          have HPo := Lib.hid (Ty.step _ HP9.out hS)
          have HS2o := Lib.hid hS2o
          clear hrf hfull hL hS2o hS HA
          go_upto_region 28 with (go_at_call 26; refine HRF.out.mono ?_; rintro e w11 ⟨nv, rv2, xv2, rfl, h71, h72, h73, hS11⟩; obtain ⟨na, nc, rfl, _⟩ := Ty.slice_val h71; obtain ⟨ra2, rc2, rfl, _⟩ := Ty.slice_val h72; obtain ⟨xa2, xc2, rfl, _⟩ := Ty.slice_val h73; have HR11 := Lib.hid h72; have HX11 := Lib.hid h73; clear h71 h72 h73)
          refine wp_region_held_drew (S := (fun w' => w'.cell? ⟨w11.heap.size, 0, none⟩ = some (.int .i64 D.err) ∧ w'.cell? ⟨w11.heap.size, 1, none⟩ = some (.int .i64 D.at_) ∧ w'.cell? ⟨w11.heap.size, 2, none⟩ = some (.slice ra2 D.rows.length rc2) ∧ w'.cell? ⟨w11.heap.size, 3, none⟩ = some (.slice xa2 D.writes.length xc2))) (by kernel_rfl) ?_ (fun hHeld => ?_)
          · (go_keep)
          refine wpAnyH_take (i := 0) (v := ?_) rfl (by kernel_rfl) (by kernel_rfl) (by kernel_rfl) (fun _ _ _ h => h) (Or.inl ⟨by rfl, ?_⟩) (by assumption) ?_
          rotate_left 1
          · (intro w hSw; (try dsimp only at hSw); go_simp; (try with_reducible rfl))
          try simp only [Act.put, List.getElem_toArray, List.getElem_cons_succ, List.getElem_cons_zero, List.setIfInBounds_toArray, List.set_cons_zero, List.set_cons_succ]
          refine wpAnyH_take (i := 2) (v := ?_) rfl (by kernel_rfl) (by kernel_rfl) (by kernel_rfl) (fun _ _ _ h => h) (Or.inl ⟨by rfl, ?_⟩) (by assumption) ?_
          rotate_left 1
          · (intro w hSw; (try dsimp only at hSw); go_simp; (try with_reducible rfl))
          try simp only [Act.put, List.getElem_toArray, List.getElem_cons_succ, List.getElem_cons_zero, List.setIfInBounds_toArray, List.set_cons_zero, List.set_cons_succ]
          refine wpAnyH_take (i := 3) (v := ?_) rfl (by kernel_rfl) (by kernel_rfl) (by kernel_rfl) (fun _ _ _ h => h) (Or.inl ⟨by rfl, ?_⟩) (by assumption) ?_
          rotate_left 1
          · (intro w hSw; (try dsimp only at hSw); go_simp; (try with_reducible rfl))
          try simp only [Act.put, List.getElem_toArray, List.getElem_cons_succ, List.getElem_cons_zero, List.setIfInBounds_toArray, List.set_cons_zero, List.set_cons_succ]
          refine wpAnyH_take (i := 5) (v := ?_) rfl (by kernel_rfl) (by kernel_rfl) (by kernel_rfl) (fun _ _ _ h => h) (Or.inl ⟨by rfl, ?_⟩) (by assumption) ?_
          rotate_left 1
          · (intro w hSw; (try dsimp only at hSw); go_simp; (try with_reducible rfl))
          try simp only [Act.put, List.getElem_toArray, List.getElem_cons_succ, List.getElem_cons_zero, List.setIfInBounds_toArray, List.set_cons_zero, List.set_cons_succ]
          refine wpAnyH_ready (rs := [1]) (by kernel_rfl) (by simp) ?_
          refine AllReadyH.cons rfl (fun K hK => ?_) AllReadyH.nil
          try simp only [List.getElem_toArray, List.getElem_cons_succ, List.getElem_cons_zero]
          go_simp
          (go_at_call 14; refine (OwnOps_ _ _ _ q (Ty.step _ HQo.out (by (repeat (first | exact Step.refl _ | refine Step.alloc ?_ _ | refine Step.drew ?_ | refine Step.drewN ?_ _ | refine Step.setCell ?_ (by first | exact Nat.le_refl _ | assumption | omega | (simp; done) | (simp; omega)) _ | assumption | refine Step.trans ?_ (by assumption : Step _ _)))))).mono ?_; rintro e w13 ⟨v13, rfl, h13, hS13⟩; have h13' := (Own.less (M' := fun _ => False) h13 (fun _ _ h => h.elim)).rep' (fun _ _ h => h); obtain ⟨a13, c13, rfl, _⟩ := Ty.slice_val h13'; have HG13 := Lib.hid h13'; clear h13 h13'; have z13 : w11.heap.size < w13.heap.size := Nat.lt_of_lt_of_le (by first | assumption | omega | (simp; done) | (simp; omega)) hS13.size; have s13 : ∀ j, w13.cell? ⟨w11.heap.size, j, none⟩ = _ := fun j => hS13.cell (by first | assumption | omega | (simp; done) | (simp; omega)) j)
          refine hK.out _ _ ?_ (fun hHeld => ?_)
          · (go_keep)
          clear hK K
          try simp only [Act.put, List.getElem_toArray, List.getElem_cons_succ, List.getElem_cons_zero, List.setIfInBounds_toArray, List.set_cons_zero, List.set_cons_succ]
          refine wpAnyH_ready (rs := [4]) (by kernel_rfl) (by simp) ?_
          refine AllReadyH.cons rfl (fun K hK => ?_) AllReadyH.nil
          try simp only [List.getElem_toArray, List.getElem_cons_succ, List.getElem_cons_zero]
          go_simp
          (go_at_call 35; refine (HJN.out _ _ _ _ HG13.out (Ty.step _ HPo.out (by (repeat (first | exact Step.refl _ | refine Step.alloc ?_ _ | refine Step.drew ?_ | refine Step.drewN ?_ _ | refine Step.setCell ?_ (by first | exact Nat.le_refl _ | assumption | omega | (simp; done) | (simp; omega)) _ | assumption | refine Step.trans ?_ (by assumption : Step _ _))))) (Ty.step _ HOR.out (by (repeat (first | exact Step.refl _ | refine Step.alloc ?_ _ | refine Step.drew ?_ | refine Step.drewN ?_ _ | refine Step.setCell ?_ (by first | exact Nat.le_refl _ | assumption | omega | (simp; done) | (simp; omega)) _ | assumption | refine Step.trans ?_ (by assumption : Step _ _)))))).mono ?_; rintro e w14 ⟨rv14, xv14, rfl, hr14, hx14, hS14⟩; obtain ⟨ra14, rc14, rfl, _⟩ := Ty.slice_val hr14; obtain ⟨xa14, xc14, rfl, _⟩ := Ty.slice_val hx14; have HR14 := Lib.hid hr14; have HX14 := Lib.hid hx14; clear hr14 hx14; have z14 : w11.heap.size < w14.heap.size := Nat.lt_of_lt_of_le (by first | assumption | omega | (simp; done) | (simp; omega)) hS14.size; have s14 : ∀ j, w14.cell? ⟨w11.heap.size, j, none⟩ = _ := fun j => hS14.cell (by first | assumption | omega | (simp; done) | (simp; omega)) j)
          refine hK.out _ _ ?_ (fun hHeld => ?_)
          · (go_keep)
          clear hK K
          try simp only [Act.put, List.getElem_toArray, List.getElem_cons_succ, List.getElem_cons_zero, List.setIfInBounds_toArray, List.set_cons_zero, List.set_cons_succ]
          refine wpAnyH_ready (rs := [6]) (by kernel_rfl) (by simp) ?_
          refine AllReadyH.cons rfl (fun K hK => ?_) AllReadyH.nil
          try simp only [List.getElem_toArray, List.getElem_cons_succ, List.getElem_cons_zero]
          go_simp
          (go_at_call 28; refine (OutcomeIs_ HR14.out HX14.out (Ty.step _ HR11.out (by (repeat (first | exact Step.refl _ | refine Step.alloc ?_ _ | refine Step.drew ?_ | refine Step.drewN ?_ _ | refine Step.setCell ?_ (by first | exact Nat.le_refl _ | assumption | omega | (simp; done) | (simp; omega)) _ | assumption | refine Step.trans ?_ (by assumption : Step _ _))))) (Ty.step _ HX11.out (by (repeat (first | exact Step.refl _ | refine Step.alloc ?_ _ | refine Step.drew ?_ | refine Step.drewN ?_ _ | refine Step.setCell ?_ (by first | exact Nat.le_refl _ | assumption | omega | (simp; done) | (simp; omega)) _ | assumption | refine Step.trans ?_ (by assumption : Step _ _)))))).mono ?_; rintro e w15 ⟨rfl, hS15⟩; have s15 : ∀ j, w15.cell? ⟨w11.heap.size, j, none⟩ = _ := fun j => hS15.cell (by first | assumption | omega | (simp; done) | (simp; omega)) j)
          refine hK.out _ _ ?_ (fun hHeld => ?_)
          · (go_keep)
          clear hK K
          try simp only [Act.put, List.getElem_toArray, List.getElem_cons_succ, List.getElem_cons_zero, List.setIfInBounds_toArray, List.set_cons_zero, List.set_cons_succ]
          refine wpAnyH_take (i := 7) (v := ?_) rfl (by kernel_rfl) (by kernel_rfl) (by kernel_rfl) (fun _ _ _ h => h) (Or.inl ⟨by rfl, ?_⟩) (by assumption) ?_
          rotate_left 1
          · (intro w hSw; (try dsimp only at hSw); go_simp; (try with_reducible rfl))
          try simp only [Act.put, List.getElem_toArray, List.getElem_cons_succ, List.getElem_cons_zero, List.setIfInBounds_toArray, List.set_cons_zero, List.set_cons_succ]
          refine wpAnyH_done (by kernel_rfl) ?_ _
          go_wp2
          go_ret
          exact ⟨rfl, HW2.out.trans (HS2o.out.trans (by (repeat (first | exact Step.refl _ | refine Step.alloc ?_ _ | refine Step.drew ?_ | refine Step.drewN ?_ _ | refine Step.setCell ?_ (by first | exact Nat.le_refl _ | assumption | omega | (simp; done) | (simp; omega)) _ | assumption | refine Step.trans ?_ (by assumption : Step _ _)))))⟩
    · obtain ⟨c1, hc1⟩ : ∃ c, checkRef q = c := ⟨_, rfl⟩
      rw [hc1] at hck
      have hne : ((c1 : Int) != 0) = true := by rw [bne_iff_ne]; exact hck
      have HC1 := Lib.hid hc1
      clear hc0 hck hc1
      go_enter Try.func6, Try.ntmps6
      go_wp2_with (first
        | (go_at_call 23; refine (lawAwake_ w).mono ?_; rintro e w1 ⟨rfl, hS1⟩)
        | (go_at_call 33; refine (Copies_ _ _ _ sp (Ty.step _ HSP.out (by (repeat (first | exact Step.refl _ | refine Step.alloc ?_ _ | refine Step.drew ?_ | refine Step.drewN ?_ _ | refine Step.setCell ?_ (by first | exact Nat.le_refl _ | assumption | omega | (simp; done) | (simp; omega)) _ | assumption | refine Step.trans ?_ (by assumption : Step _ _)))))).mono ?_; rintro e w1c ⟨v1c, rfl, h1c, hS1c⟩; have h1c' := (Own.less (M' := fun _ => False) h1c (fun _ _ h => h.elim)).rep' (fun _ _ h => h); obtain ⟨xa, xc, rfl, _⟩ := Ty.slice_val h1c'; have HSC := Lib.hid h1c'; clear h1c h1c')
        | (go_at_call 36; refine (brSplits_ HSC.out).mono ?_; rintro e w1d ⟨rfl, rfl⟩; rw [HS0.out])
        | (go_at_call 10; refine (Few_ (n := 16) (Ty.step _ HOP.out (by (repeat (first | exact Step.refl _ | refine Step.alloc ?_ _ | refine Step.drew ?_ | refine Step.drewN ?_ _ | refine Step.setCell ?_ (by first | exact Nat.le_refl _ | assumption | omega | (simp; done) | (simp; omega)) _ | assumption | refine Step.trans ?_ (by assumption : Step _ _))))) (by omega)).mono ?_; rintro e w3 ⟨v3, rfl, h3, rfl⟩; rw [← HQ.out] at h3; obtain ⟨qa, qc, rfl, _⟩ := Ty.slice_val h3; have HQR := Lib.hid h3; clear h3)
        | (go_at_call 11; refine (refSplits_ (Ty.step _ HSP.out (by (repeat (first | exact Step.refl _ | refine Step.alloc ?_ _ | refine Step.drew ?_ | refine Step.drewN ?_ _ | refine Step.setCell ?_ (by first | exact Nat.le_refl _ | assumption | omega | (simp; done) | (simp; omega)) _ | assumption | refine Step.trans ?_ (by assumption : Step _ _)))))).mono ?_; rintro e w4 ⟨rfl, n4, hw4⟩; have hS4 := step_of_drew hw4; clear hw4 n4; rw [HS0.out])
        | (go_at_call 12; refine (refCheck_ (Ty.step _ HQR.out (by (repeat (first | exact Step.refl _ | refine Step.alloc ?_ _ | refine Step.drew ?_ | refine Step.drewN ?_ _ | refine Step.setCell ?_ (by first | exact Nat.le_refl _ | assumption | omega | (simp; done) | (simp; omega)) _ | assumption | refine Step.trans ?_ (by assumption : Step _ _)))))).mono ?_; rintro e w5 ⟨rfl, hS5⟩; rw [HC1.out]))
      go_ret
      exact ⟨rfl, by (repeat (first | exact Step.refl _ | refine Step.alloc ?_ _ | refine Step.drew ?_ | refine Step.drewN ?_ _ | refine Step.setCell ?_ (by first | exact Nat.le_refl _ | assumption | omega | (simp; done) | (simp; omega)) _ | assumption | refine Step.trans ?_ (by assumption : Step _ _)))⟩
  · have hne : ((c0 : Int) != 0) = true := by rw [bne_iff_ne]; exact hsp
    clear hsp hc0
    go_enter Try.func6, Try.ntmps6
    go_wp2_with (first
      | (go_at_call 23; refine (lawAwake_ w).mono ?_; rintro e w1 ⟨rfl, hS1⟩)
      | (go_at_call 33; refine (Copies_ _ _ _ sp (Ty.step _ HSP.out (by (repeat (first | exact Step.refl _ | refine Step.alloc ?_ _ | refine Step.drew ?_ | refine Step.drewN ?_ _ | refine Step.setCell ?_ (by first | exact Nat.le_refl _ | assumption | omega | (simp; done) | (simp; omega)) _ | assumption | refine Step.trans ?_ (by assumption : Step _ _)))))).mono ?_; rintro e w1c ⟨v1c, rfl, h1c, hS1c⟩; have h1c' := (Own.less (M' := fun _ => False) h1c (fun _ _ h => h.elim)).rep' (fun _ _ h => h); obtain ⟨xa, xc, rfl, _⟩ := Ty.slice_val h1c'; have HSC := Lib.hid h1c'; clear h1c h1c')
      | (go_at_call 36; refine (brSplits_ HSC.out).mono ?_; rintro e w1d ⟨rfl, rfl⟩; rw [HS0.out])
      | (go_at_call 10; refine (Few_ (n := 16) (Ty.step _ HOP.out (by (repeat (first | exact Step.refl _ | refine Step.alloc ?_ _ | refine Step.drew ?_ | refine Step.drewN ?_ _ | refine Step.setCell ?_ (by first | exact Nat.le_refl _ | assumption | omega | (simp; done) | (simp; omega)) _ | assumption | refine Step.trans ?_ (by assumption : Step _ _))))) (by omega)).mono ?_; rintro e w3 ⟨v3, rfl, h3, rfl⟩; rw [← HQ.out] at h3; obtain ⟨qa, qc, rfl, _⟩ := Ty.slice_val h3; have HQR := Lib.hid h3; clear h3)
      | (go_at_call 11; refine (refSplits_ (Ty.step _ HSP.out (by (repeat (first | exact Step.refl _ | refine Step.alloc ?_ _ | refine Step.drew ?_ | refine Step.drewN ?_ _ | refine Step.setCell ?_ (by first | exact Nat.le_refl _ | assumption | omega | (simp; done) | (simp; omega)) _ | assumption | refine Step.trans ?_ (by assumption : Step _ _)))))).mono ?_; rintro e w4 ⟨rfl, n4, hw4⟩; have hS4 := step_of_drew hw4; clear hw4 n4; rw [HS0.out]))
    go_ret
    exact ⟨rfl, by (repeat (first | exact Step.refl _ | refine Step.alloc ?_ _ | refine Step.drew ?_ | refine Step.drewN ?_ _ | refine Step.setCell ?_ (by first | exact Nat.le_refl _ | assumption | omega | (simp; done) | (simp; omega)) _ | assumption | refine Step.trans ?_ (by assumption : Step _ _)))⟩
end Go.Proofs.Ythflkfgiclcdiaa
