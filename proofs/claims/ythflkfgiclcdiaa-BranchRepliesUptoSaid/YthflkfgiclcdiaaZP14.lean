/-
  Walk: a record's reader: triples, where writes are taken.
  Walk: a record's reader: triples, where ranges are taken. Printed by gen_r13.py out of XR12.src.
  Plain words: a record of one shard and an outcome read back (Read at the kind One, ToReply), and that they read what was written.
-/
import Derived.Test.YthflkfgiclcdiaaZP12
import Derived.Shelf.Abstract
import Derived.Test.YthflkfgiclcdiaaZW19
namespace Go.Proofs.Ythflkfgiclcdiaa
open Go.RowKit Go.Gr
set_option linter.unusedSimpArgs false
abbrev Trip := Bool × List UInt8 × List UInt8
def triplesLoop : Nat → List (List UInt8) → Int → List Trip → List Trip × Int
  | 0, _, e, acc => (acc, e)
  | f + 1, ps, e, acc => if e = 0 ∧ ps ≠ [] then
      triplesLoop f (nextF (nextF (truthF ps e).2.1 (truthF ps e).2.2).2.1 (nextF (truthF ps e).2.1 (truthF ps e).2.2).2.2).2.1 (nextF (nextF (truthF ps e).2.1 (truthF ps e).2.2).2.1 (nextF (truthF ps e).2.1 (truthF ps e).2.2).2.2).2.2
        (acc ++ [((truthF ps e).1, (nextF (truthF ps e).2.1 (truthF ps e).2.2).1, (nextF (nextF (truthF ps e).2.1 (truthF ps e).2.2).2.1 (nextF (truthF ps e).2.1 (truthF ps e).2.2).2.2).1)])
    else (acc, e)
/-- The error ahead of the loop. -/
def tripE (s : List (List UInt8) × Int) : Int := if s.2 = 0 ∧ s.1.length % 3 ≠ 0 then 3 else s.2
def triplesF (p : List UInt8) : List Trip × Int := triplesLoop (splitF p).1.length (splitF p).1 (tripE (splitF p)) []
theorem triplesLoop_end {f : Nat} {ps : List (List UInt8)} {e : Int} {acc : List Trip} (h : ¬ (e = 0 ∧ ps ≠ [])) : triplesLoop f ps e acc = (acc, e) := by
  rcases f with _ | f
  · rfl
  · rw [triplesLoop, if_neg h]
theorem nextF_len (ps : List (List UInt8)) (e : Int) : (nextF ps e).2.1.length ≤ ps.length := by
  unfold nextF
  split
  · exact Nat.le_refl _
  · split
    · exact Nat.zero_le _
    · simp
theorem truthF_len {ps : List (List UInt8)} (h : ps ≠ []) : (truthF ps 0).2.1.length + 1 ≤ ps.length := by
  rcases ps with _ | ⟨p, r⟩
  · exact absurd rfl h
  · have hn : nextF (p :: r) 0 = (p, r, 0) := by simp [nextF]
    unfold truthF
    rw [hn]
    simp only
    rw [if_neg (by simp)]
    split
    · simp
    · split <;> simp
/-- What a taken triple is as a write. -/
abbrev wrOf (t : Trip) : DWrite := ⟨t.2.1, t.2.2, t.1⟩
theorem open_kk2 {P : Program} {c : Code} {Q : Exit → Act → World → Prop} {K : Act → World → Prop} {a : Act} {w : World} (h : ∀ a w, Code.wp P c Q a w → K a w) (h2 : Code.wp P c Q a w) : K a w := h a w h2
theorem _root_.Go.Gr.Own.plus {α : Type} {E : Ty α} {e : TypeId} {w w' : World} {M : Nat → Prop} {B k : Nat} {v : Value} {xs : List α} (h : Own E e w M B v xs) (hs : Step w w') (hk : w.heap.size ≤ k) : Own E e w' (fun b => M b ∨ b = k) B v xs := by
  obtain ⟨hl, cells, ho, hr⟩ := h
  refine ⟨hl, cells, own_kept ho (fun g hg => hs.heap (own_lt ho hg).2), fun i hi => E.keep (hr i hi) fun b hb hm => ⟨hs.heap hb, fun h => ?_⟩⟩
  rcases h with (h | h) | h
  · exact hm (.inl h)
  · omega
  · exact hm (.inr h)
/-- How many parts a reader holds. -/
def partsM (W : World) (rb : Nat) : Nat := match W.cell? ⟨rb, 0, none⟩ with
  | some (.slice _ n _) => n
  | _ => 0
theorem partsM_at {W : World} {rb n c : Nat} {a : Option Addr} (h : W.cell? ⟨rb, 0, none⟩ = some (.slice a n c)) : partsM W rb = n := by
  unfold partsM
  rw [h]
theorem partsM_rc {W : World} {M : Nat → Prop} {rb : Nat} {v : Value} {e : Int} {ps : List (List UInt8)} (h : RcAt W rb v e) (hr : (Ty.slice Ty.bytes).rep W M [v] ps) : partsM W rb = ps.length := by
  obtain ⟨a, c, rfl, _⟩ := Ty.slice_val hr
  exact partsM_at (h.cell 0)
set_option maxRecDepth 100000 in
set_option maxHeartbeats 8000000 in
theorem rcTriplesW_ {W : World} {M Mo : Nat → Prop} {B rb ob bx : Nat} {v : Value} {e : Int} {ps : List (List UInt8)} {kind : Int} {x : DTxn} {vw vr : Value} {cm : Bool} {vs vy : Value} {id : Nat} {nm : ByteArray} {ws : List DWrite}
    (h : RcAt W rb v e) (hr : (Ty.slice Ty.bytes).rep W M [v] ps) (hMr : M rb) (hMob : M ob) (hMv : ∀ b, vw.ownBlock = some b → M b) (hC : CellsAt W ob (recC kind x vw vr cm vs vy id nm) 154)
    (hb : W.cell? ⟨bx, 0, none⟩ = some (.pointer (some ⟨ob, 0, none⟩))) (hA : Own tWrite 74 W Mo B vw ws) (hMo : Mo ob) (hMor : Mo rb) (hMoB : ∀ b, Mo b → b < B) (hoB : ob < B) (hbB : bx < B) (hrB : rb < B) (hB : B ≤ W.heap.size) (hro : rb ≠ ob) (hbo : bx ≠ ob) (hbr : bx ≠ rb) (hws : ws.length ≤ 17179869184) (hspl : (splitF (nextF ps e).1).1.length ≤ 4294967296) :
    Calls Try.prog 124 #[.pointer (some ⟨rb, 0, none⟩), .func (.func 125) #[] #[.pointer (some ⟨bx, 0, none⟩)]] W fun y w' => y = .returned (.tuple #[]) ∧
      (∃ v' vw' acc, RcAt w' rb v' (if (nextF ps e).2.2 ≠ 0 then (nextF ps e).2.2 else (triplesF (nextF ps e).1).2) ∧ acc = (if (nextF ps e).2.2 ≠ 0 then [] else (triplesF (nextF ps e).1).1) ∧ (Ty.slice Ty.bytes).rep w' (fun b => M b ∨ vw'.ownBlock = some b) [v'] (nextF ps e).2.1 ∧
        CellsAt w' ob (recC kind x vw' vr cm vs vy id nm) 154 ∧ Own tWrite 74 w' Mo B vw' (ws ++ acc.map wrOf) ∧ (∀ b, vw'.ownBlock = some b → vw.ownBlock = some b ∨ W.heap.size ≤ b)) ∧
      Turn (fun b => b = rb ∨ b = ob ∨ vw.ownBlock = some b) W w' := by
  have hrbl := h.lt
  have hobl := hC.lt
  have hbxl := lt_of_cell hb
  have HN := Lib.hid (rcNext_ h hr hMr)
  have HC := Lib.hid hC
  have HA := Lib.hid hA
  have hent := enters_of Try.func125 (by kernel_rfl) rfl
  clear h hr hC hA
  generalize nextF ps e = N at *
  obtain ⟨p, r, e1⟩ := N
  simp only at HN ⊢
  by_cases he1 : e1 = 0
  · subst he1
    simp only [ne_eq, not_true_eq_false, if_false]
    have HTF := Lib.hid (show triplesF p = triplesLoop (splitF p).1.length (splitF p).1 (tripE (splitF p)) [] from rfl)
    have hSp := Lib.hid (fun (W : World) (M : Nat → Prop) (v : Value) (h : Ty.bytes.rep W M [v] p) => pSplit_ h)
    obtain ⟨FIN, hFIN⟩ : ∃ FIN, FIN = triplesF p := ⟨_, rfl⟩
    rw [← hFIN] at HTF ⊢
    clear hFIN
    generalize splitF p = SP at *
    obtain ⟨sp, se⟩ := SP
    simp only at HTF hSp
    go_enter Try.func124, Try.ntmps124
    go_upto_region 4 with (first
      | (go_at_call 109; refine HN.out.mono ?_; rintro y w1 ⟨p', v', rfl, hp, hC1, hv, hT⟩; obtain ⟨pa, pk, rfl, _, _, hpl⟩ := Ty.slice_val hp; have q1 : w1.cell? ⟨rb, 1, none⟩ = some (.int .i64 0) := hC1.cell 1; have HP := Lib.hid hp; have HC1 := Lib.hid hC1; have HV := Lib.hid hv; have HT := Lib.hid hT; have hz1 := hT.size; clear hC1 hv hT hp)
      | (go_at_call 80; refine (hSp.out _ _ _ (Ty.step _ HP.out (by (repeat (first | exact Step.refl _ | refine Step.alloc ?_ _ | refine Step.drew ?_ | refine Step.drewN ?_ _ | refine Step.setCell ?_ (by first | exact Nat.le_refl _ | assumption | omega | (simp; done) | (simp; omega)) _ | assumption | refine Step.trans ?_ (by assumption : Step _ _)))))).mono ?_; rintro y w2 ⟨v2, rfl, hR2, hS2⟩; obtain ⟨sa, sk, rfl, _, _, hsl⟩ := Ty.slice_val hR2; have s2 : ∀ j, w2.cell? ⟨w1.heap.size, j, none⟩ = _ := fun j => hS2.cell (by simp) j; have z2 : ∀ j, w2.frozen? ⟨w1.heap.size, j, none⟩ = _ := fun j => hS2.frozen (by simp) j; have HR2 := Lib.hid hR2; clear hR2))
    have hz2 := hS2.size
    simp only [World.size_alloc] at hz2
    refine wp_code (fun wx => RcAt wx w1.heap.size (.slice sa sp.length sk) se ∧ (Ty.slice Ty.bytes).rep wx (· < w1.heap.size + 1) [.slice sa sp.length sk] sp ∧ Step w1 wx) ?_ ?_
    · have b0 : RcAt w2 w1.heap.size (.slice none 0 0) 0 := CellsAt.step (CellsAt.new rfl) hS2
      refine ⟨CellsAt.set (CellsAt.set b0 0 _) 1 _, Ty.kept _ (Ty.kept _ (Ty.less _ HR2.out (fun b _ hb => by simp; exact hb)) (Kept.setCell _ _ _ (by simp))) (Kept.setCell _ _ _ (by simp)), by (repeat (first | exact Step.refl _ | refine Step.alloc ?_ _ | refine Step.drew ?_ | refine Step.drewN ?_ _ | refine Step.setCell ?_ (by first | exact Nat.le_refl _ | assumption | omega | (simp; done) | (simp; omega)) _ | assumption | refine Step.trans ?_ (by assumption : Step _ _)))⟩
    clear s2 z2 HR2 hS2 hz2
    rintro wx ⟨hCx, hRx, hSx⟩
    have x1 : wx.cell? ⟨w1.heap.size, 1, none⟩ = some (.int .i64 se) := hCx.cell 1
    have x0 : wx.cell? ⟨w1.heap.size, 0, none⟩ = some (.slice sa sp.length sk) := hCx.cell 0
    have y1 : wx.frozen? ⟨w1.heap.size, 1, none⟩ = false := hCx.frozen 1
    have hibl := hCx.lt
    have HCx := Lib.hid hCx
    have HRx := Lib.hid hRx
    have HTx := Lib.hid (HT.out.then hSx)
    rw [lim_eq] at hsl
    clear hCx hRx
    go_cut [5, 42] (fun s5 s42 wy => s5 = .pointer (some ⟨w1.heap.size, 0, none⟩) ∧ s42 = .bool (decide (se = 0 ∧ sp.length % 3 ≠ 0)) ∧ wy = wx)
    case first =>
      by_cases hs : se = 0
      · subst hs
        by_cases hm : sp.length % 3 ≠ 0
        · have hD : decide ((0 : Int) = 0 ∧ sp.length % 3 ≠ 0) = true := decide_eq_true ⟨rfl, hm⟩
          have hm2 : ((((sp.length : Int) % 3) == 0)) = false := beq_eq_false_iff_ne.2 (by omega)
          have hm8 : ((sp.length : Int) % 3 != 0) = true := by rw [bne, hm2]; rfl
          have HD := Lib.hid hD
          clear hD
          go_wp2
          go_meet
          case rel => exact ⟨rfl, by rw [HD.out], rfl⟩
        · have hD : decide ((0 : Int) = 0 ∧ sp.length % 3 ≠ 0) = false := decide_eq_false (fun h => hm h.2)
          have hm2 : ((((sp.length : Int) % 3) == 0)) = true := beq_iff_eq.2 (by omega)
          have hm8 : ((sp.length : Int) % 3 != 0) = false := by rw [bne, hm2]; rfl
          have HD := Lib.hid hD
          clear hD
          go_wp2
          go_meet
          case rel => exact ⟨rfl, by rw [HD.out], rfl⟩
      · have hD : decide (se = 0 ∧ sp.length % 3 ≠ 0) = false := decide_eq_false (fun h => hs h.1)
        have hs' : (se == 0) = false := beq_eq_false_iff_ne.2 hs
        have HD := Lib.hid hD
        clear hD
        go_wp2
        go_meet
        case rel => exact ⟨rfl, by rw [HD.out], rfl⟩
    case rest =>
      obtain ⟨rfl, rfl, rfl⟩ := hcut
      refine open_kk2 (by assumption) ?_
      go_cut [5] (fun s5 wy => s5 = .pointer (some ⟨w1.heap.size, 0, none⟩) ∧ Hid (RcAt wy w1.heap.size (.slice sa sp.length sk) (tripE (sp, se))) ∧ Hid ((Ty.slice Ty.bytes).rep wy (· < w1.heap.size + 1) [.slice sa sp.length sk] sp) ∧ Step w1 wy)
      case first =>
        by_cases hD : se = 0 ∧ sp.length % 3 ≠ 0
        · have hE : tripE (sp, se) = 3 := if_pos hD
          rw [decide_eq_true hD]
          go_wp2
          go_meet
          case rel => exact ⟨rfl, Lib.hid (by rw [hE]; exact CellsAt.set HCx.out 1 _), Lib.hid (Ty.kept _ HRx.out (Kept.setCell _ _ _ (by simp))), by (repeat (first | exact Step.refl _ | refine Step.alloc ?_ _ | refine Step.drew ?_ | refine Step.drewN ?_ _ | refine Step.setCell ?_ (by first | exact Nat.le_refl _ | assumption | omega | (simp; done) | (simp; omega)) _ | assumption | refine Step.trans ?_ (by assumption : Step _ _)))⟩
        · have hE : tripE (sp, se) = se := if_neg hD
          rw [decide_eq_false hD]
          go_wp2
          go_meet
          case rel => exact ⟨rfl, Lib.hid (by rw [hE]; exact HCx.out), HRx, hSx⟩
      case rest =>
        obtain ⟨rfl, hCy, hRy, hSy⟩ := hcut
        have hzy := hSy.size
        have hiby := hCy.out.lt
        have hobW : ob ≠ w1.heap.size := by omega
        have hCo := Lib.hid ((HC.out.kept (HT.out.block ob hobl (fun e => hro e.symm))).step hSy)
        have hAo : Hid (Own tWrite 74 wc (fun b => Mo b ∨ b = w1.heap.size) B vw ws) := Lib.hid (Own.plus (Own.kept HA.out (HT.out.kept.mono (fun b hb => by subst hb; exact hMor)) (fun g hg => HT.out.block g (HA.out.lt hg).2 (fun e => by have := (HA.out.lt hg).1; omega))) hSy (Nat.le_refl _))
        have hbx := (hSy.cell (Nat.lt_of_lt_of_le hbxl hz1) 0).trans ((HT.out.cell hbxl hbr 0).trans hb)
        have hvw : ∀ b, vw.ownBlock = some b → b < W.heap.size := fun b hb => (HA.out.lt hb).2
        refine open_kk2 (by assumption) ?_
        go_wp2
        go_loopw [6] (fun _ w' => ∃ (f : Nat) (qs : List (List UInt8)) (e2 : Int) (acc : List Trip) (v4 vw4 : Value), Hid (FIN = triplesLoop f qs e2 acc) ∧ qs.length ≤ f ∧ acc.length + qs.length ≤ sp.length ∧ Hid (RcAt w' w1.heap.size v4 e2) ∧ Hid ((Ty.slice Ty.bytes).rep w' (fun b => b < w1.heap.size + 1 ∨ vw4.ownBlock = some b) [v4] qs) ∧
          Hid (CellsAt w' ob (recC kind x vw4 vr cm vs vy id nm) 154) ∧ Hid (Own tWrite 74 w' (fun b => Mo b ∨ b = w1.heap.size) B vw4 (ws ++ acc.map wrOf)) ∧ (∀ b, vw4.ownBlock = some b → vw.ownBlock = some b ∨ wc.heap.size ≤ b) ∧ Hid (Turn (fun b => b = w1.heap.size ∨ b = ob ∨ vw.ownBlock = some b) wc w')) (fun _ W => partsM W w1.heap.size)
        case atStart => exact ⟨sp.length, sp, tripE (sp, se), [], _, vw, HTF, Nat.le_refl _, by simp, hCy, Lib.hid (Ty.less _ hRy.out (fun b _ hm => hm.elim (fun h => h) (fun h => by have := hvw b h; omega))), hCo, by simpa using hAo, fun b h => .inl h, Lib.hid (Turn.refl _ _)⟩
        case round =>
          obtain ⟨f, qs, e2, acc, v4, vw4, hF, hqf, hal, hCr, hRr, hCo', hAo', hvw4, hTr⟩ := hrel
          obtain ⟨qa, qc, rfl, _⟩ := Ty.slice_val hRr.out
          have c0 : wr.cell? ⟨w1.heap.size, 0, none⟩ = some (.slice qa qs.length qc) := hCr.out.cell 0
          have c1 : wr.cell? ⟨w1.heap.size, 1, none⟩ = some (.int .i64 e2) := hCr.out.cell 1
          have hzr := hTr.out.size
          have hibr := hCr.out.lt
          have hbxr := (hTr.out.cell (b := bx) (by omega) (fun h => by rcases h with h | h | h; omega; exact hbo h; have := (HA.out.lt h).1; omega) 0).trans hbx
          by_cases hgo : e2 = 0 ∧ qs ≠ []
          · obtain ⟨rfl, hq⟩ := hgo
            have HTU := Lib.hid (rcTruth_ hCr.out hRr.out (.inl (by omega)))
            have hlen := truthF_len hq
            have hFs : FIN = triplesLoop (f - 1) (nextF (nextF (truthF qs 0).2.1 (truthF qs 0).2.2).2.1 (nextF (truthF qs 0).2.1 (truthF qs 0).2.2).2.2).2.1 (nextF (nextF (truthF qs 0).2.1 (truthF qs 0).2.2).2.1 (nextF (truthF qs 0).2.1 (truthF qs 0).2.2).2.2).2.2
                (acc ++ [((truthF qs 0).1, (nextF (truthF qs 0).2.1 (truthF qs 0).2.2).1, (nextF (nextF (truthF qs 0).2.1 (truthF qs 0).2.2).2.1 (nextF (truthF qs 0).2.1 (truthF qs 0).2.2).2.2).1)]) := by
              obtain ⟨f', rfl⟩ : ∃ f', f = f' + 1 := ⟨f - 1, by omega⟩
              rw [hF.out, triplesLoop, if_pos ⟨rfl, hq⟩, Nat.add_sub_cancel]
            have HFS := Lib.hid hFs
            have hpos : decide ((0 : Int) < (qs.length : Int)) = true := decide_eq_true (by omega)
            have hpm := Lib.hid (partsM_at c0)
            have hn1 := nextF_len (truthF qs 0).2.1 (truthF qs 0).2.2
            have hn2 := nextF_len (nextF (truthF qs 0).2.1 (truthF qs 0).2.2).2.1 (nextF (truthF qs 0).2.1 (truthF qs 0).2.2).2.2
            clear hFs
            generalize truthF qs 0 = T at *
            obtain ⟨fl, r1, ea⟩ := T
            simp only at HTU hlen HFS hn1 hn2
            have HNA := Lib.hid (fun (W : World) (M : Nat → Prop) (v : Value) (h : RcAt W w1.heap.size v ea) (hr : (Ty.slice Ty.bytes).rep W M [v] r1) (hM : M w1.heap.size) => rcNext_ h hr hM)
            generalize nextF r1 ea = TA at *
            obtain ⟨ka, r2, eb⟩ := TA
            simp only at HFS hn1 hn2 HNA
            have HNB := Lib.hid (fun (W : World) (M : Nat → Prop) (v : Value) (h : RcAt W w1.heap.size v eb) (hr : (Ty.slice Ty.bytes).rep W M [v] r2) (hM : M w1.heap.size) => rcNext_ h hr hM)
            generalize nextF r2 eb = TB at *
            obtain ⟨kb, r3, ec⟩ := TB
            simp only at HFS hn2 HNB
            have hib4 : w1.heap.size < w1.heap.size + 1 ∨ vw4.ownBlock = some w1.heap.size := .inl (by omega)
            go_upto_region 9 with (first
              | (go_at_call 127; refine HTU.out.mono ?_; rintro y w5 ⟨rfl, ⟨v5, hC5, hR5⟩, hT5⟩; have HC5 := Lib.hid hC5; have HR5 := Lib.hid hR5; have HT5 := Lib.hid hT5; clear hC5 hR5 hT5)
              | (go_at_call 109; refine (HNB.out _ _ _ HC6.out HR6.out hib4).mono ?_; rintro y w7 ⟨kv, v7, rfl, hk7, hC7, hR7, hT7⟩; obtain ⟨b7, m7, rfl, _⟩ := Ty.slice_val hk7; have HK7 := Lib.hid hk7; have HC7 := Lib.hid hC7; have HR7 := Lib.hid hR7; have HT7 := Lib.hid hT7; clear hk7 hC7 hR7 hT7)
              | (go_at_call 109; refine (HNA.out _ _ _ HC5.out HR5.out hib4).mono ?_; rintro y w6 ⟨kv, v6, rfl, hk6, hC6, hR6, hT6⟩; obtain ⟨b6, m6, rfl, _⟩ := Ty.slice_val hk6; have HK6 := Lib.hid hk6; have HC6 := Lib.hid hC6; have HR6 := Lib.hid hR6; have HT6 := Lib.hid hT6; clear hk6 hC6 hR6 hT6))
            have hT57 := (HT5.out.trans HT6.out).trans HT7.out
            have hz57 := hT57.size
            have hv4i : ∀ b, vw4.ownBlock = some b → b ≠ w1.heap.size := fun b h e => by
              rcases hvw4 b h with h1 | h1
              · have := hvw b h1; omega
              · omega
            have hCo7 := Lib.hid (hCo'.out.kept (hT57.block ob (by omega) hobW))
            have hAo7 := Lib.hid (Own.kept hAo'.out (hT57.kept.mono (fun b hb => .inr hb)) (fun g hg => hT57.block g (hAo'.out.lt hg).2 (hv4i g hg)))
            have hbx7 := (hT57.cell (b := bx) (by omega) (by omega) 0).trans hbxr
            have hKA := Lib.hid (Ty.less (M' := fun b => (Mo b ∨ b = w1.heap.size) ∨ vw4.ownBlock = some b) _ (Ty.kept _ HK6.out (HT7.out.kept.mono (fun b hb => by subst hb; exact hib4))) (fun b _ hm => by rcases hm with (hm | hm) | hm; (exact .inl (by have := hMoB b hm; omega)); (exact .inl (by omega)); exact .inr hm))
            have hKB := Lib.hid (Ty.less (M' := fun b => (Mo b ∨ b = w1.heap.size) ∨ vw4.ownBlock = some b) _ HK7.out (fun b _ hm => by rcases hm with (hm | hm) | hm; (exact .inl (by have := hMoB b hm; omega)); (exact .inl (by omega)); exact .inr hm))
            go_wp2_with (refine (rcField1_ (M := fun b => Mo b ∨ b = w1.heap.size) hCo7.out hbx7 hAo7.out (.inl hMo) hoB (by omega) hbB hKA.out hKB.out (by simp; rw [lim_eq]; omega)).mono ?_; rintro y w8 ⟨rfl, ⟨vw8, hC8, hA8, hn8⟩, hT8⟩; have HC8 := Lib.hid hC8; have HA8 := Lib.hid hA8; have HT8 := Lib.hid hT8; clear hC8 hA8 hT8)
            have hno : ¬ (w1.heap.size = ob ∨ vw4.ownBlock = some w1.heap.size) := fun h => h.elim (fun h => hobW h.symm) (fun h => hv4i _ h rfl)
            have hi7 : w1.heap.size < w7.heap.size := by omega
            have hC9 := Lib.hid (HC7.out.kept (HT8.out.block _ hi7 hno))
            have hn9 : ∀ b, vw8.ownBlock = some b → vw4.ownBlock = some b ∨ w7.heap.size ≤ b := fun b hb => by
              rcases hn8 with h | h | ⟨b', h, h2⟩
              · exact .inl (h ▸ hb)
              · rw [h] at hb
                exact .inr (Nat.le_of_eq (by simpa using hb))
              · rw [h] at hb
                obtain rfl : b' = b := by simpa using hb
                exact .inr h2
            have hR9 : Hid ((Ty.slice Ty.bytes).rep w8 (fun b => b < w1.heap.size + 1 ∨ vw8.ownBlock = some b) [v7] r3) := Lib.hid (Ty.keep _ HR7.out (fun b hb hm => ⟨HT8.out.block b hb (fun h => h.elim (fun h => hm (.inl (by omega))) (fun h => hm (.inr h))), fun h => h.elim (fun h => hm (.inl h)) (fun h => (hn9 b h).elim (fun h => hm (.inr h)) (fun h => by omega))⟩))
            have hA9 : Hid (Own tWrite 74 w8 (fun b => Mo b ∨ b = w1.heap.size) B vw8 (ws ++ (acc ++ [(fl, ka, kb)]).map wrOf)) := Lib.hid (by rw [List.map_append, ← List.append_assoc]; exact HA8.out)
            have hT9 : Hid (Turn (fun b => b = w1.heap.size ∨ b = ob ∨ vw.ownBlock = some b) wc w8) := Lib.hid ⟨HT8.out.os.trans (hT57.os.trans hTr.out.os), HT8.out.tape.trans (hT57.tape.trans hTr.out.tape), HT8.out.output.trans (hT57.output.trans hTr.out.output), by have := HT8.out.size; omega, fun b hb hm =>
              (HT8.out.block b (by omega) (fun h => h.elim (fun h => hm (.inr (.inl h))) (fun h => (hvw4 b h).elim (fun h => hm (.inr (.inr h))) (fun h => by omega)))).trans ((hT57.block b (by omega) (fun h => hm (.inl h))).trans (hTr.out.block b hb hm))⟩
            have hm9 := partsM_rc hC9.out hR9.out
            have hv9 : ∀ b, vw8.ownBlock = some b → vw.ownBlock = some b ∨ wc.heap.size ≤ b := fun b h => (hn9 b h).elim (hvw4 b) (fun h => .inr (by omega))
            go_roundw
            case rel => exact ⟨f - 1, r3, ec, acc ++ [(fl, ka, kb)], v7, vw8, HFS, by omega, by simp; omega, hC9, hR9, HC8, hA9, hv9, hT9⟩
            case measure =>
              rw [hm9, hpm.out]
              omega
          · have hFE : FIN = (acc, e2) := hF.out.trans (triplesLoop_end hgo)
            have hrw : rb < w1.heap.size := by omega
            have hri : rb ≠ w1.heap.size := by omega
            have hnr : ¬ (rb = w1.heap.size ∨ rb = ob ∨ vw.ownBlock = some rb) := fun h => by
              rcases h with h | h | h
              · exact hri h
              · exact hro h
              · have := (HA.out.lt h).1; omega
            have hCb := Lib.hid ((HC1.out.step hSy).kept (hTr.out.block rb (by omega) hnr))
            have b1 : wr.cell? ⟨rb, 1, none⟩ = some (.int .i64 0) := hCb.out.cell 1
            have g1 : wr.frozen? ⟨rb, 1, none⟩ = false := hCb.out.frozen 1
            have hfin : ∀ u : Nat, (∃ v' vw' acc', RcAt (wr.setCell ⟨rb, 1, none⟩ (.int .i64 e2)) rb v' FIN.2 ∧ acc' = FIN.1 ∧ (Ty.slice Ty.bytes).rep (wr.setCell ⟨rb, 1, none⟩ (.int .i64 e2)) (fun b => M b ∨ vw'.ownBlock = some b) [v'] r ∧
                CellsAt (wr.setCell ⟨rb, 1, none⟩ (.int .i64 e2)) ob (recC kind x vw' vr cm vs vy id nm) 154 ∧ Own tWrite 74 (wr.setCell ⟨rb, 1, none⟩ (.int .i64 e2)) Mo B vw' (ws ++ acc'.map wrOf) ∧ (∀ b, vw'.ownBlock = some b → vw.ownBlock = some b ∨ W.heap.size ≤ b)) ∧
                Turn (fun b => b = rb ∨ b = ob ∨ vw.ownBlock = some b) W (wr.setCell ⟨rb, 1, none⟩ (.int .i64 e2)) ∧ u = u := fun (u : Nat) => by
              refine ⟨⟨v', vw4, acc, by rw [hFE]; exact CellsAt.set hCb.out 1 _, by rw [hFE], ?_, hCo'.out.kept (heap_setCell_other _ _ _ _ (fun h => hro h.symm)), Own.set (Own.less hAo'.out (fun b _ h => .inl h)) hMor hrB _, fun b h => (hvw4 b h).elim .inl (fun h => .inr (by omega))⟩, ?_, rfl⟩
              · refine Ty.keep _ HV.out fun b hb2 hm => ⟨?_, fun h => h.elim hm (fun h => (hvw4 b h).elim (fun h => hm (hMv b h)) (fun h => by omega))⟩
                have n1 : b ≠ rb := fun h => hm (h ▸ hMr)
                exact (heap_setCell_other _ _ _ _ n1).trans ((hTr.out.block b (by omega) (fun h => by
                  rcases h with h | h | h
                  · omega
                  · exact hm (h ▸ hMob)
                  · exact hm (hMv b h))).trans (hSy.heap hb2))
              · have t1 : Turn (fun b => b = rb ∨ b = ob ∨ vw.ownBlock = some b) W wr := ⟨hTr.out.os.trans ((Turn.of hSy (M := (· = rb))).os.trans HT.out.os), hTr.out.tape.trans ((Turn.of hSy (M := (· = rb))).tape.trans HT.out.tape), hTr.out.output.trans ((Turn.of hSy (M := (· = rb))).output.trans HT.out.output), by omega, fun b hb2 hm =>
                  (hTr.out.block b (by omega) (fun h => by
                    rcases h with h | h | h
                    · omega
                    · exact hm (.inr (.inl h))
                    · exact hm (.inr (.inr h)))).trans ((hSy.heap (by omega)).trans (HT.out.block b hb2 (fun h => hm (.inl h))))⟩
                exact t1.setCell (p := ⟨rb, 1, none⟩) (fun _ => .inl rfl) _
            have HFIN := Lib.hid hfin
            clear hfin
            by_cases he : e2 = 0
            · subst he
              have hq0 : qs = [] := by
                by_cases hq : qs = []
                · exact hq
                · exact absurd ⟨rfl, hq⟩ hgo
              subst hq0
              simp only [List.length_nil] at c0
              go_wp2
              refine bodyPost_end (results_none rfl _ _ _) rfl ?_
              obtain ⟨⟨v9, vw9, acc9, a1, a2, a3, a4, a5, a6⟩, a7, _⟩ := HFIN.out 0
              rw [hFE] at a1 a2
              subst a2
              exact ⟨rfl, ⟨v9, a1, vw9, a3, a4, a5, a6⟩, a7⟩
            · have he' : (e2 == 0) = false := beq_eq_false_iff_ne.2 he
              clear hgo
              go_wp2
              refine bodyPost_end (results_none rfl _ _ _) rfl ?_
              obtain ⟨⟨v9, vw9, acc9, a1, a2, a3, a4, a5, a6⟩, a7, _⟩ := HFIN.out 0
              rw [hFE] at a1 a2
              subst a2
              exact ⟨rfl, ⟨v9, a1, vw9, a3, a4, a5, a6⟩, a7⟩
  · simp only [ne_eq, he1, not_false_eq_true, if_true]
    have he' : (e1 == 0) = false := beq_eq_false_iff_ne.2 he1
    go_enter Try.func124, Try.ntmps124
    go_upto_region 1 with (go_at_call 109; refine HN.out.mono ?_; rintro y w1 ⟨p', v', rfl, hp, hC1, hv, hT⟩; obtain ⟨pa, pk, rfl, _, _, hpl⟩ := Ty.slice_val hp; have HC1 := Lib.hid hC1; have HV := Lib.hid hv; have HT := Lib.hid hT; clear hC1 hv hT hp)
    have c1 : w1.cell? ⟨rb, 1, none⟩ = some (.int .i64 e1) := HC1.out.cell 1
    go_wp2
    refine bodyPost_ret (v := .tuple #[]) (results_none rfl _ _ _) rfl ?_
    refine ⟨rfl, ⟨v', vw, [], HC1.out, rfl, Ty.less _ HV.out (fun b _ hm => hm.elim (fun h => h) (hMv b)), HC.out.kept (HT.out.block ob hobl (fun e => hro e.symm)), ?_, fun b hb => .inl hb⟩, HT.out.mono (fun b _ hb => .inl hb)⟩
    simp only [List.map_nil, List.append_nil]
    exact Own.kept HA.out (HT.out.kept.mono (fun b hb => by subst hb; exact hMor)) (fun g hg => HT.out.block g (HA.out.lt hg).2 (fun e => by have := (HA.out.lt hg).1; omega))
end Go.Proofs.Ythflkfgiclcdiaa

namespace Go.Proofs.Ythflkfgiclcdiaa
open Go.RowKit Go.Gr
set_option linter.unusedSimpArgs false
/-- What a taken triple is as a range. -/
abbrev rgOf (t : Trip) : DRange := ⟨t.2.1, t.2.2, t.1⟩
set_option maxRecDepth 100000 in
set_option maxHeartbeats 8000000 in
theorem rcTriplesR_ {W : World} {M Mo : Nat → Prop} {B rb ob bx : Nat} {v : Value} {e : Int} {ps : List (List UInt8)} {kind : Int} {x : DTxn} {vr vw : Value} {cm : Bool} {vs vy : Value} {id : Nat} {nm : ByteArray} {ws : List DRange}
    (h : RcAt W rb v e) (hr : (Ty.slice Ty.bytes).rep W M [v] ps) (hMr : M rb) (hMob : M ob) (hMv : ∀ b, vr.ownBlock = some b → M b) (hC : CellsAt W ob (recC kind x vw vr cm vs vy id nm) 154)
    (hb : W.cell? ⟨bx, 0, none⟩ = some (.pointer (some ⟨ob, 0, none⟩))) (hA : Own tRange 97 W Mo B vr ws) (hMo : Mo ob) (hMor : Mo rb) (hMoB : ∀ b, Mo b → b < B) (hoB : ob < B) (hbB : bx < B) (hrB : rb < B) (hB : B ≤ W.heap.size) (hro : rb ≠ ob) (hbo : bx ≠ ob) (hbr : bx ≠ rb) (hws : ws.length ≤ 17179869184) (hspl : (splitF (nextF ps e).1).1.length ≤ 4294967296) :
    Calls Try.prog 124 #[.pointer (some ⟨rb, 0, none⟩), .func (.func 126) #[] #[.pointer (some ⟨bx, 0, none⟩)]] W fun y w' => y = .returned (.tuple #[]) ∧
      (∃ v' vr' acc, RcAt w' rb v' (if (nextF ps e).2.2 ≠ 0 then (nextF ps e).2.2 else (triplesF (nextF ps e).1).2) ∧ acc = (if (nextF ps e).2.2 ≠ 0 then [] else (triplesF (nextF ps e).1).1) ∧ (Ty.slice Ty.bytes).rep w' (fun b => M b ∨ vr'.ownBlock = some b) [v'] (nextF ps e).2.1 ∧
        CellsAt w' ob (recC kind x vw vr' cm vs vy id nm) 154 ∧ Own tRange 97 w' Mo B vr' (ws ++ acc.map rgOf) ∧ (∀ b, vr'.ownBlock = some b → vr.ownBlock = some b ∨ W.heap.size ≤ b)) ∧
      Turn (fun b => b = rb ∨ b = ob ∨ vr.ownBlock = some b) W w' := by
  have hrbl := h.lt
  have hobl := hC.lt
  have hbxl := lt_of_cell hb
  have HN := Lib.hid (rcNext_ h hr hMr)
  have HC := Lib.hid hC
  have HA := Lib.hid hA
  have hent := enters_of Try.func126 (by kernel_rfl) rfl
  clear h hr hC hA
  generalize nextF ps e = N at *
  obtain ⟨p, r, e1⟩ := N
  simp only at HN ⊢
  by_cases he1 : e1 = 0
  · subst he1
    simp only [ne_eq, not_true_eq_false, if_false]
    have HTF := Lib.hid (show triplesF p = triplesLoop (splitF p).1.length (splitF p).1 (tripE (splitF p)) [] from rfl)
    have hSp := Lib.hid (fun (W : World) (M : Nat → Prop) (v : Value) (h : Ty.bytes.rep W M [v] p) => pSplit_ h)
    obtain ⟨FIN, hFIN⟩ : ∃ FIN, FIN = triplesF p := ⟨_, rfl⟩
    rw [← hFIN] at HTF ⊢
    clear hFIN
    generalize splitF p = SP at *
    obtain ⟨sp, se⟩ := SP
    simp only at HTF hSp
    go_enter Try.func124, Try.ntmps124
    go_upto_region 4 with (first
      | (go_at_call 109; refine HN.out.mono ?_; rintro y w1 ⟨p', v', rfl, hp, hC1, hv, hT⟩; obtain ⟨pa, pk, rfl, _, _, hpl⟩ := Ty.slice_val hp; have q1 : w1.cell? ⟨rb, 1, none⟩ = some (.int .i64 0) := hC1.cell 1; have HP := Lib.hid hp; have HC1 := Lib.hid hC1; have HV := Lib.hid hv; have HT := Lib.hid hT; have hz1 := hT.size; clear hC1 hv hT hp)
      | (go_at_call 80; refine (hSp.out _ _ _ (Ty.step _ HP.out (by (repeat (first | exact Step.refl _ | refine Step.alloc ?_ _ | refine Step.drew ?_ | refine Step.drewN ?_ _ | refine Step.setCell ?_ (by first | exact Nat.le_refl _ | assumption | omega | (simp; done) | (simp; omega)) _ | assumption | refine Step.trans ?_ (by assumption : Step _ _)))))).mono ?_; rintro y w2 ⟨v2, rfl, hR2, hS2⟩; obtain ⟨sa, sk, rfl, _, _, hsl⟩ := Ty.slice_val hR2; have s2 : ∀ j, w2.cell? ⟨w1.heap.size, j, none⟩ = _ := fun j => hS2.cell (by simp) j; have z2 : ∀ j, w2.frozen? ⟨w1.heap.size, j, none⟩ = _ := fun j => hS2.frozen (by simp) j; have HR2 := Lib.hid hR2; clear hR2))
    have hz2 := hS2.size
    simp only [World.size_alloc] at hz2
    refine wp_code (fun wx => RcAt wx w1.heap.size (.slice sa sp.length sk) se ∧ (Ty.slice Ty.bytes).rep wx (· < w1.heap.size + 1) [.slice sa sp.length sk] sp ∧ Step w1 wx) ?_ ?_
    · have b0 : RcAt w2 w1.heap.size (.slice none 0 0) 0 := CellsAt.step (CellsAt.new rfl) hS2
      refine ⟨CellsAt.set (CellsAt.set b0 0 _) 1 _, Ty.kept _ (Ty.kept _ (Ty.less _ HR2.out (fun b _ hb => by simp; exact hb)) (Kept.setCell _ _ _ (by simp))) (Kept.setCell _ _ _ (by simp)), by (repeat (first | exact Step.refl _ | refine Step.alloc ?_ _ | refine Step.drew ?_ | refine Step.drewN ?_ _ | refine Step.setCell ?_ (by first | exact Nat.le_refl _ | assumption | omega | (simp; done) | (simp; omega)) _ | assumption | refine Step.trans ?_ (by assumption : Step _ _)))⟩
    clear s2 z2 HR2 hS2 hz2
    rintro wx ⟨hCx, hRx, hSx⟩
    have x1 : wx.cell? ⟨w1.heap.size, 1, none⟩ = some (.int .i64 se) := hCx.cell 1
    have x0 : wx.cell? ⟨w1.heap.size, 0, none⟩ = some (.slice sa sp.length sk) := hCx.cell 0
    have y1 : wx.frozen? ⟨w1.heap.size, 1, none⟩ = false := hCx.frozen 1
    have hibl := hCx.lt
    have HCx := Lib.hid hCx
    have HRx := Lib.hid hRx
    have HTx := Lib.hid (HT.out.then hSx)
    rw [lim_eq] at hsl
    clear hCx hRx
    go_cut [5, 42] (fun s5 s42 wy => s5 = .pointer (some ⟨w1.heap.size, 0, none⟩) ∧ s42 = .bool (decide (se = 0 ∧ sp.length % 3 ≠ 0)) ∧ wy = wx)
    case first =>
      by_cases hs : se = 0
      · subst hs
        by_cases hm : sp.length % 3 ≠ 0
        · have hD : decide ((0 : Int) = 0 ∧ sp.length % 3 ≠ 0) = true := decide_eq_true ⟨rfl, hm⟩
          have hm2 : ((((sp.length : Int) % 3) == 0)) = false := beq_eq_false_iff_ne.2 (by omega)
          have hm8 : ((sp.length : Int) % 3 != 0) = true := by rw [bne, hm2]; rfl
          have HD := Lib.hid hD
          clear hD
          go_wp2
          go_meet
          case rel => exact ⟨rfl, by rw [HD.out], rfl⟩
        · have hD : decide ((0 : Int) = 0 ∧ sp.length % 3 ≠ 0) = false := decide_eq_false (fun h => hm h.2)
          have hm2 : ((((sp.length : Int) % 3) == 0)) = true := beq_iff_eq.2 (by omega)
          have hm8 : ((sp.length : Int) % 3 != 0) = false := by rw [bne, hm2]; rfl
          have HD := Lib.hid hD
          clear hD
          go_wp2
          go_meet
          case rel => exact ⟨rfl, by rw [HD.out], rfl⟩
      · have hD : decide (se = 0 ∧ sp.length % 3 ≠ 0) = false := decide_eq_false (fun h => hs h.1)
        have hs' : (se == 0) = false := beq_eq_false_iff_ne.2 hs
        have HD := Lib.hid hD
        clear hD
        go_wp2
        go_meet
        case rel => exact ⟨rfl, by rw [HD.out], rfl⟩
    case rest =>
      obtain ⟨rfl, rfl, rfl⟩ := hcut
      refine open_kk2 (by assumption) ?_
      go_cut [5] (fun s5 wy => s5 = .pointer (some ⟨w1.heap.size, 0, none⟩) ∧ Hid (RcAt wy w1.heap.size (.slice sa sp.length sk) (tripE (sp, se))) ∧ Hid ((Ty.slice Ty.bytes).rep wy (· < w1.heap.size + 1) [.slice sa sp.length sk] sp) ∧ Step w1 wy)
      case first =>
        by_cases hD : se = 0 ∧ sp.length % 3 ≠ 0
        · have hE : tripE (sp, se) = 3 := if_pos hD
          rw [decide_eq_true hD]
          go_wp2
          go_meet
          case rel => exact ⟨rfl, Lib.hid (by rw [hE]; exact CellsAt.set HCx.out 1 _), Lib.hid (Ty.kept _ HRx.out (Kept.setCell _ _ _ (by simp))), by (repeat (first | exact Step.refl _ | refine Step.alloc ?_ _ | refine Step.drew ?_ | refine Step.drewN ?_ _ | refine Step.setCell ?_ (by first | exact Nat.le_refl _ | assumption | omega | (simp; done) | (simp; omega)) _ | assumption | refine Step.trans ?_ (by assumption : Step _ _)))⟩
        · have hE : tripE (sp, se) = se := if_neg hD
          rw [decide_eq_false hD]
          go_wp2
          go_meet
          case rel => exact ⟨rfl, Lib.hid (by rw [hE]; exact HCx.out), HRx, hSx⟩
      case rest =>
        obtain ⟨rfl, hCy, hRy, hSy⟩ := hcut
        have hzy := hSy.size
        have hiby := hCy.out.lt
        have hobW : ob ≠ w1.heap.size := by omega
        have hCo := Lib.hid ((HC.out.kept (HT.out.block ob hobl (fun e => hro e.symm))).step hSy)
        have hAo : Hid (Own tRange 97 wc (fun b => Mo b ∨ b = w1.heap.size) B vr ws) := Lib.hid (Own.plus (Own.kept HA.out (HT.out.kept.mono (fun b hb => by subst hb; exact hMor)) (fun g hg => HT.out.block g (HA.out.lt hg).2 (fun e => by have := (HA.out.lt hg).1; omega))) hSy (Nat.le_refl _))
        have hbx := (hSy.cell (Nat.lt_of_lt_of_le hbxl hz1) 0).trans ((HT.out.cell hbxl hbr 0).trans hb)
        have hvw : ∀ b, vr.ownBlock = some b → b < W.heap.size := fun b hb => (HA.out.lt hb).2
        refine open_kk2 (by assumption) ?_
        go_wp2
        go_loopw [6] (fun _ w' => ∃ (f : Nat) (qs : List (List UInt8)) (e2 : Int) (acc : List Trip) (v4 vr4 : Value), Hid (FIN = triplesLoop f qs e2 acc) ∧ qs.length ≤ f ∧ acc.length + qs.length ≤ sp.length ∧ Hid (RcAt w' w1.heap.size v4 e2) ∧ Hid ((Ty.slice Ty.bytes).rep w' (fun b => b < w1.heap.size + 1 ∨ vr4.ownBlock = some b) [v4] qs) ∧
          Hid (CellsAt w' ob (recC kind x vw vr4 cm vs vy id nm) 154) ∧ Hid (Own tRange 97 w' (fun b => Mo b ∨ b = w1.heap.size) B vr4 (ws ++ acc.map rgOf)) ∧ (∀ b, vr4.ownBlock = some b → vr.ownBlock = some b ∨ wc.heap.size ≤ b) ∧ Hid (Turn (fun b => b = w1.heap.size ∨ b = ob ∨ vr.ownBlock = some b) wc w')) (fun _ W => partsM W w1.heap.size)
        case atStart => exact ⟨sp.length, sp, tripE (sp, se), [], _, vr, HTF, Nat.le_refl _, by simp, hCy, Lib.hid (Ty.less _ hRy.out (fun b _ hm => hm.elim (fun h => h) (fun h => by have := hvw b h; omega))), hCo, by simpa using hAo, fun b h => .inl h, Lib.hid (Turn.refl _ _)⟩
        case round =>
          obtain ⟨f, qs, e2, acc, v4, vr4, hF, hqf, hal, hCr, hRr, hCo', hAo', hvw4, hTr⟩ := hrel
          obtain ⟨qa, qc, rfl, _⟩ := Ty.slice_val hRr.out
          have c0 : wr.cell? ⟨w1.heap.size, 0, none⟩ = some (.slice qa qs.length qc) := hCr.out.cell 0
          have c1 : wr.cell? ⟨w1.heap.size, 1, none⟩ = some (.int .i64 e2) := hCr.out.cell 1
          have hzr := hTr.out.size
          have hibr := hCr.out.lt
          have hbxr := (hTr.out.cell (b := bx) (by omega) (fun h => by rcases h with h | h | h; omega; exact hbo h; have := (HA.out.lt h).1; omega) 0).trans hbx
          by_cases hgo : e2 = 0 ∧ qs ≠ []
          · obtain ⟨rfl, hq⟩ := hgo
            have HTU := Lib.hid (rcTruth_ hCr.out hRr.out (.inl (by omega)))
            have hlen := truthF_len hq
            have hFs : FIN = triplesLoop (f - 1) (nextF (nextF (truthF qs 0).2.1 (truthF qs 0).2.2).2.1 (nextF (truthF qs 0).2.1 (truthF qs 0).2.2).2.2).2.1 (nextF (nextF (truthF qs 0).2.1 (truthF qs 0).2.2).2.1 (nextF (truthF qs 0).2.1 (truthF qs 0).2.2).2.2).2.2
                (acc ++ [((truthF qs 0).1, (nextF (truthF qs 0).2.1 (truthF qs 0).2.2).1, (nextF (nextF (truthF qs 0).2.1 (truthF qs 0).2.2).2.1 (nextF (truthF qs 0).2.1 (truthF qs 0).2.2).2.2).1)]) := by
              obtain ⟨f', rfl⟩ : ∃ f', f = f' + 1 := ⟨f - 1, by omega⟩
              rw [hF.out, triplesLoop, if_pos ⟨rfl, hq⟩, Nat.add_sub_cancel]
            have HFS := Lib.hid hFs
            have hpos : decide ((0 : Int) < (qs.length : Int)) = true := decide_eq_true (by omega)
            have hpm := Lib.hid (partsM_at c0)
            have hn1 := nextF_len (truthF qs 0).2.1 (truthF qs 0).2.2
            have hn2 := nextF_len (nextF (truthF qs 0).2.1 (truthF qs 0).2.2).2.1 (nextF (truthF qs 0).2.1 (truthF qs 0).2.2).2.2
            clear hFs
            generalize truthF qs 0 = T at *
            obtain ⟨fl, r1, ea⟩ := T
            simp only at HTU hlen HFS hn1 hn2
            have HNA := Lib.hid (fun (W : World) (M : Nat → Prop) (v : Value) (h : RcAt W w1.heap.size v ea) (hr : (Ty.slice Ty.bytes).rep W M [v] r1) (hM : M w1.heap.size) => rcNext_ h hr hM)
            generalize nextF r1 ea = TA at *
            obtain ⟨ka, r2, eb⟩ := TA
            simp only at HFS hn1 hn2 HNA
            have HNB := Lib.hid (fun (W : World) (M : Nat → Prop) (v : Value) (h : RcAt W w1.heap.size v eb) (hr : (Ty.slice Ty.bytes).rep W M [v] r2) (hM : M w1.heap.size) => rcNext_ h hr hM)
            generalize nextF r2 eb = TB at *
            obtain ⟨kb, r3, ec⟩ := TB
            simp only at HFS hn2 HNB
            have hib4 : w1.heap.size < w1.heap.size + 1 ∨ vr4.ownBlock = some w1.heap.size := .inl (by omega)
            go_upto_region 9 with (first
              | (go_at_call 127; refine HTU.out.mono ?_; rintro y w5 ⟨rfl, ⟨v5, hC5, hR5⟩, hT5⟩; have HC5 := Lib.hid hC5; have HR5 := Lib.hid hR5; have HT5 := Lib.hid hT5; clear hC5 hR5 hT5)
              | (go_at_call 109; refine (HNB.out _ _ _ HC6.out HR6.out hib4).mono ?_; rintro y w7 ⟨kv, v7, rfl, hk7, hC7, hR7, hT7⟩; obtain ⟨b7, m7, rfl, _⟩ := Ty.slice_val hk7; have HK7 := Lib.hid hk7; have HC7 := Lib.hid hC7; have HR7 := Lib.hid hR7; have HT7 := Lib.hid hT7; clear hk7 hC7 hR7 hT7)
              | (go_at_call 109; refine (HNA.out _ _ _ HC5.out HR5.out hib4).mono ?_; rintro y w6 ⟨kv, v6, rfl, hk6, hC6, hR6, hT6⟩; obtain ⟨b6, m6, rfl, _⟩ := Ty.slice_val hk6; have HK6 := Lib.hid hk6; have HC6 := Lib.hid hC6; have HR6 := Lib.hid hR6; have HT6 := Lib.hid hT6; clear hk6 hC6 hR6 hT6))
            have hT57 := (HT5.out.trans HT6.out).trans HT7.out
            have hz57 := hT57.size
            have hv4i : ∀ b, vr4.ownBlock = some b → b ≠ w1.heap.size := fun b h e => by
              rcases hvw4 b h with h1 | h1
              · have := hvw b h1; omega
              · omega
            have hCo7 := Lib.hid (hCo'.out.kept (hT57.block ob (by omega) hobW))
            have hAo7 := Lib.hid (Own.kept hAo'.out (hT57.kept.mono (fun b hb => .inr hb)) (fun g hg => hT57.block g (hAo'.out.lt hg).2 (hv4i g hg)))
            have hbx7 := (hT57.cell (b := bx) (by omega) (by omega) 0).trans hbxr
            have hKA := Lib.hid (Ty.less (M' := fun b => (Mo b ∨ b = w1.heap.size) ∨ vr4.ownBlock = some b) _ (Ty.kept _ HK6.out (HT7.out.kept.mono (fun b hb => by subst hb; exact hib4))) (fun b _ hm => by rcases hm with (hm | hm) | hm; (exact .inl (by have := hMoB b hm; omega)); (exact .inl (by omega)); exact .inr hm))
            have hKB := Lib.hid (Ty.less (M' := fun b => (Mo b ∨ b = w1.heap.size) ∨ vr4.ownBlock = some b) _ HK7.out (fun b _ hm => by rcases hm with (hm | hm) | hm; (exact .inl (by have := hMoB b hm; omega)); (exact .inl (by omega)); exact .inr hm))
            go_wp2_with (refine (rcField2_ (M := fun b => Mo b ∨ b = w1.heap.size) hCo7.out hbx7 hAo7.out (.inl hMo) hoB (by omega) hbB hKA.out hKB.out (by simp; rw [lim_eq]; omega)).mono ?_; rintro y w8 ⟨rfl, ⟨vr8, hC8, hA8, hn8⟩, hT8⟩; have HC8 := Lib.hid hC8; have HA8 := Lib.hid hA8; have HT8 := Lib.hid hT8; clear hC8 hA8 hT8)
            have hno : ¬ (w1.heap.size = ob ∨ vr4.ownBlock = some w1.heap.size) := fun h => h.elim (fun h => hobW h.symm) (fun h => hv4i _ h rfl)
            have hi7 : w1.heap.size < w7.heap.size := by omega
            have hC9 := Lib.hid (HC7.out.kept (HT8.out.block _ hi7 hno))
            have hn9 : ∀ b, vr8.ownBlock = some b → vr4.ownBlock = some b ∨ w7.heap.size ≤ b := fun b hb => by
              rcases hn8 with h | h | ⟨b', h, h2⟩
              · exact .inl (h ▸ hb)
              · rw [h] at hb
                exact .inr (Nat.le_of_eq (by simpa using hb))
              · rw [h] at hb
                obtain rfl : b' = b := by simpa using hb
                exact .inr h2
            have hR9 : Hid ((Ty.slice Ty.bytes).rep w8 (fun b => b < w1.heap.size + 1 ∨ vr8.ownBlock = some b) [v7] r3) := Lib.hid (Ty.keep _ HR7.out (fun b hb hm => ⟨HT8.out.block b hb (fun h => h.elim (fun h => hm (.inl (by omega))) (fun h => hm (.inr h))), fun h => h.elim (fun h => hm (.inl h)) (fun h => (hn9 b h).elim (fun h => hm (.inr h)) (fun h => by omega))⟩))
            have hA9 : Hid (Own tRange 97 w8 (fun b => Mo b ∨ b = w1.heap.size) B vr8 (ws ++ (acc ++ [(fl, ka, kb)]).map rgOf)) := Lib.hid (by rw [List.map_append, ← List.append_assoc]; exact HA8.out)
            have hT9 : Hid (Turn (fun b => b = w1.heap.size ∨ b = ob ∨ vr.ownBlock = some b) wc w8) := Lib.hid ⟨HT8.out.os.trans (hT57.os.trans hTr.out.os), HT8.out.tape.trans (hT57.tape.trans hTr.out.tape), HT8.out.output.trans (hT57.output.trans hTr.out.output), by have := HT8.out.size; omega, fun b hb hm =>
              (HT8.out.block b (by omega) (fun h => h.elim (fun h => hm (.inr (.inl h))) (fun h => (hvw4 b h).elim (fun h => hm (.inr (.inr h))) (fun h => by omega)))).trans ((hT57.block b (by omega) (fun h => hm (.inl h))).trans (hTr.out.block b hb hm))⟩
            have hm9 := partsM_rc hC9.out hR9.out
            have hv9 : ∀ b, vr8.ownBlock = some b → vr.ownBlock = some b ∨ wc.heap.size ≤ b := fun b h => (hn9 b h).elim (hvw4 b) (fun h => .inr (by omega))
            go_roundw
            case rel => exact ⟨f - 1, r3, ec, acc ++ [(fl, ka, kb)], v7, vr8, HFS, by omega, by simp; omega, hC9, hR9, HC8, hA9, hv9, hT9⟩
            case measure =>
              rw [hm9, hpm.out]
              omega
          · have hFE : FIN = (acc, e2) := hF.out.trans (triplesLoop_end hgo)
            have hrw : rb < w1.heap.size := by omega
            have hri : rb ≠ w1.heap.size := by omega
            have hnr : ¬ (rb = w1.heap.size ∨ rb = ob ∨ vr.ownBlock = some rb) := fun h => by
              rcases h with h | h | h
              · exact hri h
              · exact hro h
              · have := (HA.out.lt h).1; omega
            have hCb := Lib.hid ((HC1.out.step hSy).kept (hTr.out.block rb (by omega) hnr))
            have b1 : wr.cell? ⟨rb, 1, none⟩ = some (.int .i64 0) := hCb.out.cell 1
            have g1 : wr.frozen? ⟨rb, 1, none⟩ = false := hCb.out.frozen 1
            have hfin : ∀ u : Nat, (∃ v' vr' acc', RcAt (wr.setCell ⟨rb, 1, none⟩ (.int .i64 e2)) rb v' FIN.2 ∧ acc' = FIN.1 ∧ (Ty.slice Ty.bytes).rep (wr.setCell ⟨rb, 1, none⟩ (.int .i64 e2)) (fun b => M b ∨ vr'.ownBlock = some b) [v'] r ∧
                CellsAt (wr.setCell ⟨rb, 1, none⟩ (.int .i64 e2)) ob (recC kind x vw vr' cm vs vy id nm) 154 ∧ Own tRange 97 (wr.setCell ⟨rb, 1, none⟩ (.int .i64 e2)) Mo B vr' (ws ++ acc'.map rgOf) ∧ (∀ b, vr'.ownBlock = some b → vr.ownBlock = some b ∨ W.heap.size ≤ b)) ∧
                Turn (fun b => b = rb ∨ b = ob ∨ vr.ownBlock = some b) W (wr.setCell ⟨rb, 1, none⟩ (.int .i64 e2)) ∧ u = u := fun (u : Nat) => by
              refine ⟨⟨v', vr4, acc, by rw [hFE]; exact CellsAt.set hCb.out 1 _, by rw [hFE], ?_, hCo'.out.kept (heap_setCell_other _ _ _ _ (fun h => hro h.symm)), Own.set (Own.less hAo'.out (fun b _ h => .inl h)) hMor hrB _, fun b h => (hvw4 b h).elim .inl (fun h => .inr (by omega))⟩, ?_, rfl⟩
              · refine Ty.keep _ HV.out fun b hb2 hm => ⟨?_, fun h => h.elim hm (fun h => (hvw4 b h).elim (fun h => hm (hMv b h)) (fun h => by omega))⟩
                have n1 : b ≠ rb := fun h => hm (h ▸ hMr)
                exact (heap_setCell_other _ _ _ _ n1).trans ((hTr.out.block b (by omega) (fun h => by
                  rcases h with h | h | h
                  · omega
                  · exact hm (h ▸ hMob)
                  · exact hm (hMv b h))).trans (hSy.heap hb2))
              · have t1 : Turn (fun b => b = rb ∨ b = ob ∨ vr.ownBlock = some b) W wr := ⟨hTr.out.os.trans ((Turn.of hSy (M := (· = rb))).os.trans HT.out.os), hTr.out.tape.trans ((Turn.of hSy (M := (· = rb))).tape.trans HT.out.tape), hTr.out.output.trans ((Turn.of hSy (M := (· = rb))).output.trans HT.out.output), by omega, fun b hb2 hm =>
                  (hTr.out.block b (by omega) (fun h => by
                    rcases h with h | h | h
                    · omega
                    · exact hm (.inr (.inl h))
                    · exact hm (.inr (.inr h)))).trans ((hSy.heap (by omega)).trans (HT.out.block b hb2 (fun h => hm (.inl h))))⟩
                exact t1.setCell (p := ⟨rb, 1, none⟩) (fun _ => .inl rfl) _
            have HFIN := Lib.hid hfin
            clear hfin
            by_cases he : e2 = 0
            · subst he
              have hq0 : qs = [] := by
                by_cases hq : qs = []
                · exact hq
                · exact absurd ⟨rfl, hq⟩ hgo
              subst hq0
              simp only [List.length_nil] at c0
              go_wp2
              refine bodyPost_end (results_none rfl _ _ _) rfl ?_
              obtain ⟨⟨v9, vr9, acc9, a1, a2, a3, a4, a5, a6⟩, a7, _⟩ := HFIN.out 0
              rw [hFE] at a1 a2
              subst a2
              exact ⟨rfl, ⟨v9, a1, vr9, a3, a4, a5, a6⟩, a7⟩
            · have he' : (e2 == 0) = false := beq_eq_false_iff_ne.2 he
              clear hgo
              go_wp2
              refine bodyPost_end (results_none rfl _ _ _) rfl ?_
              obtain ⟨⟨v9, vr9, acc9, a1, a2, a3, a4, a5, a6⟩, a7, _⟩ := HFIN.out 0
              rw [hFE] at a1 a2
              subst a2
              exact ⟨rfl, ⟨v9, a1, vr9, a3, a4, a5, a6⟩, a7⟩
  · simp only [ne_eq, he1, not_false_eq_true, if_true]
    have he' : (e1 == 0) = false := beq_eq_false_iff_ne.2 he1
    go_enter Try.func124, Try.ntmps124
    go_upto_region 1 with (go_at_call 109; refine HN.out.mono ?_; rintro y w1 ⟨p', v', rfl, hp, hC1, hv, hT⟩; obtain ⟨pa, pk, rfl, _, _, hpl⟩ := Ty.slice_val hp; have HC1 := Lib.hid hC1; have HV := Lib.hid hv; have HT := Lib.hid hT; clear hC1 hv hT hp)
    have c1 : w1.cell? ⟨rb, 1, none⟩ = some (.int .i64 e1) := HC1.out.cell 1
    go_wp2
    refine bodyPost_ret (v := .tuple #[]) (results_none rfl _ _ _) rfl ?_
    refine ⟨rfl, ⟨v', vr, [], HC1.out, rfl, Ty.less _ HV.out (fun b _ hm => hm.elim (fun h => h) (hMv b)), HC.out.kept (HT.out.block ob hobl (fun e => hro e.symm)), ?_, fun b hb => .inl hb⟩, HT.out.mono (fun b _ hb => .inl hb)⟩
    simp only [List.map_nil, List.append_nil]
    exact Own.kept HA.out (HT.out.kept.mono (fun b hb => by subst hb; exact hMor)) (fun g hg => HT.out.block g (HA.out.lt hg).2 (fun e => by have := (HA.out.lt hg).1; omega))
end Go.Proofs.Ythflkfgiclcdiaa

namespace Go.Proofs.Ythflkfgiclcdiaa
open Go.RowKit Go.Gr
set_option linter.unusedSimpArgs false
/-- What the writes' part says. -/
def rdW (ps : List (List UInt8)) (e : Int) : List Trip × List (List UInt8) × Int :=
  (if (nextF ps e).2.2 ≠ 0 then [] else (triplesF (nextF ps e).1).1, (nextF ps e).2.1, if (nextF ps e).2.2 ≠ 0 then (nextF ps e).2.2 else (triplesF (nextF ps e).1).2)
/-- The writes of a record of one shard, if it is one. -/
def readW (p : List UInt8) : Option (List DWrite) :=
  let h := nextF (splitF p).1 (splitF p).2
  if h.2.2 = 0 ∧ h.1 = [4] then
    let t := someF 3 h.2.1 0
    let w := rdW t.2.1 t.2.2
    let a := nextF w.2.1 w.2.2
    if a.2.2 = 0 ∧ a.2.1 = [] then some (w.1.map wrOf) else none
  else none
def pairOf (x : DWrite) : DPair := ⟨x.key, x.value⟩
def readRows : List (List UInt8) → Option (List (List DPair))
  | [] => some []
  | p :: ps => match readW p with
    | none => none
    | some ws => match readRows ps with
      | none => none
      | some l => some (ws.map pairOf :: l)
/-- The outcome of bytes, and the error. -/
def toReplyF (b : List UInt8) : DOutcome × Int :=
  if (splitF b).2 ≠ 0 then (⟨0, 0, [], []⟩, (splitF b).2) else
  match (splitF b).1 with
  | c :: a :: ps => if (numberF c).2 ≠ 0 ∨ (numberF a).2 ≠ 0 then (⟨0, 0, [], []⟩, 3) else
    match readRows ps with
    | none => (⟨0, 0, [], []⟩, 3)
    | some rows => (⟨(numberF c).1, (numberF a).1, rows, []⟩, 0)
  | _ => (⟨0, 0, [], []⟩, 3)
theorem numberF_num {x : Int} (h : I64 x) : numberF (numB (u64 x)) = (x, 0) := by
  have h1 := takeB_num (u64_lt x) [] []
  simp only [List.nil_append, List.append_nil, List.length_nil, Nat.zero_add] at h1
  unfold numberF
  rw [h1]
  simp only
  rw [if_neg (by omega), ← u64_eq]
  unfold I64 at h
  rw [wrap_u64]
  refine Prod.ext ?_ rfl
  simp only [wrap64]
  omega
theorem someF_three {a b c : Nat} (ha : a < 18446744073709551616) (hb : b < 18446744073709551616) (hc : c < 18446744073709551616) (r : List (List UInt8)) : someF 3 (numsB [a, b, c] :: r) 0 = ([a, b, c], r, 0) := by
  have hn : nextF (numsB [a, b, c] :: r) 0 = (numsB [a, b, c], r, 0) := by simp [nextF]
  have hs : numsB [a, b, c] = numB a ++ (numB b ++ numB c) := by simp [numsB]
  have h1 : takeB (numsB [a, b, c]) 0 = (a, (numB a).length, 0) := by
    have := takeB_num ha [] (numB b ++ numB c)
    simpa [hs] using this
  have h2 : takeB (numsB [a, b, c]) (numB a).length = (b, (numB a).length + (numB b).length, 0) := by
    have := takeB_num hb (numB a) (numB c)
    simpa [hs] using this
  have h3 : takeB (numsB [a, b, c]) ((numB a).length + (numB b).length) = (c, (numB a).length + (numB b).length + (numB c).length, 0) := by
    have := takeB_num hc (numB a ++ numB b) []
    simpa [hs] using this
  have hl : (numsB [a, b, c]).length = (numB a).length + (numB b).length + (numB c).length := by rw [hs]; simp; omega
  unfold someF
  rw [hn]
  simp only
  simp only [takesF, if_true, h1, h2, h3]
  rw [hl, if_neg (by omega)]
theorem triplesLoop_tri : ∀ (ws : List DWrite) (f : Nat) (acc : List Trip), (triB ws).length ≤ f → triplesLoop f (triB ws) 0 acc = (acc ++ ws.map fun x => (x.gone, x.key, x.value), 0)
  | [], f, acc, _ => by rw [triplesLoop_end (by simp [triB])]; simp [triB]
  | x :: ws, f, acc, h => by
    have h1 : triB (x :: ws) = truthB x.gone :: x.key :: x.value :: triB ws := by simp [triB]
    rw [h1] at h ⊢
    obtain ⟨f', rfl⟩ : ∃ f', f = f' + 1 := ⟨f - 1, by simp at h; omega⟩
    have ht : truthF (truthB x.gone :: x.key :: x.value :: triB ws) 0 = (x.gone, x.key :: x.value :: triB ws, 0) := by
      unfold truthF
      simp only [nextF, ne_eq, not_true_eq_false, if_false]
      cases x.gone <;> simp [truthB]
    rw [triplesLoop, if_pos ⟨rfl, by simp⟩, ht]
    simp only [nextF, ne_eq, not_true_eq_false, if_false]
    rw [triplesLoop_tri ws f' _ (by simp at h; omega)]
    simp
theorem triplesF_tri {ws : List DWrite} (hn : (triB ws).length < 18446744073709551616) (h : ∀ p ∈ triB ws, p.length < 18446744073709551616) : triplesF (joinB (triB ws)) = (ws.map fun x => (x.gone, x.key, x.value), 0) := by
  unfold triplesF
  rw [splitF_join hn h]
  have he : tripE (triB ws, 0) = 0 := by
    unfold tripE
    rw [if_neg]
    rintro ⟨_, h2⟩
    simp only [triB_len] at h2
    omega
  rw [he]
  simp only
  rw [triplesLoop_tri ws _ [] (Nat.le_refl _)]
  simp
theorem readW_one {x : DTxn} {ws : List DWrite} {y : List UInt8} (hx : x.boot < 18446744073709551616 ∧ x.session < 18446744073709551616 ∧ x.seq < 18446744073709551616) (h : (oneB x ws y).length < 18446744073709551616) : readW (oneB x ws y) = some ws := by
  have hp : ∀ p ∈ oneParts x ws y, p.length < 18446744073709551616 := fun p hp => Nat.lt_of_le_of_lt (joinB_mem hp) h
  have hj : (joinB (triB ws)).length < 18446744073709551616 := hp _ (by simp [oneParts])
  have h1 : splitF (oneB x ws y) = (oneParts x ws y, 0) := splitF_join (Nat.lt_of_le_of_lt (joinB_len _) h) hp
  have h2 := triplesF_tri (Nat.lt_of_le_of_lt (joinB_len (triB ws)) hj) (fun p hp => Nat.lt_of_le_of_lt (joinB_mem hp) hj)
  unfold readW
  rw [h1]
  have h3 : nextF (oneParts x ws y) 0 = ([4], [numsB [x.boot, x.session, x.seq], joinB (triB ws), y], 0) := by simp [nextF, oneParts]
  simp only [h3]
  rw [if_pos (by simp), someF_three hx.1 hx.2.1 hx.2.2]
  simp only [rdW, nextF, ne_eq, not_true_eq_false, if_false, h2]
  rw [if_pos (by simp), List.map_map]
  congr 1
  conv => rhs; rw [← List.map_id ws]
  rfl
theorem zero_txn : (⟨0, 0, 0⟩ : DTxn).boot < 18446744073709551616 ∧ (⟨0, 0, 0⟩ : DTxn).session < 18446744073709551616 ∧ (⟨0, 0, 0⟩ : DTxn).seq < 18446744073709551616 := by
  refine ⟨?_, ?_, ?_⟩ <;> simp only <;> omega
theorem readW_zero {ws : List DWrite} (h : (oneB ⟨0, 0, 0⟩ ws []).length < 18446744073709551616) : readW (oneB ⟨0, 0, 0⟩ ws []) = some ws := readW_one zero_txn h
theorem pairs_back (r : List DPair) : (r.map fun p => (⟨p.key, p.value, false⟩ : DWrite)).map pairOf = r := by
  induction r with
  | nil => rfl
  | cons p r ih =>
    simp only [List.map_cons, ih]
    rfl
theorem readRows_rows {rows : List (List DPair)} (h : ∀ r ∈ rows, (rowB r).length < 18446744073709551616) : readRows (rows.map rowB) = some rows := by
  induction rows with
  | nil => rfl
  | cons r rows ih =>
    have h0 := h r (List.mem_cons_self ..)
    have ih := ih (fun q hq => h q (List.mem_cons_of_mem _ hq))
    have h1 : readW (rowB r) = some (r.map fun p => (⟨p.key, p.value, false⟩ : DWrite)) := by
      unfold rowB at h0 ⊢
      exact readW_zero h0
    have h2 : (r.map fun p => (⟨p.key, p.value, false⟩ : DWrite)).map pairOf = r := pairs_back r
    simp only [List.map_cons, readRows]
    rw [h1, ih]
    simp only [h2]
/-- What was written is read. -/
theorem toReplyF_reply {err at_ : Int} {rows : List (List DPair)} (he : I64 err) (ha : I64 at_) (h : (replyB err at_ rows).length < 18446744073709551616) : toReplyF (replyB err at_ rows) = (⟨err, at_, rows, []⟩, 0) := by
  have hp : ∀ p ∈ replyParts err at_ rows, p.length < 18446744073709551616 := fun p hp => Nat.lt_of_le_of_lt (joinB_mem hp) h
  have h1 : splitF (replyB err at_ rows) = (replyParts err at_ rows, 0) := splitF_join (Nat.lt_of_le_of_lt (joinB_len _) h) hp
  have h2 := readRows_rows (rows := rows) (fun r hr => hp _ (List.mem_append_right _ (List.mem_map_of_mem hr)))
  unfold toReplyF
  rw [h1]
  simp only [replyParts, List.cons_append, List.nil_append]
  rw [if_neg (by simp), numberF_num he, numberF_num ha, h2]
  simp
theorem toReplyF_err (b : List UInt8) : (toReplyF b).1.writes = [] ∧ ((toReplyF b).2 = 0 ∨ ((toReplyF b).2 = 3 ∨ (toReplyF b).2 = 5) ∧ (toReplyF b).1 = ⟨0, 0, [], []⟩) := by
  unfold toReplyF
  split
  · rename_i h
    exact ⟨rfl, .inr ⟨(splitF_err b).resolve_left h, rfl⟩⟩
  · split
    · split
      · exact ⟨rfl, .inr ⟨.inl rfl, rfl⟩⟩
      · split
        · exact ⟨rfl, .inr ⟨.inl rfl, rfl⟩⟩
        · exact ⟨rfl, .inl rfl⟩
    · exact ⟨rfl, .inr ⟨.inl rfl, rfl⟩⟩
theorem readRows_snoc (ps : List (List UInt8)) (p : List UInt8) : readRows (ps ++ [p]) = match readRows ps with
    | none => none
    | some l => match readW p with
      | none => none
      | some ws => some (l ++ [ws.map pairOf]) := by
  induction ps with
  | nil =>
    simp only [List.nil_append, readRows]
  | cons q ps ih =>
    simp only [List.cons_append, readRows, ih]
    cases readW q with
    | none => rfl
    | some ws =>
      cases readRows ps with
      | none => rfl
      | some l => cases readW p <;> rfl
end Go.Proofs.Ythflkfgiclcdiaa
