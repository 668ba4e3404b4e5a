/-
  Walk: a request upon the law's reader (Run).
-/
import Derived.Test.YthflkfgiclcdiaaZB16
import Derived.Test.YthflkfgiclcdiaaZB10
set_option linter.unusedVariables false
set_option linter.unusedSimpArgs false
namespace Go.Proofs.Ythflkfgiclcdiaa
open Go.RowKit Go.Gr Go.Sort
set_option linter.unusedSimpArgs false
theorem stRowsP : SliceTy Try.prog 38 59 (Ty.slice tPair).n := .mk' (z := .slice none 0 0) (by_ := 24) Try.underlying38 (by kernel_rfl) rfl (by decide) (by omega)
theorem nil_repG {α : Type} {E : Ty α} {w : World} {M : Nat → Prop} : (Ty.slice E).rep w M [.slice none 0 0] [] := ⟨none, 0, rfl, Nat.le_refl _, Nat.zero_le _, by simp, fun h => absurd h (by simp)⟩
abbrev outC (er at_ : Int) (rv wv : Value) : Array Value := #[.int .i64 er, .int .i64 at_, rv, wv]
/-- Where a request stands behind k operations. -/
def RunAt (Y : Nat → Prop) (w w' : World) (lb vb mb rb ob : Nat) (vp : Value) (P : List DPair) (ops : List DOp) (k : Nat) : Prop :=
  ∃ (va rv : Value) (rs : List (List Value)) (ws : List DWrite) (rows : List (List DPair)), OvAt (fun b => (b = ob ∨ b = rb ∨ Y b) ∨ rv.ownBlock = some b) w' lb vb mb w.heap.size vp va rs P ws ∧ CellsAt w' ob (outC 0 0 rv (.slice none 0 0)) 41 ∧
    Gr.Own (Ty.slice tPair) 59 w' (ovM (fun b => b = ob ∨ b = rb ∨ Y b) lb mb va) (ob + 1) rv rows ∧ va.ownBlock ≠ some ob ∧ va.ownBlock ≠ some rb ∧ CellsAt w' rb (outC 0 0 (.slice none 0 0) (.slice none 0 0)) 41 ∧ Turn (· = lb) w w' ∧
    rs.length ≤ k ∧ ws.length ≤ k ∧ (∀ x ∈ ws, x.key.length ≤ 64) ∧ RisW ws ∧ rows.length = k ∧ runL P ws rows k (ops.drop k) = runL P [] [] 0 ops
theorem doB_keys {P : List DPair} {ws ws' : List DWrite} {o : DOp} {x : List DPair} (hd : doB P ws o = some (x, ws')) (hk : o.key.length ≤ 64) (hw : ∀ y ∈ ws, y.key.length ≤ 64) : ∀ y ∈ ws', y.key.length ≤ 64 := by
  have hp : ∀ z : DWrite, z.key = o.key → ∀ y ∈ putK DWrite.key z ws, y.key.length ≤ 64 := fun z hz y hy => by
    rcases mem_putK.1 hy with rfl | ⟨h, _⟩
    · rw [hz]; exact hk
    · exact hw y h
  unfold doB at hd
  repeat' split at hd
  all_goals first
    | (cases hd; done)
    | (simp only [Option.some.injEq, Prod.mk.injEq] at hd; obtain ⟨_, rfl⟩ := hd; first | exact hw | exact hp _ rfl)
/-- Rows, as a world goes on. -/
theorem own_keepM {α : Type} {E : Ty α} {e : TypeId} {w w' : World} {M M' : Nat → Prop} {B : Nat} {v : Value} {xs : List α} (h : Gr.Own E e w M B v xs) (hg : ∀ g, v.ownBlock = some g → w'.heap[g]? = w.heap[g]?) (hk : ∀ b, b < w.heap.size → ¬ M b → w'.heap[b]? = w.heap[b]? ∧ ¬ M' b) : Gr.Own E e w' M' B v xs := by
  obtain ⟨hl, cells, ho, hr⟩ := h
  exact ⟨hl, cells, own_kept ho hg, fun i hi => E.keep (hr i hi) fun b hb hm => ⟨(hk b hb (fun h => hm (.inl h))).1, fun h => h.elim (hk b hb (fun h => hm (.inl h))).2 (fun h => hm (.inr h))⟩⟩
theorem map_not_row {α : Type} {E : Ty α} {e : TypeId} {w : World} {M M' : Nat → Prop} {B mb : Nat} {v : Value} {xs : List α} {ws : List DWrite} (h : Gr.Own E e w M B v xs) (hm : MapR Try.prog 9 DWrite.key wrR w M' mb ws) : v.ownBlock ≠ some mb := by
  intro he
  obtain ⟨_, cells, ho, _⟩ := h
  obtain ⟨zs, ⟨⟨es, clock, hb, _⟩, _⟩, _⟩ := hm
  rcases ho.2 with ⟨rfl, _⟩ | ⟨g, c, r, rfl, _, hh, _⟩
  · simp [Value.ownBlock] at he
  · have : g = mb := by simpa [Value.ownBlock] using he
    subst this
    rw [hb] at hh
    cases hh
theorem RunAt_next {Y : Nat → Prop} {w w5 W5 w6 : World} {lb vb mb rb ob k : Nat} {vp va rv v6 : Value} {rs : List (List Value)} {P : List DPair} {ws : List DWrite} {ops : List DOp} {rows rows' : List (List DPair)}
    (hY : ∀ b, Y b → b < w.heap.size ∧ b ≠ lb) (hlb : lb < w.heap.size) (h1 : w.heap.size ≤ rb) (h2 : rb < mb) (h3 : vb = mb + 1) (h4 : ob = mb + 2)
    (hOv : OvAt (fun b => (b = ob ∨ b = rb ∨ Y b) ∨ rv.ownBlock = some b) w5 lb vb mb w.heap.size vp va rs P ws) (hR : Gr.Own (Ty.slice tPair) 59 w5 (ovM (fun b => b = ob ∨ b = rb ∨ Y b) lb mb va) (ob + 1) rv rows) (hC : CellsAt w5 ob (outC 0 0 rv (.slice none 0 0)) 41) (hva1 : va.ownBlock ≠ some ob) (hva2 : va.ownBlock ≠ some rb)
    (hRb : CellsAt w5 rb (outC 0 0 (.slice none 0 0) (.slice none 0 0)) 41) (hT : Turn (· = lb) w w5) (hS : Step w5 W5) (hA : Gr.Own (Ty.slice tPair) 59 w6 (ovM (fun b => b = ob ∨ b = rb ∨ Y b) lb mb va) (ob + 1) v6 rows') (hG : W5.grownBy w6 rv.ownBlock) (hn : v6.ownBlock = rv.ownBlock ∨ v6.ownBlock = some W5.heap.size)
    (hrs : rs.length ≤ k) (hws : ws.length ≤ k) (hwk : ∀ x ∈ ws, x.key.length ≤ 64) (hwr : RisW ws) (hrl : rows'.length = k) (hrun : runL P ws rows' k (ops.drop k) = runL P [] [] 0 ops) :
    RunAt Y w (w6.setCell ⟨ob, 2, none⟩ v6) lb vb mb rb ob vp P ops k := by
  have z1 := hS.size
  have z2 := hG.size
  have z3 := hC.lt
  have z4 := hT.size
  have hgr : ∀ g, rv.ownBlock = some g → ob + 1 ≤ g ∧ g < w5.heap.size := fun g hg => hR.lt hg
  have hblk : ∀ b, b < w5.heap.size → ¬ ((b = ob ∨ b = rb ∨ Y b) ∨ rv.ownBlock = some b) → (w6.setCell ⟨ob, 2, none⟩ v6).heap[b]? = w5.heap[b]? := fun b hb hx =>
    (heap_setCell_other _ _ _ _ (fun e => hx (.inl (.inl e)))).trans ((hG.block b (by omega) (fun e => hx (.inr e.symm))).trans (hS.heap hb))
  have hobk : w6.heap[ob]? = w5.heap[ob]? := (hG.block ob (by omega) (fun e => by have := (hgr ob e.symm).1; omega)).trans (hS.heap z3)
  have hnot : ∀ b, b ≤ mb + 1 → b ≠ rb → ¬ Y b → ¬ ((b = ob ∨ b = rb ∨ Y b) ∨ rv.ownBlock = some b) := fun b hb hr hy h => h.elim (fun e => e.elim (fun e => by omega) (fun e => e.elim hr hy)) (fun e => by have := (hgr b e).1; omega)
  have hsz : (w6.setCell ⟨ob, 2, none⟩ v6).heap.size = w6.heap.size := by simp
  refine ⟨va, v6, rs, ws, rows', ?_, ?_, ?_, hva1, hva2, ?_, ?_, hrs, hws, hwk, hwr, hrl, hrun⟩
  · refine hOv.rex (by rw [hsz]; omega) hblk (hnot lb (by omega) (by omega) (fun h => (hY _ h).2 rfl)) (hnot vb (by omega) (by omega) (fun h => by have := (hY _ h).1; omega)) (hnot mb (by omega) (by omega) (fun h => by have := (hY _ h).1; omega)) (fun b hb hx => ?_) (fun b hb => ?_) (fun b hb hx => ?_)
    · rcases hx with (rfl | rfl | hx) | hx
      · exact hva1 hb
      · exact hva2 hb
      · have := (hOv.own.lt hb).1
        have := (hY _ hx).1
        omega
      · exact Own.ne hR hOv.own (by decide) b hx hb
    · rw [hsz]
      rcases hb with (rfl | rfl | hb) | hb
      · omega
      · have := hRb.lt; omega
      · have := (hY _ hb).1; omega
      · exact (hA.lt hb).2
    · rcases hx with hx | hx
      · exact .inl hx
      · rcases hn with hn | hn
        · exact .inr (hn ▸ hx)
        · rw [hn] at hx
          injection hx with hx
          omega
  · exact CellsAt.set (CellsAt.kept hC hobk) 2 _
  · exact own_keepM hA (fun g hg => heap_setCell_other _ _ _ _ (fun e => by have := (hA.lt hg).1; have e' : g = ob := e; omega)) (fun b hb hm => ⟨heap_setCell_other _ _ _ _ (fun e => hm (.inl (.inl e))), hm⟩)
  · exact CellsAt.kept hRb ((heap_setCell_other _ _ _ _ (show rb ≠ ob by omega)).trans ((hG.block rb (by have := hRb.lt; omega) (fun e => by have := (hgr rb e.symm).1; omega)).trans (hS.heap hRb.lt)))
  · refine ((hT.then hS).grown hG (fun q e hq => ?_)).setCell (p := ⟨ob, 2, none⟩) (fun h => ?_) _
    · have := (hgr q e).1; omega
    · have h' : ob < w.heap.size := h; omega
theorem turn_old {w W w5 : World} {lb : Nat} {M : Nat → Prop} (h : Turn (· = lb) w W) (h5 : Turn M W w5) (hM : ∀ b, b < w.heap.size → M b → b = lb) : Turn (· = lb) w w5 :=
  ⟨h5.os.trans h.os, h5.tape.trans h.tape, h5.output.trans h.output, Nat.le_trans h.size h5.size, fun b h1 h2 => (h5.block b (Nat.lt_of_lt_of_le h1 h.size) (fun hm => h2 (hM b h1 hm))).trans (h.block b h1 h2)⟩
theorem run_called {Y : Nat → Prop} {w wr W w5 : World} {lb vb mb rb ob : Nat} {vp va va5 rv v5 : Value} {rs rs5 : List (List Value)} {P x : List DPair} {ws ws5 : List DWrite} {rows : List (List DPair)}
    (hY : ∀ b, Y b → b < w.heap.size ∧ b ≠ lb) (hlb : lb < w.heap.size) (h1 : w.heap.size ≤ rb) (h2 : rb < mb) (h3 : vb = mb + 1) (h4 : ob = mb + 2)
    (hOv : OvAt (fun b => (b = ob ∨ b = rb ∨ Y b) ∨ rv.ownBlock = some b) wr lb vb mb w.heap.size vp va rs P ws) (hR : Gr.Own (Ty.slice tPair) 59 wr (ovM (fun b => b = ob ∨ b = rb ∨ Y b) lb mb va) (ob + 1) rv rows) (hC : CellsAt wr ob (outC 0 0 rv (.slice none 0 0)) 41) (hva1 : va.ownBlock ≠ some ob) (hva2 : va.ownBlock ≠ some rb)
    (hRb : CellsAt wr rb (outC 0 0 (.slice none 0 0) (.slice none 0 0)) 41) (hT : Turn (· = lb) w wr) (hS : Step wr W) (hva : VaNew W va va5) (hT5 : Turn (ovM (fun _ => False) lb mb va) W w5)
    (hOv5 : OvAt (fun b => (b = ob ∨ b = rb ∨ Y b) ∨ rv.ownBlock = some b) w5 lb vb mb w.heap.size vp va5 rs5 P ws5) (hA5 : Gr.Own tPair 95 w5 (fun b => b < W.heap.size ∨ ovM (fun b => (b = ob ∨ b = rb ∨ Y b) ∨ rv.ownBlock = some b) lb mb va5 b) W.heap.size v5 x) :
    CellsAt w5 ob (outC 0 0 rv (.slice none 0 0)) 41 ∧ CellsAt w5 rb (outC 0 0 (.slice none 0 0) (.slice none 0 0)) 41 ∧ Gr.Own (Ty.slice tPair) 59 w5 (ovM (fun b => b = ob ∨ b = rb ∨ Y b) lb mb va5) (ob + 1) rv rows ∧ va5.ownBlock ≠ some ob ∧ va5.ownBlock ≠ some rb ∧ Turn (· = lb) w w5 ∧
      (Ty.slice tPair).rep w5 (fun b => ovM (fun b => b = ob ∨ b = rb ∨ Y b) lb mb va5 b ∨ rv.ownBlock = some b) [v5] x := by
  have z1 := hS.size
  have z2 := hT5.size
  have z3 := hC.lt
  have z4 := hT.size
  have z5 := hRb.lt
  have zm := hOv.map.lt
  have zl := CellsAt.lt hOv.ls
  have hgr : ∀ g, rv.ownBlock = some g → ob + 1 ≤ g ∧ g < wr.heap.size := fun g hg => hR.lt hg
  have hne := Own.ne hR hOv.own (by decide)
  have hM5 : ∀ b, b ≠ lb → b ≠ mb → va.ownBlock ≠ some b → ¬ ovM (fun _ => False) lb mb va b := fun b e1 e2 e3 h => by
    rcases h with h | h | h | h
    · exact h
    · exact e1 h
    · exact e2 h
    · exact e3 h
  refine ⟨(CellsAt.step hC hS).kept (hT5.block ob (by omega) (hM5 ob (by omega) (by omega) hva1)), (CellsAt.step hRb hS).kept (hT5.block rb (by omega) (hM5 rb (by omega) (by omega) hva2)), ?_, hva.not (by omega) hva1, hva.not (by omega) hva2, ?_, ?_⟩
  · refine own_keepM (hR.step hS) (fun g hg => hT5.block g (by have := (hgr g hg).2; omega) (hM5 g (by have := (hgr g hg).1; omega) (by have := (hgr g hg).1; omega) (hne g hg))) (fun b k1 k2 => ⟨hT5.block b k1 (fun h => k2 ?_), ovM_new hva k1 k2⟩)
    rcases h with h | h
    · exact h.elim
    · exact .inr h
  · refine turn_old (hT.then hS) hT5 fun b hb h => ?_
    rcases h with h | h | h | h
    · exact h.elim
    · exact h
    · omega
    · have := (hOv.own.lt h).1; omega
  · refine (hA5.less (M' := fun b => ovM (fun b => b = ob ∨ b = rb ∨ Y b) lb mb va5 b ∨ rv.ownBlock = some b) (fun b _ h => ?_)).rep' (fun b hb h => ?_)
    · rcases h with ((h | h | h) | h | h | h) | h
      · exact .inl (by omega)
      · exact .inl (by omega)
      · exact .inl (by have := (hY _ h).1; omega)
      · exact .inl (by omega)
      · exact .inl (by omega)
      · exact .inr (.inr (.inr (.inr h)))
      · exact .inl (by have := (hgr b h).2; omega)
    · have hb1 := (hA5.lt hb).1
      rcases h with ((h | h | h) | h | h | h) | h
      · omega
      · omega
      · have := (hY _ h).1; omega
      · omega
      · omega
      · exact Own.ne hA5 hOv5.own (by decide) b hb h
      · have := (hgr b h).2; omega
set_option maxRecDepth 100000 in
set_option maxHeartbeats 8000000 in
theorem brRunY_ {Y : Nat → Prop} {w : World} {lb : Nat} {vp ov : Value} {P : List DPair} {ops : List DOp} (hL : LsAt w lb vp (.slice none 0 0)) (hY : ∀ b, Y b → b < w.heap.size ∧ b ≠ lb) (hp : (Ty.slice tPair).rep w (fun b => b = lb ∨ Y b) [vp] P) (ho : (Ty.slice tOp).rep w (fun b => b = lb ∨ Y b) [ov] ops) (hP : RisP P) (hPl : P.length ≤ 1000) :
    Calls Try.prog 25 #[.iface 62 (.pointer (some ⟨lb, 0, none⟩)), ov] w fun e w' => ∃ rv wv, e = .returned (.agg (outC (runB P ops).err (runB P ops).at_ rv wv)) ∧
      (Ty.slice (Ty.slice tPair)).rep w' Y [rv] (runB P ops).rows ∧ (Ty.slice tWrite).rep w' Y [wv] (runB P ops).writes ∧ Turn (· = lb) w w' := by
  obtain ⟨oa, oc, rfl, _, _, hol⟩ := Ty.slice_val ho
  rw [lim_eq] at hol
  have hlb := CellsAt.lt hL
  have HL := Lib.hid hL
  have HPP := Lib.hid hp
  have HO := Lib.hid ho
  have HP := Lib.hid hP
  have hmm := @run_makeMap Try.prog
  by_cases hck : checkB ops = 0
  · have hrun : runB P ops = runL P [] [] 0 ops := by unfold runB; rw [if_neg (by simp [hck])]
    rw [hrun]
    have hok := check_ok hck
    have hol2 := hok.1
    have HOK := Lib.hid hok.2
    have HCK := Lib.hid hck
    clear hL hp ho hP hck hrun hok
    go_enter Try.func25, Try.ntmps25
    go_upto_region 6 with (go_at_call 27; refine (Check_ (Ty.step _ HO.out (by (repeat (first | exact Step.refl _ | refine Step.alloc ?_ _ | refine Step.drew ?_ | refine Step.drewN ?_ _ | refine Step.setCell ?_ (by first | exact Nat.le_refl _ | assumption | omega | (simp; done) | (simp; omega)) _ | assumption | refine Step.trans ?_ (by assumption : Step _ _)))))).mono ?_; rintro e w1 ⟨rfl, hS1⟩; rw [HCK.out])
    refine wp_code (fun wx => wx.heap[w1.heap.size]? = some (.map #[] 0) ∧ CellsAt wx (w1.heap.size + 1) (ovC lb w1.heap.size) 127 ∧ CellsAt wx (w1.heap.size + 2) (outC 0 0 (.slice none 0 0) (.slice none 0 0)) 41 ∧ Step w1 wx ∧ wx.heap.size = w1.heap.size + 3) ?_ ?_
    · have hs : Step w1 ((((w1.alloc (.map #[] 0)).alloc (.cells (ovC lb w1.heap.size) 127)).alloc (.cells (outC 0 0 (.slice none 0 0) (.slice none 0 0)) 41))) := by (repeat (first | exact Step.refl _ | refine Step.alloc ?_ _ | refine Step.drew ?_ | refine Step.drewN ?_ _ | refine Step.setCell ?_ (by first | exact Nat.le_refl _ | assumption | omega | (simp; done) | (simp; omega)) _ | assumption | refine Step.trans ?_ (by assumption : Step _ _)))
      refine ⟨?_, ?_, CellsAt.new (by simp), hs, by simp⟩
      · exact (((Step.refl _).alloc _).alloc _ : Step (w1.alloc (.map #[] 0)) _).heap (by simp) |>.trans (heap_alloc_at rfl)
      · exact CellsAt.step (CellsAt.new (by simp)) ((Step.refl _).alloc _)
    rintro w2 ⟨hm2, hv2, ho2, hS2, hz2⟩
    have hz1 : w.heap.size + 1 ≤ w1.heap.size := by have := hS1.size; simpa using this
    have hrb2 : CellsAt w2 w.heap.size (outC 0 0 (.slice none 0 0) (.slice none 0 0)) 41 := CellsAt.step (CellsAt.new rfl) (hS1.trans hS2)
    have hSw2 : Step w w2 := ((Step.refl w).alloc _).trans (hS1.trans hS2)
    obtain ⟨mb, hmb⟩ : ∃ m, w1.heap.size = m := ⟨_, rfl⟩
    rw [hmb] at hm2 hv2 ho2 hz2 hz1 ⊢
    obtain ⟨ob, hob⟩ : ∃ o, mb + 1 + 1 = o := ⟨_, rfl⟩
    have hob1 : mb + 2 ≤ ob := by omega
    have hob2 : ob ≤ mb + 2 := by omega
    rw [show mb + 2 = ob by omega] at ho2
    rw [hob]
    clear hob
    have hst : RunAt Y w w2 lb (mb + 1) mb w.heap.size ob vp P ops 0 := by
      refine ⟨.slice none 0 0, .slice none 0 0, [], [], [], ?_, ho2, Gr.Own.nil, by simp [Value.ownBlock], by simp [Value.ownBlock], hrb2, Turn.of hSw2, by simp, by simp, by simp, List.Pairwise.nil, rfl, rfl⟩
      exact {
        ls := CellsAt.step HL.out hSw2
        own := Gr.Own.nil
        hlB := hlb
        hB := hSw2.size
        ov := hv2
        map := MapR.empty hm2
        prs := Ty.keep _ HPP.out (fun b h1 h2 => ⟨hSw2.heap h1, fun h => by
          rcases h with ((h | h | h) | h) | h | h | h
          · omega
          · omega
          · exact h2 (.inr h)
          · simp [Value.ownBlock] at h
          · exact h2 (.inl h)
          · omega
          · simp [Value.ownBlock] at h⟩)
        xs := fun b h => by
          rcases h with (h | h | h) | h
          · omega
          · omega
          · have := (hY _ h).1; omega
          · simp [Value.ownBlock] at h
        vl := by omega
        vm := by omega
        ml := by omega
        av := by simp [Value.ownBlock]
        am := by simp [Value.ownBlock] }
    have HST := Lib.hid hst
    clear hm2 hv2 ho2 hS2 hrb2 hSw2 hst hS1 hmb HL HPP hmm
    go_wp2
    go_loopw [24] (fun i w' => ∃ k : Nat, i = .int .i64 k ∧ k ≤ ops.length ∧ Hid (RunAt Y w w' lb (mb + 1) mb w.heap.size ob vp P ops k)) (fun i _ => ops.length - (Go.RowKit.intOf i).toNat)
    case atStart => exact ⟨0, rfl, by omega, HST⟩
    case round =>
      obtain ⟨k, rfl, hk, hra⟩ := hrel
      obtain ⟨va, rv, rs, ws, rows, hOv, hC, hR, hva1, hva2, hRb, hT, hrs, hws, hwk, hwr, hrl, hrun⟩ := hra.out
      obtain ⟨ra, rn, rc, rfl, HRN⟩ := hR.valN
      have hzr := hT.size
      have HOv := Lib.hid hOv
      have HC := Lib.hid hC
      have HR := Lib.hid hR
      have HRb := Lib.hid hRb
      have HT := Lib.hid hT
      have HWK := Lib.hid hwk
      have HWR := Lib.hid hwr
      have HRL := Lib.hid hrl
      have HRUN := Lib.hid hrun
      have HVA1 := Lib.hid hva1
      have HVA2 := Lib.hid hva2
      have hor : (Ty.slice tOp).rep wr (ovM (fun b => (b = ob ∨ b = w.heap.size ∨ Y b) ∨ (Value.slice ra rn rc).ownBlock = some b) lb mb va) [.slice oa ops.length oc] ops := Ty.keep _ HO.out (fun b h1 h2 => ⟨hT.block b h1 (fun e => h2 (.inl e)), fun h => by
          rcases h with ((h | h | h) | h) | h | h | h
          · omega
          · omega
          · exact h2 (.inr h)
          · have := (hR.lt h).1; omega
          · exact h2 (.inl h)
          · omega
          · have := (hOv.own.lt h).1; omega⟩)
      have HOR := Lib.hid hor
      clear hOv hC hR hRb hT hwk hwr hrl hrun hva1 hva2 hor hra
      by_cases hlt : k < ops.length
      · have hB : Step wr wr := Step.refl wr
        obtain ⟨pb, po, pes, rfl, phb, _, pu, pcu⟩ := Ty.slice_at HOR.out hlt
        obtain ⟨pc1, pc2, rfl, ph0, ph1, ph2, ph3⟩ := pu
        have pq0 := (Step.cell (w' := wr) (by (repeat (first | exact Step.refl _ | refine Step.alloc ?_ _ | refine Step.drew ?_ | refine Step.drewN ?_ _ | refine Step.setCell ?_ (by first | exact Nat.le_refl _ | assumption | omega | (simp; done) | (simp; omega)) _ | assumption | refine Step.trans ?_ (by assumption : Step _ _)))) phb _).trans (pcu 0 _ rfl)
        have pq1 := (Step.cell (w' := wr) (by (repeat (first | exact Step.refl _ | refine Step.alloc ?_ _ | refine Step.drew ?_ | refine Step.drewN ?_ _ | refine Step.setCell ?_ (by first | exact Nat.le_refl _ | assumption | omega | (simp; done) | (simp; omega)) _ | assumption | refine Step.trans ?_ (by assumption : Step _ _)))) phb _).trans (pcu 1 _ rfl)
        have pq2 := (Step.cell (w' := wr) (by (repeat (first | exact Step.refl _ | refine Step.alloc ?_ _ | refine Step.drew ?_ | refine Step.drewN ?_ _ | refine Step.setCell ?_ (by first | exact Nat.le_refl _ | assumption | omega | (simp; done) | (simp; omega)) _ | assumption | refine Step.trans ?_ (by assumption : Step _ _)))) phb _).trans (pcu 2 _ rfl)
        have pq3 := (Step.cell (w' := wr) (by (repeat (first | exact Step.refl _ | refine Step.alloc ?_ _ | refine Step.drew ?_ | refine Step.drewN ?_ _ | refine Step.setCell ?_ (by first | exact Nat.le_refl _ | assumption | omega | (simp; done) | (simp; omega)) _ | assumption | refine Step.trans ?_ (by assumption : Step _ _)))) phb _).trans (pcu 3 _ rfl)
        simp only [show tOp.n = 4 from rfl, Nat.add_zero] at pq0 pq1 pq2 pq3
        obtain ⟨pa1, pn1, rfl, _⟩ := Ty.slice_val ph1
        obtain ⟨pa2, pn2, rfl, _⟩ := Ty.slice_val ph2
        have pH0 := Lib.hid ph0
        have pH1 := Lib.hid ph1
        have pH2 := Lib.hid ph2
        have pH3 := Lib.hid ph3
        clear pcu ph0 ph1 ph2 ph3
        obtain ⟨hkd, hkl, hmo⟩ := HOK.out _ (List.getElem_mem hlt)
        have hDO := fun (W : World) (hW : Step wr W) => ovDo_ (o := ops[k]) (HOv.out.step hW) (Ty.step _ pH1.out hW) (Ty.step _ pH2.out hW) hkd hkl hmo (by omega) (fun x hx => by have := HWK.out x hx; omega) (by omega) HP.out hPl
        have hdk : ops.drop k = ops[k] :: ops.drop (k + 1) := List.drop_eq_getElem_cons hlt
        have hpt : wr.cell? ⟨ob, 2, none⟩ = some (.slice ra rn rc) := HC.out.cell 2
        cases hd : doB P ws ops[k] with
        | none =>
          rw [hd] at hDO
          have HDO := Lib.hid hDO
          have hrl2 : runL P [] [] 0 ops = ⟨12, k, [], []⟩ := by rw [← HRUN.out, hdk]; unfold runL; rw [hd]
          have HRL2 := Lib.hid hrl2
          clear hDO hd hdk hrl2 hkd hkl hmo hpt
          go_wp2_with (go_at_call 60; refine (HDO.out _ (by (repeat (first | exact Step.refl _ | refine Step.alloc ?_ _ | refine Step.drew ?_ | refine Step.drewN ?_ _ | refine Step.setCell ?_ (by first | exact Nat.le_refl _ | assumption | omega | (simp; done) | (simp; omega)) _ | assumption | refine Step.trans ?_ (by assumption : Step _ _))))).mono ?_; rintro e w5 ⟨va5, hva5, hT5, hE⟩; obtain rfl : e = _ := hE; have hRb5 := (CellsAt.step (w' := _) HRb.out (by (repeat (first | exact Step.refl _ | refine Step.alloc ?_ _ | refine Step.drew ?_ | refine Step.drewN ?_ _ | refine Step.setCell ?_ (by first | exact Nat.le_refl _ | assumption | omega | (simp; done) | (simp; omega)) _ | assumption | refine Step.trans ?_ (by assumption : Step _ _))))).kept (hT5.block w.heap.size (by first | assumption | omega | (simp; done) | (simp; omega)) (fun h => by rcases h with h | h | h | h; exact h; omega; omega; exact HVA2.out h)); have g0 := hRb5.cell 0; have g1 := hRb5.cell 1; have g2 := hRb5.cell 2; have g3 := hRb5.cell 3; have f0 := hRb5.frozen 0; have f1 := hRb5.frozen 1; have f2 := hRb5.frozen 2; have f3 := hRb5.frozen 3; have HRb5 := Lib.hid hRb5; have HT5 := Lib.hid hT5; clear hT5 hRb5 hva5)
          rw [HRL2.out]
          refine bodyPost_ret (v := .agg (outC 12 (k : Int) (.slice none 0 0) (.slice none 0 0))) (results_cell_row rfl _ _ _ _ _ (0, 0) _ rfl (CellsAt.set (CellsAt.set (CellsAt.set (CellsAt.set HRb5.out 0 _) 1 _) 2 _) 3 _) Try.underlying41 rfl (by kernel_rfl)) rfl ⟨_, _, rfl, nil_repG, nil_repG, ?_⟩
          have ht := turn_old (HT.out.then ((Step.refl wr).alloc _)) HT5.out (fun b hb h => by
            rcases h with h | h | h | h
            · exact h.elim
            · exact h
            · omega
            · have := (HOv.out.own.lt h).1; omega)
          iterate 4 refine Turn.setCell ?_ (fun h => absurd h (Nat.lt_irrefl _)) _
          exact ht
        | some y =>
          obtain ⟨x, ws'⟩ := y
          rw [hd] at hDO
          have HDO := Lib.hid hDO
          have hrl2 : runL P ws' (rows ++ [x]) (k + 1) (ops.drop (k + 1)) = runL P [] [] 0 ops := by
            rw [← HRUN.out, hdk]
            conv => rhs; unfold runL
            rw [hd]
          have HRL2 := Lib.hid hrl2
          have HWK2 := Lib.hid (doB_keys hd hkl HWK.out)
          have hwl2 := doB_length hd
          have HWR2 := Lib.hid (doB_rising HWR.out hd)
          have hlim6 : rows.length + 1 ≤ lim := by rw [HRL.out, lim_eq]; omega
          clear hDO hd hdk hrl2 hkd hkl hmo hpt
          go_wp2_with (first
            | (go_at_call 60; refine (HDO.out _ (by (repeat (first | exact Step.refl _ | refine Step.alloc ?_ _ | refine Step.drew ?_ | refine Step.drewN ?_ _ | refine Step.setCell ?_ (by first | exact Nat.le_refl _ | assumption | omega | (simp; done) | (simp; omega)) _ | assumption | refine Step.trans ?_ (by assumption : Step _ _))))).mono ?_; rintro e w5 ⟨va5, hva5, hT5, hE⟩; obtain ⟨v5, rs5, rfl, hOv5, hrs5, hA5⟩ := hE; obtain ⟨q1, q2, q3, q4, q5, q6, q7⟩ := run_called (rb := w.heap.size) hY hlb (Nat.le_refl _) (by omega) rfl (by omega) HOv.out HR.out HC.out HVA1.out HVA2.out HRb.out HT.out (by (repeat (first | exact Step.refl _ | refine Step.alloc ?_ _ | refine Step.drew ?_ | refine Step.drewN ?_ _ | refine Step.setCell ?_ (by first | exact Nat.le_refl _ | assumption | omega | (simp; done) | (simp; omega)) _ | assumption | refine Step.trans ?_ (by assumption : Step _ _)))) hva5 hT5 hOv5 hA5; obtain ⟨a5, n5, c5, rfl, HN5⟩ := hA5.valN; have HC5 := Lib.hid q1; have HRb5 := Lib.hid q2; have HR5 := Lib.hid q3; have HVA51 := Lib.hid q4; have HVA52 := Lib.hid q5; have HT5 := Lib.hid q6; have HREP := Lib.hid q7; have HOv5 := Lib.hid hOv5; have g2 := q1.cell 2; have hz5 := q1.lt; clear q1 q2 q3 q4 q5 q6 q7 hva5 hT5 hOv5 hA5)
            | (at_builtin; refine wpList_append_gen (E := Ty.slice tPair) (B := ob + 1) (M := ovM (fun b => b = ob ∨ b = w.heap.size ∨ Y b) lb mb va5) (xs := rows) (ys := [x]) rfl (.tmp 41) (.tmp 43) rfl stRowsP (HR5.out.alloc _) (Src.oneAt (E := Ty.slice tPair) (by simp) HREP.out) (by simpa using hlim6) (by simp; omega) rfl rfl ?_; intro v6 w6 hA6 hG6 hn6; have hC6 := (CellsAt.step HC5.out ((Step.refl _).alloc _)).kept (hG6.block ob (by first | assumption | omega | (simp; done) | (simp; omega)) (fun e => (by have := (HR5.out.lt e.symm).1; omega))); obtain ⟨a6, n6, c6, rfl, HN6⟩ := hA6.valN; have g26 := hC6.cell 2; have f26 := hC6.frozen 2; have HA6 := Lib.hid hA6; have HG6 := Lib.hid hG6; have HNN6 := Lib.hid hn6; clear hA6 hG6 hn6 hC6))
          go_roundw
          case rel => exact ⟨k + 1, by go_num, by omega, Lib.hid (RunAt_next hY hlb (Nat.le_refl _) (by omega) rfl (by omega) HOv5.out HR5.out HC5.out HVA51.out HVA52.out HRb5.out HT5.out ((Step.refl _).alloc _) HA6.out HG6.out HNN6.out (by omega) (by omega) HWK2.out HWR2.out (by rw [List.length_append, HRL.out]; rfl) HRL2.out)⟩
          case measure => ((try simp [Go.RowKit.intOf]); omega)
      · obtain rfl : k = ops.length := by omega
        have hfin : runL P [] [] 0 ops = ⟨0, 0, rows, ws⟩ := by rw [← HRUN.out, List.drop_length]; rfl
        have HFIN := Lib.hid hfin
        have hp1 : wr.cell? ⟨mb + 1, 1, none⟩ = some (.map (some mb)) := HOv.out.ov.cell 1
        have hmp := HOv.out.map
        have HMP := Lib.hid hmp
        have hvbl := HOv.out.ov.lt
        have hobl := HC.out.lt
        have hdis : ws.Pairwise fun p q => p.key ≠ q.key := HWR.out.imp fun h => cmpB_ne h
        have HDIS := Lib.hid hdis
        clear hfin hmp hdis
        go_upto_region 15 with (first
          | (go_at_call 63; refine (wValues_ _ _).mono ?_; rintro e w5 ⟨rfl, rfl⟩)
          | (go_at_call 62; refine (collWrites_ (M := ovM (fun b => (b = ob ∨ b = w.heap.size ∨ Y b) ∨ (Value.slice ra rn rc).ownBlock = some b) lb mb va) (HMP.out.step keep_wrR ((Step.refl wr).alloc _)) (by simp) (CellsAt.cell (CellsAt.new rfl) 0) (by omega)).mono ?_; rintro e w6 ⟨v6, xs6, rfl, hA6, hp6, hS6⟩; have HA6 := Lib.hid hA6; have HP6 := Lib.hid hp6; have HS6 := Lib.hid hS6; clear hA6 hp6 hS6)
          | (go_at_call 61; refine (sorted_own HA6.out ((HP6.out.pairwise_iff (fun {_ _} h => Ne.symm h)).2 HDIS.out)).mono ?_; rintro e w7 ⟨rfl, ys, hA7, hp7, hr7, hT7⟩; obtain ⟨a7, n7, c7, rfl, HN7⟩ := hA7.valN; have hC7 := (CellsAt.step HC.out (((Step.refl _).alloc _).trans HS6.out)).kept (hT7.block ob (by have := HS6.out.size; simp at this; omega) (fun e => (by have := (HA6.out.lt e).1; simp at this; omega))); have g3 := hC7.cell 3; have fr3 := hC7.frozen 3; have HC7 := Lib.hid hC7; have HA7 := Lib.hid hA7; have HP7 := Lib.hid hp7; have HR7 := Lib.hid hr7; have HT7 := Lib.hid hT7; clear hC7 hA7 hp7 hr7 hT7))
        have hys : ys = ws := Rising.ext HR7.out HWR.out (fun x => (HP7.out.trans HP6.out).mem_iff)
        have HYS := Lib.hid hys
        clear hys
        have hz6 : wr.heap.size + 1 ≤ w6.heap.size := by have := HS6.out.size; simpa using this
        have hz7 : w6.heap.size ≤ w7.heap.size := HT7.out.size
        have hrbl := HRb.out.lt
        have hS6w : Step wr w6 := ((Step.refl _).alloc _).trans HS6.out
        have HS6w := Lib.hid hS6w
        clear hS6w
        refine wp_code (fun wx => CellsAt wx ob (outC 0 0 (.slice ra rn rc) (.slice a7 n7 c7)) 41 ∧ CellsAt wx w.heap.size (outC 0 0 (.slice none 0 0) (.slice none 0 0)) 41 ∧ (Ty.slice (Ty.slice tPair)).rep wx (fun b => b = w.heap.size ∨ Y b) [.slice ra rn rc] rows ∧ (Ty.slice tWrite).rep wx (fun b => b = w.heap.size ∨ Y b) [.slice a7 n7 c7] ws ∧ Turn (· = lb) w wx) ?_ ?_
        · have h7 : ∀ b, b < wr.heap.size → w7.heap[b]? = wr.heap[b]? := fun b hb => (HT7.out.block b (by omega) (fun e => by have := (HA7.out.lt e).1; simp at this; omega)).trans (HS6w.out.heap hb)
          refine ⟨CellsAt.set HC7.out 3 _, CellsAt.other ((HRb.out).kept (h7 _ hrbl)) (show w.heap.size ≠ ob by omega) _, ?_, ?_, ?_⟩
          · have o1 := own_keepM (M' := fun b => b = ob ∨ b = w.heap.size ∨ Y b) HR.out (fun g hg => h7 g (HR.out.lt hg).2) (fun b h1 h2 => ⟨h7 b h1, fun h => h2 (.inl h)⟩)
            have o2 := own_keepM (w' := w7.setCell ⟨ob, 3, none⟩ (.slice a7 n7 c7)) (M' := fun b => b = w.heap.size ∨ Y b) o1 (fun g hg => heap_setCell_other _ _ _ _ (fun e => by have := (HR.out.lt hg).1; have e' : g = ob := e; omega)) (fun b h1 h2 => ⟨heap_setCell_other _ _ _ _ (fun e => h2 (.inl e)), fun h => h2 (.inr h)⟩)
            exact o2.rep' (fun b hb h => by have := (HR.out.lt hb).1; rcases h with h | h; omega; have := (hY _ h).1; omega)
          · have o1 := own_keepM (w' := w7.setCell ⟨ob, 3, none⟩ (.slice a7 n7 c7)) (M' := fun b => b = w.heap.size ∨ Y b) HA7.out (fun g hg => heap_setCell_other _ _ _ _ (fun e => by have := (HA7.out.lt hg).1; have e' : g = ob := e; simp at this; omega)) (fun b h1 h2 => ⟨heap_setCell_other _ _ _ _ (fun e => h2 (.inl (.inl (.inl e)))), fun h => h2 (.inl (.inl (.inr h)))⟩)
            rw [HYS.out] at o1
            exact o1.rep' (fun b hb h => by have := (HA7.out.lt hb).1; simp at this; rcases h with h | h; omega; have := (hY _ h).1; omega)
          · refine Turn.setCell ?_ (fun h => absurd (show ob < w.heap.size from h) (by omega)) _
            exact turn_old (HT.out.then HS6w.out) HT7.out (fun b hb h => by have := (HA6.out.lt h).1; simp at this; omega)
        rintro w8 ⟨hC8, hRb8, hR8, hW8, hT8⟩
        have e0 := hC8.cell 0
        have e1 := hC8.cell 1
        have e2 := hC8.cell 2
        have e3 := hC8.cell 3
        have k0 := hRb8.cell 0
        have k1 := hRb8.cell 1
        have k2 := hRb8.cell 2
        have k3 := hRb8.cell 3
        have f0 := hRb8.frozen 0
        have f1 := hRb8.frozen 1
        have f2 := hRb8.frozen 2
        have f3 := hRb8.frozen 3
        have HRb8 := Lib.hid hRb8
        have HR8 := Lib.hid hR8
        have HW8 := Lib.hid hW8
        have HT8 := Lib.hid hT8
        clear hC8 hRb8 hR8 hW8 hT8 g3 fr3 hp1
        go_wp2
        rw [HFIN.out]
        refine bodyPost_ret (v := .agg (outC 0 0 (.slice ra rn rc) (.slice a7 n7 c7))) (results_cell_row rfl _ _ _ _ _ (0, 0) _ rfl (CellsAt.set (CellsAt.set (CellsAt.set (CellsAt.set HRb8.out 0 _) 1 _) 2 _) 3 _) Try.underlying41 rfl (by kernel_rfl)) rfl ⟨_, _, rfl, ?_, ?_, ?_⟩
        · refine Ty.less (M := fun b => b = w.heap.size ∨ Y b) _ ?_ (fun b _ h => .inr h)
          iterate 4 refine Ty.kept _ ?_ (Kept.setCell _ _ _ (.inl rfl))
          exact HR8.out
        · refine Ty.less (M := fun b => b = w.heap.size ∨ Y b) _ ?_ (fun b _ h => .inr h)
          iterate 4 refine Ty.kept _ ?_ (Kept.setCell _ _ _ (.inl rfl))
          exact HW8.out
        · iterate 4 refine Turn.setCell ?_ (fun h => absurd h (Nat.lt_irrefl _)) _
          exact HT8.out
  · have hrun : runB P ops = ⟨checkB ops, 0, [], []⟩ := by unfold runB; rw [if_pos hck]
    rw [hrun]
    obtain ⟨c, hc⟩ : ∃ c, c = checkB ops := ⟨_, rfl⟩
    rw [← hc]
    rw [← hc] at hck
    have HCK := Lib.hid hc
    have hne : ((c : Int) != 0) = true := by rw [bne_iff_ne]; exact hck
    clear hL hp ho hP hck hrun hc
    go_enter Try.func25, Try.ntmps25
    go_wp2_with (go_at_call 27; refine (Check_ (Ty.step _ HO.out (by (repeat (first | exact Step.refl _ | refine Step.alloc ?_ _ | refine Step.drew ?_ | refine Step.drewN ?_ _ | refine Step.setCell ?_ (by first | exact Nat.le_refl _ | assumption | omega | (simp; done) | (simp; omega)) _ | assumption | refine Step.trans ?_ (by assumption : Step _ _)))))).mono ?_; rintro e w1 ⟨rfl, hS1⟩; rw [← HCK.out]; have hRb := CellsAt.step (CellsAt.new (w := w) (cs := outC 0 0 (.slice none 0 0) (.slice none 0 0)) (e := 41) rfl) hS1; have k0 := hRb.cell 0; have k1 := hRb.cell 1; have k2 := hRb.cell 2; have k3 := hRb.cell 3; have f0 := hRb.frozen 0; have f1 := hRb.frozen 1; have f2 := hRb.frozen 2; have f3 := hRb.frozen 3; have HRb := Lib.hid hRb; have HS1 := Lib.hid hS1; clear hRb hS1)
    refine bodyPost_ret (v := .agg (outC c 0 (.slice none 0 0) (.slice none 0 0))) (results_cell_row rfl _ _ _ _ _ (0, 0) _ rfl (CellsAt.set (CellsAt.set (CellsAt.set (CellsAt.set HRb.out 0 _) 1 _) 2 _) 3 _) Try.underlying41 rfl (by kernel_rfl)) rfl ⟨_, _, rfl, nil_repG, nil_repG, ?_⟩
    iterate 4 refine Turn.setCell ?_ (fun h => absurd h (Nat.lt_irrefl _)) _
    exact Turn.of (((Step.refl w).alloc _).trans HS1.out)
theorem brRun_ {w : World} {lb : Nat} {vp ov : Value} {P : List DPair} {ops : List DOp} (hL : LsAt w lb vp (.slice none 0 0)) (hp : (Ty.slice tPair).rep w (· = lb) [vp] P) (ho : (Ty.slice tOp).rep w (· = lb) [ov] ops) (hP : RisP P) (hPl : P.length ≤ 1000) :
    Calls Try.prog 25 #[.iface 62 (.pointer (some ⟨lb, 0, none⟩)), ov] w fun e w' => ∃ rv wv, e = .returned (.agg (outC (runB P ops).err (runB P ops).at_ rv wv)) ∧
      (Ty.slice (Ty.slice tPair)).rep w' (fun _ => False) [rv] (runB P ops).rows ∧ (Ty.slice tWrite).rep w' (fun _ => False) [wv] (runB P ops).writes ∧ Turn (· = lb) w w' :=
  brRunY_ (Y := fun _ => False) hL (fun _ h => h.elim) (Ty.less _ hp (fun b _ h => h.elim id False.elim)) (Ty.less _ ho (fun b _ h => h.elim id False.elim)) hP hPl
end Go.Proofs.Ythflkfgiclcdiaa
