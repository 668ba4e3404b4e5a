/-
  Walk: Coord.worked where it is the one that was waited for; Coord.Answer there.
-/
import Derived.Test.YthflkfgiclcdiaaGreatA7
import Derived.Test.YthflkfgiclcdiaaGreatA8
namespace Go.Proofs.YthflkfgiclcdiaaGreat
open Go.Gr Go.RowKit
set_option linter.unusedSimpArgs false
theorem open_kk {P : Program} {c : Code} {Q : Exit → Act → World → Prop} {K : Act → World → Prop} {a : Act} {w : World} (h : ∀ a w, Code.wp P c Q a w → K a w) (h2 : Code.wp P c Q a w) : K a w := h a w h2
theorem stOuts : SliceTy Tryz.prog 195 49 tOutcome.n := .mk' (z := .agg #[.int .i64 0, .int .i64 0, .slice none 0 0, .slice none 0 0]) (by_ := 64) Tryz.underlying195 (by kernel_rfl) rfl (by decide) (by omega)
theorem _root_.Go.Gr.MapT.atAll {P : Program} {α : Type} {E : Ty α} {k t e : TypeId} {w : World} {M : Nat → Prop} {b : Nat} {xs : List (Int × α)} (h : MapT P k E w M b xs) (hk : P.underlying k = some (.int .i64)) (ht : P.underlying t = some (.map k e)) {z : Value} (hz : ∀ W, (zeroValue e).run P W = .ok z W) (c : Bool) {i : Nat} (hi : i < xs.length) (hs : -9223372036854775808 ≤ xs[i].1 ∧ xs[i].1 ≤ 9223372036854775807) :
    ∃ cs, E.rep w M cs.toList xs[i].2 ∧ ∀ W, Step w W → (Instr.lookup t (.map (some b)) (.int .i64 xs[i].1) c).run P W = .ok (if c then .tuple #[.agg cs, .bool true] else .agg cs) W := by
  obtain ⟨l, h1, h2, h3⟩ := h
  have hi' : i < l.length := by omega
  obtain ⟨h4, cs, h5, h6⟩ := h3 i l[i] xs[i] (List.getElem?_eq_getElem hi') (List.getElem?_eq_getElem hi)
  refine ⟨cs, h6, fun W hW => (h1.step hW).look_at hk ht (hz W) hs c ?_⟩
  rw [← h4, ← h5]
  exact List.getElem_mem hi'
theorem CoordIn.replied {w : World} {B cb : Nat} {c : DCoord} {vo vp mo mu vs vr vr' : Value} {r : List UInt8} (h : CoordIn w B cb c vo vp mo mu vs vr) (hr : Ty.bytes.rep w (coM B cb mo mu) [vr'] r) :
    CoordIn (w.setCell ⟨cb, 11, none⟩ vr') B cb { c with reply := r } vo vp mo mu vs vr' := by
  have hK : Kept (coM B cb mo mu) w (w.setCell ⟨cb, 11, none⟩ vr') := Kept.setCell _ _ _ (.inr (.inl rfl))
  have hl : ∀ {b}, b ≠ cb → (w.setCell ⟨cb, 11, none⟩ vr').heap[b]? = w.heap[b]? := fun hb => heap_setCell_other _ _ _ _ hb
  have hnu : ∀ b, mapBlock mu = some b → b ≠ cb := by
    intro b hb e
    subst e
    rcases ho : c.out with _ | l
    · have := h.out
      rw [ho] at this
      obtain rfl : mu = .map none := this
      simp [mapBlock] at hb
    · have := h.out
      rw [ho] at this
      obtain ⟨b', rfl, hm, _⟩ := this
      obtain rfl : b' = b := by simpa [mapBlock] using hb
      obtain ⟨l', ⟨⟨es, clock, h1, _⟩, _⟩, _⟩ := hm
      rw [h.cells] at h1
      cases h1
  refine ⟨h.cells.set 11 _, h.base, h.txn, Ty.kept _ h.ops hK, Ty.kept _ h.parts hK, Ty.kept _ h.shards hK, Ty.kept _ hr hK, ?_, ?_, h.omo, h.omu, h.apart, h.few, h.patience⟩
  · exact h.outs.keep (fun b hb => ⟨hl (h.mo_ne hb), .inr (.inr (.inl hb))⟩) fun b h1 h2 => ⟨hK b h1 h2, h2⟩
  · exact h.out.keep (fun b hb => ⟨hl (hnu b hb), .inr (.inr (.inr hb))⟩) fun b h1 h2 => ⟨hK b h1 h2, h2⟩
set_option maxRecDepth 100000 in
set_option maxHeartbeats 8000000 in
theorem worked_one {w : World} {B cb ob nb : Nat} {c : DCoord} {p : DPart} {l : List (Int × DAsk)} {vo vp vs vr v3 : Value} {x : DAnswer} {a2 : Option Addr} {n2 c2 : Nat} (h : CoordIn w B cb { c with outs := some [], out := some l } vo vp (.map (some ob)) (.map (some nb)) vs vr) (hB : B ≤ w.heap.size)
    (hx : x.err = 0) (hfe : l.filter (fun p => p.1 != 0) = []) (hops : c.ops.length = 1) (hparts : c.parts = [p]) (hsh : p.shard = 0) (hix : p.index = [0]) (hss : c.shards.length = 1)
    (hr2 : (Ty.slice (Ty.slice tPair)).rep w (coM B cb (.map (some ob)) (.map (some nb))) [.slice a2 n2 c2] [[]]) :
    Calls Tryz.prog 57 #[.pointer (some ⟨cb, 0, none⟩), .int .i64 0, .agg (ansCells x 0 0 (.slice a2 n2 c2) (.slice none 0 0) v3)] w fun e w' => e = .returned (.slice none 0 0) ∧
      (∃ vr' r, CoordIn w' B cb { c with outs := some [(0, ⟨0, 0, [[]], []⟩)], out := some [], reply := r, commit := true, phase := 2, wants := 2 } vo vp (.map (some ob)) (.map (some nb)) vs vr') ∧ Turn (fun b => b = cb ∨ b = ob ∨ b = nb) w w' := by
  have hcb := h.lt
  have p5 : w.cell? ⟨cb, 5, none⟩ = some (.map (some ob)) := h.cells.cell 5
  have p8 : w.cell? ⟨cb, 8, none⟩ = some (.map (some nb)) := h.cells.cell 8
  have hob := h.outs.lt (b := ob) rfl
  have hnb := h.out.lt (b := nb) rfl
  have hoc : ob ≠ cb := h.mo_ne rfl
  have HMO : Hid (MapT Tryz.prog 3 tOutcome w (coM B cb (.map (some ob)) (.map (some nb))) ob []) := Lib.hid (by
    obtain ⟨b', hb', hm, _⟩ := h.outs
    obtain rfl : ob = b' := by simpa using hb'
    exact hm)
  have H := Lib.hid h
  have HR2 := Lib.hid hr2
  have HFE := Lib.hid hfe
  have HOP := Lib.hid hops
  have HPA := Lib.hid hparts
  have HSH := Lib.hid hsh
  have HIX := Lib.hid hix
  have HSS := Lib.hid hss
  clear h hr2 hfe hops hparts hsh hix hss
  unfold ansCells
  rw [hx]
  go_enter Tryz.func57, Tryz.ntmps57
  go_upto_region 4 with fail
  refine wp_region_cut (S := (fun w' => w'.cell? ⟨cb, 5, none⟩ = some (.map (some ob)) ∧ w'.cell? ⟨w.heap.size + 1, 0, none⟩ = some (.int .i64 0) ∧ w'.cell? ⟨w.heap.size + 1, 1, none⟩ = some (.int .i64 0) ∧ w'.cell? ⟨w.heap.size + 1, 2, none⟩ = some (.slice a2 n2 c2) ∧ w'.cell? ⟨w.heap.size + 1, 3, none⟩ = some (.slice none 0 0))) 6 (by kernel_rfl) ?_ (fun hHeld => ?_)
  · (go_keep)
  refine wpAnyC_take (i := 0) (v := ?_) rfl (by kernel_rfl) (by kernel_rfl) (by kernel_rfl) (by decide) [1, 2, 3, 6] (by kernel_rfl) (fun _ _ _ h => h) (Or.inl ⟨by rfl, ?_⟩) (by assumption) ?_
  rotate_left 1
  · (intro w hSw; (try dsimp only at hSw); go_simp; (try with_reducible rfl))
  try simp only [Act.put, List.getElem_toArray, List.getElem_cons_succ, List.getElem_cons_zero, List.setIfInBounds_toArray, List.set_cons_zero, List.set_cons_succ]
  refine wpAnyC_take (i := 1) (v := ?_) rfl (by kernel_rfl) (by kernel_rfl) (by kernel_rfl) (by decide) [2, 3, 6] (by kernel_rfl) (fun _ _ _ h => h) (Or.inl ⟨by rfl, ?_⟩) (by assumption) ?_
  rotate_left 1
  · (intro w hSw; (try dsimp only at hSw); go_simp; (try with_reducible rfl))
  try simp only [Act.put, List.getElem_toArray, List.getElem_cons_succ, List.getElem_cons_zero, List.setIfInBounds_toArray, List.set_cons_zero, List.set_cons_succ]
  refine wpAnyC_take (i := 2) (v := ?_) rfl (by kernel_rfl) (by kernel_rfl) (by kernel_rfl) (by decide) [3, 6] (by kernel_rfl) (fun _ _ _ h => h) (Or.inl ⟨by rfl, ?_⟩) (by assumption) ?_
  rotate_left 1
  · (intro w hSw; (try dsimp only at hSw); go_simp; (try with_reducible rfl))
  try simp only [Act.put, List.getElem_toArray, List.getElem_cons_succ, List.getElem_cons_zero, List.setIfInBounds_toArray, List.set_cons_zero, List.set_cons_succ]
  refine wpAnyC_take (i := 3) (v := ?_) rfl (by kernel_rfl) (by kernel_rfl) (by kernel_rfl) (by decide) [6] (by kernel_rfl) (fun _ _ _ h => h) (Or.inl ⟨by rfl, ?_⟩) (by assumption) ?_
  rotate_left 1
  · (intro w hSw; (try dsimp only at hSw); go_simp; (try with_reducible rfl))
  try simp only [Act.put, List.getElem_toArray, List.getElem_cons_succ, List.getElem_cons_zero, List.setIfInBounds_toArray, List.set_cons_zero, List.set_cons_succ]
  refine wpAnyC_take (i := 4) (v := ?_) rfl (by kernel_rfl) (by kernel_rfl) (by kernel_rfl) (by decide) [6] (by kernel_rfl) (fun _ _ _ h => h) (Or.inl ⟨by rfl, ?_⟩) (by assumption) ?_
  rotate_left 1
  · (intro w hSw; (try dsimp only at hSw); go_simp; (try with_reducible rfl))
  try simp only [Act.put, List.getElem_toArray, List.getElem_cons_succ, List.getElem_cons_zero, List.setIfInBounds_toArray, List.set_cons_zero, List.set_cons_succ]
  refine wpAnyC_take (i := 5) (v := ?_) rfl (by kernel_rfl) (by kernel_rfl) (by kernel_rfl) (by decide) [6] (by kernel_rfl) (fun _ _ _ h => h) (Or.inl ⟨by rfl, ?_⟩) (by assumption) ?_
  rotate_left 1
  · (intro w hSw; (try dsimp only at hSw); go_simp; (try with_reducible rfl))
  try simp only [Act.put, List.getElem_toArray, List.getElem_cons_succ, List.getElem_cons_zero, List.setIfInBounds_toArray, List.set_cons_zero, List.set_cons_succ]
  refine wpAnyC_ready (rs := [6]) (by kernel_rfl) (by simp) ?_
  refine AllReadyC.cut rfl (fun K hK => ?_)
  try simp only [List.getElem_toArray, List.getElem_cons_succ, List.getElem_cons_zero]
  refine ite_then rfl ?_; refine wp_mapUpdate_T (E := tOutcome) (M := coM B cb (.map (some ob)) (.map (some nb))) (s := 0) (xs := []) (y := ⟨0, 0, [[]], []⟩) (.tmp 30) (.tmp 31) (.tmp 32) rfl (HMO.out.step (by (repeat (first | exact Step.refl _ | refine Step.alloc ?_ _ | refine Step.drew ?_ | refine Step.drewN ?_ _ | refine Step.setCell ?_ (by first | exact Nat.le_refl _ | assumption | omega | (simp; done) | (simp; omega)) _ | assumption | refine Step.trans ?_ (by assumption : Step _ _))))) Tryz.underlying3 Tryz.underlying122 (by decide) (by decide) (by simp) ?_ (.inr (.inr (.inl rfl))) rfl rfl rfl ?_; exact ⟨_, _, rfl, by (simp [I64]), by (simp [I64]), Ty.step _ HR2.out (by (repeat (first | exact Step.refl _ | refine Step.alloc ?_ _ | refine Step.drew ?_ | refine Step.drewN ?_ _ | refine Step.setCell ?_ (by first | exact Nat.le_refl _ | assumption | omega | (simp; done) | (simp; omega)) _ | assumption | refine Step.trans ?_ (by assumption : Step _ _)))), nil_of⟩; intro w4 hm4 hg4; have HC4 := Lib.hid (CoordIn.grownOuts (c := { c with outs := some [], out := some l }) (H.out.keep (fun b h1 _ => Step.heap (by (repeat (first | exact Step.refl _ | refine Step.alloc ?_ _ | refine Step.drew ?_ | refine Step.drewN ?_ _ | refine Step.setCell ?_ (by first | exact Nat.le_refl _ | assumption | omega | (simp; done) | (simp; omega)) _ | assumption | refine Step.trans ?_ (by assumption : Step _ _))) : Step w _) h1)) hg4 hm4 (by simp) (fun p hp => by (obtain rfl := List.mem_singleton.1 hp; (simp [I64])))); have HT4 := Lib.hid (Turn.grown (M := fun b => b = cb ∨ b = ob ∨ b = nb) (Turn.of (by (repeat (first | exact Step.refl _ | refine Step.alloc ?_ _ | refine Step.drew ?_ | refine Step.drewN ?_ _ | refine Step.setCell ?_ (by first | exact Nat.le_refl _ | assumption | omega | (simp; done) | (simp; omega)) _ | assumption | refine Step.trans ?_ (by assumption : Step _ _))) : Step w _)) hg4 (fun g hg h => by (obtain rfl := Option.some.inj hg; exact .inr (.inl rfl)))); clear hm4 hg4
  refine hK.out _ _ trivial (fun hHeld => ?_)
  clear hK K
  try simp only [Act.put, List.getElem_toArray, List.getElem_cons_succ, List.getElem_cons_zero, List.setIfInBounds_toArray, List.set_cons_zero, List.set_cons_succ]
  have hTrue : True := trivial
  refine wpAnyH_done (by kernel_rfl) ?_ _
  have hnb4 : nb < w4.heap.size := Nat.lt_of_lt_of_le hnb HT4.out.size
  have HC4 : Hid (CoordIn w4 B cb { c with outs := some [(0, ⟨0, 0, [[]], []⟩)], out := some l } vo vp (.map (some ob)) (.map (some nb)) vs vr) := Lib.hid HC4.out
  have q8 : w4.cell? ⟨cb, 8, none⟩ = some (.map (some nb)) := HC4.out.cells.cell 8
  obtain ⟨b', hb', hm, hMb, hlen, hkeys⟩ := HC4.out.out
  obtain rfl : nb = b' := by simpa using hb'
  have HM4 := Lib.hid hm
  have HMb := Lib.hid hMb
  clear hm hMb hlen hkeys hb'
  have hln : ∀ W, MapT Tryz.prog 3 tAsk W (coM B cb (.map (some ob)) (.map (some nb))) nb [] → ∀ ty, (Builtin.len_ #[123] ty #[.map (some nb)]).run Tryz.prog W = .ok (.int .i64 0) W := fun W hW ty => by
    have := hW.len Tryz.underlying123 ty
    simpa using this
  go_upto_region 6 with (refine wpList_delete_T (s := 0) rfl (.tmp 36) (.tmp 37) rfl HM4.out Tryz.underlying3 Tryz.underlying123 (by decide) HMb.out rfl rfl ?_; intro w5 hm5 hg5; rw [HFE.out] at hm5; have hl5 := hln _ hm5; have HM5 := Lib.hid hm5; have HC5 : Hid (CoordIn _ B cb { c with outs := some [(0, ⟨0, 0, [[]], []⟩)], out := some [] } vo vp (.map (some ob)) (.map (some nb)) vs vr) := Lib.hid (CoordIn.grownOut (c := { c with outs := some [(0, ⟨0, 0, [[]], []⟩)] }) HC4.out hg5 hm5 (by simp) (by simp)); have HT5 := Lib.hid (Turn.grown HT4.out hg5 (fun g hg h => by (obtain rfl := Option.some.inj hg; exact .inr (.inr rfl)))); clear hm5 hg5)
  have r8 : w5.cell? ⟨cb, 8, none⟩ = some (.map (some nb)) := HC5.out.cells.cell 8
  obtain ⟨pa, pc, hvp, _⟩ := Ty.slice_val HC5.out.parts
  simp only at hvp
  rw [HPA.out] at hvp
  subst hvp
  have r4 : w5.cell? ⟨cb, 4, none⟩ = some (.slice pa 1 pc) := HC5.out.cells.cell 4
  have r5 : w5.cell? ⟨cb, 5, none⟩ = some (.map (some ob)) := HC5.out.cells.cell 5
  have hcb5 := HC5.out.lt
  clear HM4 HMb HC4 hln HM5
  obtain ⟨⟨L⟩, hrep, hlk⟩ : ∃ cs : Array Value, tOutcome.rep w5 (coM B cb (.map (some ob)) (.map (some nb))) cs.toList ⟨0, 0, [[]], []⟩ ∧ ∀ W, Step w5 W → (Instr.lookup 122 (.map (some ob)) (.int .i64 0) false).run Tryz.prog W = .ok (.agg cs) W := by
    obtain ⟨b', hb', hm, _⟩ := HC5.out.outs
    obtain rfl : ob = b' := by simpa using hb'
    obtain ⟨cs, h1, h2⟩ := hm.atAll (t := 122) Tryz.underlying3 Tryz.underlying122 (fun W => Tryz.zeroValue49 W) false (i := 0) (by simp) (by simp)
    exact ⟨cs, h1, h2⟩
  obtain ⟨lc2, lc3, hcs, lh0, lh1, lh2, lh3⟩ := hrep
  simp only at hcs
  subst hcs
  obtain ⟨la2, ln2, rfl, _⟩ := Ty.slice_val lh2
  obtain ⟨la3, ln3, rfl, _⟩ := Ty.slice_val lh3
  simp only [List.length_cons, List.length_nil, Nat.zero_add] at hlk lh2 lh3
  have LH2 := Lib.hid lh2
  have LH3 := Lib.hid lh3
  have HLK := Lib.hid hlk
  clear lh0 lh1 lh2 lh3 hlk
  obtain ⟨pb, po, pes, rfl, phb, _, pu, pcu⟩ := Ty.slice_at HC5.out.parts (k := 0) (by show 0 < c.parts.length; rw [HPA.out]; simp)
  have hpsplit : ∃ x1 m1 k1 x2 m2 k2, pes = [.int .i64 0, .slice x1 m1 k1, .slice x2 m2 k2] := by
    simp only [HPA.out, List.getElem_cons_zero] at pu
    obtain ⟨y1, y2, rfl, _, h1, h2⟩ := pu
    obtain ⟨x1, k1, rfl, _⟩ := Ty.slice_val h1
    obtain ⟨x2, k2, rfl, _⟩ := Ty.slice_val h2
    exact ⟨x1, _, k1, x2, _, k2, by rw [HSH.out]⟩
  obtain ⟨x1, m1, k1, x2, m2, k2, rfl⟩ := hpsplit
  have pq0 := pcu 0 _ rfl
  have pq1 := pcu 1 _ rfl
  have pq2 := pcu 2 _ rfl
  simp only [show tPart.n = 3 from rfl, Nat.zero_mul, Nat.add_zero] at pq0 pq1 pq2
  clear pu pcu
  go_wp2
  go_loopw [8, 49] (fun o i w' => ∃ k : Nat, i = .int .i64 k ∧ k ≤ 1 ∧ (k = 0 → o = .slice none 0 0) ∧ Hid (Own tOutcome 49 w' (fun _ => False) w5.heap.size o (List.replicate k ⟨0, 0, [[]], []⟩)) ∧ Step w5 w') (fun _ i _ => 1 - (Go.RowKit.intOf i).toNat)
  case atStart => exact ⟨0, rfl, by omega, fun _ => rfl, Lib.hid Own.nil, Step.refl _⟩
  case round =>
    obtain ⟨k, rfl, hk, hk0, hA, hS⟩ := hrel
    have hsz := hS.size
    by_cases hlt : k < 1
    · obtain rfl : k = 0 := by omega
      have q0 := (hS.cell phb po).trans pq0
      have q1 := (hS.cell phb (po + 1)).trans pq1
      have q2 := (hS.cell phb (po + 2)).trans pq2
      have s5 : wr.cell? ⟨cb, 5, none⟩ = some (.map (some ob)) := (hS.cell hcb5 5).trans r5
      have hcbr : cb < wr.heap.size := by omega
      obtain ⟨wo, hwo⟩ : ∃ x, x = wr := ⟨_, rfl⟩
      subst hwo
      have hl1 : ∀ o, (Instr.lookup 122 (.map (some ob)) (.int .i64 0) false).run Tryz.prog (wo.alloc o) = _ := fun o => HLK.out _ (hS.alloc o)
      have hl2 : ∀ o, (Instr.lookup 122 (.map (some ob)) (.int .i64 0) false).run Tryz.prog (wo.alloc o).drew = _ := fun o => HLK.out _ (hS.alloc o).drew
      have hv0 := hk0 rfl
      have HA := Lib.hid (show Own tOutcome 49 wo (fun _ => False) w5.heap.size (.slice none 0 0) [] from Own.nil)
      clear hA
      subst hv0
      go_wp2
      refine wp_region_cut (S := (fun w' => w'.cell? ⟨cb, 5, none⟩ = some (.map (some ob)) ∧ w'.cell? ⟨wo.heap.size, 0, none⟩ = some (.int .i64 0) ∧ (Instr.lookup 122 (.map (some ob)) (.int .i64 0) false).run Tryz.prog w' = .ok (.agg #[.int .i64 0, .int .i64 0, .slice la2 1 ln2, .slice la3 0 ln3]) w')) 9 (by kernel_rfl) ?_ (fun hHeld => ?_)
      · (first | (refine ⟨?_, ?_, HLK.out _ (by (repeat (first | exact Step.refl _ | refine Step.alloc ?_ _ | refine Step.drew ?_ | refine Step.drewN ?_ _ | refine Step.setCell ?_ (by first | exact Nat.le_refl _ | assumption | omega | (simp; done) | (simp; omega)) _ | assumption | refine Step.trans ?_ (by assumption : Step _ _))))⟩ <;> go_keep) | go_keep)
      refine wpAnyC_take (i := 0) (v := ?_) rfl (by kernel_rfl) (by kernel_rfl) (by kernel_rfl) (by decide) [9, 10] (by kernel_rfl) (fun _ _ _ h => h) (Or.inl ⟨by rfl, ?_⟩) (by assumption) ?_
      rotate_left 1
      · (intro w hSw; (try dsimp only at hSw); go_simp; (try with_reducible rfl))
      try simp only [Act.put, List.getElem_toArray, List.getElem_cons_succ, List.getElem_cons_zero, List.setIfInBounds_toArray, List.set_cons_zero, List.set_cons_succ]
      refine wpAnyC_take (i := 1) (v := ?_) rfl (by kernel_rfl) (by kernel_rfl) (by kernel_rfl) (by decide) [2, 3, 4, 7, 8, 9, 10] (by kernel_rfl) (fun _ _ _ h => h) (Or.inl ⟨by rfl, ?_⟩) (by assumption) ?_
      rotate_left 1
      · (intro w hSw; (try dsimp only at hSw); go_simp; (try with_reducible rfl))
      try simp only [Act.put, List.getElem_toArray, List.getElem_cons_succ, List.getElem_cons_zero, List.setIfInBounds_toArray, List.set_cons_zero, List.set_cons_succ]
      refine wpAnyC_take (i := 2) (v := ?_) rfl (by kernel_rfl) (by kernel_rfl) (by kernel_rfl) (by decide) [3, 4, 7, 8, 9, 10] (by kernel_rfl) (fun _ _ _ h => h) (Or.inl ⟨by rfl, ?_⟩) (by assumption) ?_
      rotate_left 1
      · (intro w hSw; (try dsimp only at hSw); go_simp; (try with_reducible rfl))
      try simp only [Act.put, List.getElem_toArray, List.getElem_cons_succ, List.getElem_cons_zero, List.setIfInBounds_toArray, List.set_cons_zero, List.set_cons_succ]
      refine wpAnyC_take (i := 3) (v := ?_) rfl (by kernel_rfl) (by kernel_rfl) (by kernel_rfl) (by decide) [4, 7, 8, 9, 10] (by kernel_rfl) (fun _ _ _ h => h) (Or.inl ⟨by rfl, ?_⟩) (by assumption) ?_
      rotate_left 1
      · (intro w hSw; (try dsimp only at hSw); go_simp; (try with_reducible rfl))
      try simp only [Act.put, List.getElem_toArray, List.getElem_cons_succ, List.getElem_cons_zero, List.setIfInBounds_toArray, List.set_cons_zero, List.set_cons_succ]
      refine wpAnyC_take (i := 4) (v := ?_) rfl (by kernel_rfl) (by kernel_rfl) (by kernel_rfl) (by decide) [7, 8, 9, 10] (by kernel_rfl) (fun _ _ _ h => h) (Or.inl ⟨by rfl, ?_⟩) (by assumption) ?_
      rotate_left 1
      · (intro w hSw; (try dsimp only at hSw); go_simp; (try with_reducible rfl))
      try simp only [Act.put, List.getElem_toArray, List.getElem_cons_succ, List.getElem_cons_zero, List.setIfInBounds_toArray, List.set_cons_zero, List.set_cons_succ]
      refine wpAnyC_take (i := 5) (v := ?_) rfl (by kernel_rfl) (by kernel_rfl) (by kernel_rfl) (by decide) [6, 7, 8, 9, 10] (by kernel_rfl) (fun _ _ _ h => h) (Or.inl ⟨by rfl, ?_⟩) (by assumption) ?_
      rotate_left 1
      · (intro w hSw; (try dsimp only at hSw); go_simp; (try with_reducible rfl))
      try simp only [Act.put, List.getElem_toArray, List.getElem_cons_succ, List.getElem_cons_zero, List.setIfInBounds_toArray, List.set_cons_zero, List.set_cons_succ]
      refine wpAnyC_take (i := 6) (v := ?_) rfl (by kernel_rfl) (by kernel_rfl) (by kernel_rfl) (by decide) [7, 8, 9, 10] (by kernel_rfl) (fun _ _ _ h => h) (Or.inl ⟨by rfl, ?_⟩) (by assumption) ?_
      rotate_left 1
      · (intro w hSw; (try dsimp only at hSw); go_simp; (try with_reducible rfl))
      try simp only [Act.put, List.getElem_toArray, List.getElem_cons_succ, List.getElem_cons_zero, List.setIfInBounds_toArray, List.set_cons_zero, List.set_cons_succ]
      refine wpAnyC_take (i := 7) (v := ?_) rfl (by kernel_rfl) (by kernel_rfl) (by kernel_rfl) (by decide) [8, 9, 10] (by kernel_rfl) (fun _ _ _ h => h) (Or.inl ⟨by rfl, ?_⟩) (by assumption) ?_
      rotate_left 1
      · (intro w hSw; (try dsimp only at hSw); go_simp; (try with_reducible rfl))
      try simp only [Act.put, List.getElem_toArray, List.getElem_cons_succ, List.getElem_cons_zero, List.setIfInBounds_toArray, List.set_cons_zero, List.set_cons_succ]
      refine wpAnyC_ready (rs := [8]) (by kernel_rfl) (by simp) ?_
      refine AllReadyC.cons rfl (by decide) (fun K hK => ?_) AllReadyC.nil
      try simp only [List.getElem_toArray, List.getElem_cons_succ, List.getElem_cons_zero]
      go_simp
      refine hK.out _ _ ?_ (fun hHeld => ?_)
      · (first | (refine ⟨?_, ?_, HLK.out _ (by (repeat (first | exact Step.refl _ | refine Step.alloc ?_ _ | refine Step.drew ?_ | refine Step.drewN ?_ _ | refine Step.setCell ?_ (by first | exact Nat.le_refl _ | assumption | omega | (simp; done) | (simp; omega)) _ | assumption | refine Step.trans ?_ (by assumption : Step _ _))))⟩ <;> go_keep) | go_keep)
      clear hK K
      try simp only [Act.put, List.getElem_toArray, List.getElem_cons_succ, List.getElem_cons_zero, List.setIfInBounds_toArray, List.set_cons_zero, List.set_cons_succ]
      refine wpAnyC_ready (rs := [9]) (by kernel_rfl) (by simp) ?_
      refine AllReadyC.cut rfl (fun K hK => ?_)
      try simp only [List.getElem_toArray, List.getElem_cons_succ, List.getElem_cons_zero]
      refine ite_then rfl ?_; refine wp_append_gen (E := tOutcome) (B := w5.heap.size) (M := fun _ => False) (xs := []) (ys := [⟨0, 0, [[]], []⟩]) (.tmp 53) (.tmp 61) rfl stOuts Own.nil (Src.oneAt (E := tOutcome) (by simp) ⟨_, _, rfl, by (simp [I64]), by (simp [I64]), Ty.less _ (Ty.step _ LH2.out (by (repeat (first | exact Step.refl _ | refine Step.alloc ?_ _ | refine Step.drew ?_ | refine Step.drewN ?_ _ | refine Step.setCell ?_ (by first | exact Nat.le_refl _ | assumption | omega | (simp; done) | (simp; omega)) _ | assumption | refine Step.trans ?_ (by assumption : Step _ _))))) (fun b _ hm => hm.elim False.elim (fun h => nomatch (show (none : Option Nat) = some b from h))), Ty.less _ (Ty.step _ LH3.out (by (repeat (first | exact Step.refl _ | refine Step.alloc ?_ _ | refine Step.drew ?_ | refine Step.drewN ?_ _ | refine Step.setCell ?_ (by first | exact Nat.le_refl _ | assumption | omega | (simp; done) | (simp; omega)) _ | assumption | refine Step.trans ?_ (by assumption : Step _ _))))) (fun b _ hm => hm.elim False.elim (fun h => nomatch (show (none : Option Nat) = some b from h)))⟩) (by (rw [lim_eq]; decide)) (by first | assumption | omega | (simp; done) | (simp; omega)) rfl rfl ?_; intro v6 w6 hA6 hG6 _; have HA6 := Lib.hid hA6; have HS6 := Lib.hid (Own.grown (w0 := w5) (Own.nil (E := tOutcome) (e := 49) (M := fun _ => False)) (by (repeat (first | exact Step.refl _ | refine Step.alloc ?_ _ | refine Step.drew ?_ | refine Step.drewN ?_ _ | refine Step.setCell ?_ (by first | exact Nat.le_refl _ | assumption | omega | (simp; done) | (simp; omega)) _ | assumption | refine Step.trans ?_ (by assumption : Step _ _)))) hG6); clear hA6 hG6
      refine hK.out _ _ trivial (fun hHeld => ?_)
      clear hK K
      try simp only [Act.put, List.getElem_toArray, List.getElem_cons_succ, List.getElem_cons_zero, List.setIfInBounds_toArray, List.set_cons_zero, List.set_cons_succ]
      have hTrue : True := trivial
      refine wpAnyH_take (i := 10) (v := ?_) rfl (by kernel_rfl) (by kernel_rfl) (by kernel_rfl) (fun _ _ _ h => h) (Or.inl ⟨by rfl, ?_⟩) (by assumption) ?_
      rotate_left 1
      · (intro w hSw; (try dsimp only at hSw); go_simp; (try with_reducible rfl))
      try simp only [Act.put, List.getElem_toArray, List.getElem_cons_succ, List.getElem_cons_zero, List.setIfInBounds_toArray, List.set_cons_zero, List.set_cons_succ]
      refine wpAnyH_done (by kernel_rfl) ?_ _
      go_wp2
      go_roundw
      case rel => exact ⟨1, by go_num, by omega, fun h => absurd h (by omega), HA6, HS6.out⟩
      case measure => simp [Go.RowKit.intOf]
    · obtain rfl : k = 1 := by omega
      obtain ⟨ta, tc, rfl⟩ := hA.out.val
      simp only [List.length_replicate] at hA
      have HOU : Hid ((Ty.slice tOutcome).rep wr (fun _ => False) [.slice ta 1 tc] [⟨0, 0, [[]], []⟩]) := Lib.hid (hA.out.rep' (fun _ _ h => h))
      have HCr := Lib.hid (HC5.out.keep (fun b h1 _ => hS.heap h1))
      have hTr := Lib.hid (HT5.out.then hS)
      obtain ⟨va, vc, hvo, _⟩ := Ty.slice_val HCr.out.ops
      simp only [HOP.out] at hvo
      subst hvo
      have HPR : Hid ((Ty.slice tPart).rep wr (coM B cb (.map (some ob)) (.map (some nb))) [.slice (some ⟨pb, po, none⟩) 1 pc] [p]) := Lib.hid (by have := HCr.out.parts; rwa [HPA.out] at this)
      have hcr := HCr.out.lt
      have s3 : wr.cell? ⟨cb, 3, none⟩ = some (.slice va 1 vc) := HCr.out.cells.cell 3
      have s4 : wr.cell? ⟨cb, 4, none⟩ = some (.slice (some ⟨pb, po, none⟩) 1 pc) := HCr.out.cells.cell 4
      clear hA hk0 hsz pq0 pq1 pq2 r4 r5 r8 HLK hS
      obtain ⟨w7, hw7⟩ : ∃ x, x = wr := ⟨_, rfl⟩
      subst hw7
      simp only [List.length_replicate]
      go_wp2
      go_cut [11] (fun s11 wx => ∃ (ub g : Nat) (a8 : Option Addr) (c8 : Nat), s11 = .pointer (some ⟨ub, 0, none⟩) ∧ wx.heap[ub]? = some (.cells #[.int .i64 0, .int .i64 0, .slice (some ⟨g, 0, none⟩) 1 1, .slice a8 0 c8] 49 (0, 0)) ∧ Nils wx g 1 ∧ g < wx.heap.size ∧ Step w7 wx)
      case first =>
        refine wp_region_cut (S := (fun w' => w'.cell? ⟨cb, 3, none⟩ = some (.slice va 1 vc) ∧ w'.cell? ⟨cb, 4, none⟩ = some (.slice (some ⟨pb, po, none⟩) 1 pc))) 11 (by kernel_rfl) ?_ (fun hHeld => ?_)
        · (go_keep)
        refine wpAnyC_take (i := 0) (v := ?_) rfl (by kernel_rfl) (by kernel_rfl) (by kernel_rfl) (by decide) [1, 2, 3, 9, 11] (by kernel_rfl) (fun _ _ _ h => h) (Or.inl ⟨by rfl, ?_⟩) (by assumption) ?_
        rotate_left 1
        · (intro w hSw; (try dsimp only at hSw); go_simp; (try with_reducible rfl))
        try simp only [Act.put, List.getElem_toArray, List.getElem_cons_succ, List.getElem_cons_zero, List.setIfInBounds_toArray, List.set_cons_zero, List.set_cons_succ]
        refine wpAnyC_take (i := 1) (v := ?_) rfl (by kernel_rfl) (by kernel_rfl) (by kernel_rfl) (by decide) [2, 3, 9, 11] (by kernel_rfl) (fun _ _ _ h => h) (Or.inl ⟨by rfl, ?_⟩) (by assumption) ?_
        rotate_left 1
        · (intro w hSw; (try dsimp only at hSw); go_simp; (try with_reducible rfl))
        try simp only [Act.put, List.getElem_toArray, List.getElem_cons_succ, List.getElem_cons_zero, List.setIfInBounds_toArray, List.set_cons_zero, List.set_cons_succ]
        refine wpAnyC_take (i := 2) (v := ?_) rfl (by kernel_rfl) (by kernel_rfl) (by kernel_rfl) (by decide) [3, 9, 11] (by kernel_rfl) (fun _ _ _ h => h) (Or.inl ⟨by rfl, ?_⟩) (by assumption) ?_
        rotate_left 1
        · (intro w hSw; (try dsimp only at hSw); go_simp; (try with_reducible rfl))
        try simp only [Act.put, List.getElem_toArray, List.getElem_cons_succ, List.getElem_cons_zero, List.setIfInBounds_toArray, List.set_cons_zero, List.set_cons_succ]
        refine wpAnyC_take (i := 3) (v := ?_) rfl (by kernel_rfl) (by kernel_rfl) (by kernel_rfl) (by decide) [9, 11] (by kernel_rfl) (fun _ _ _ h => h) (Or.inl ⟨by rfl, ?_⟩) (by assumption) ?_
        rotate_left 1
        · (intro w hSw; (try dsimp only at hSw); go_simp; (try with_reducible rfl))
        try simp only [Act.put, List.getElem_toArray, List.getElem_cons_succ, List.getElem_cons_zero, List.setIfInBounds_toArray, List.set_cons_zero, List.set_cons_succ]
        refine wpAnyC_take (i := 4) (v := ?_) rfl (by kernel_rfl) (by kernel_rfl) (by kernel_rfl) (by decide) [5, 6, 7, 9, 11] (by kernel_rfl) (fun _ _ _ h => h) (Or.inl ⟨by rfl, ?_⟩) (by assumption) ?_
        rotate_left 1
        · (intro w hSw; (try dsimp only at hSw); go_simp; (try with_reducible rfl))
        try simp only [Act.put, List.getElem_toArray, List.getElem_cons_succ, List.getElem_cons_zero, List.setIfInBounds_toArray, List.set_cons_zero, List.set_cons_succ]
        refine wpAnyC_take (i := 5) (v := ?_) rfl (by kernel_rfl) (by kernel_rfl) (by kernel_rfl) (by decide) [6, 7, 9, 11] (by kernel_rfl) (fun _ _ _ h => h) (Or.inl ⟨by rfl, ?_⟩) (by assumption) ?_
        rotate_left 1
        · (intro w hSw; (try dsimp only at hSw); go_simp; (try with_reducible rfl))
        try simp only [Act.put, List.getElem_toArray, List.getElem_cons_succ, List.getElem_cons_zero, List.setIfInBounds_toArray, List.set_cons_zero, List.set_cons_succ]
        refine wpAnyC_take (i := 6) (v := ?_) rfl (by kernel_rfl) (by kernel_rfl) (by kernel_rfl) (by decide) [7, 9, 11] (by kernel_rfl) (fun _ _ _ h => h) (Or.inl ⟨by rfl, ?_⟩) (by assumption) ?_
        rotate_left 1
        · (intro w hSw; (try dsimp only at hSw); go_simp; (try with_reducible rfl))
        try simp only [Act.put, List.getElem_toArray, List.getElem_cons_succ, List.getElem_cons_zero, List.setIfInBounds_toArray, List.set_cons_zero, List.set_cons_succ]
        refine wpAnyC_take (i := 7) (v := ?_) rfl (by kernel_rfl) (by kernel_rfl) (by kernel_rfl) (by decide) [9, 11] (by kernel_rfl) (fun _ _ _ h => h) (Or.inl ⟨by rfl, ?_⟩) (by assumption) ?_
        rotate_left 1
        · (intro w hSw; (try dsimp only at hSw); go_simp; (try with_reducible rfl))
        try simp only [Act.put, List.getElem_toArray, List.getElem_cons_succ, List.getElem_cons_zero, List.setIfInBounds_toArray, List.set_cons_zero, List.set_cons_succ]
        refine wpAnyC_take (i := 8) (v := ?_) rfl (by kernel_rfl) (by kernel_rfl) (by kernel_rfl) (by decide) [9, 11] (by kernel_rfl) (fun _ _ _ h => h) (Or.inl ⟨by rfl, ?_⟩) (by assumption) ?_
        rotate_left 1
        · (intro w hSw; (try dsimp only at hSw); go_simp; (try with_reducible rfl))
        try simp only [Act.put, List.getElem_toArray, List.getElem_cons_succ, List.getElem_cons_zero, List.setIfInBounds_toArray, List.set_cons_zero, List.set_cons_succ]
        refine wpAnyC_ready (rs := [9, 10]) (by kernel_rfl) (by simp) ?_
        refine AllReadyC.cons rfl (by decide) (fun K hK => ?_) (AllReadyC.cons rfl (by decide) (fun K hK => ?_) AllReadyC.nil)
        · try simp only [List.getElem_toArray, List.getElem_cons_succ, List.getElem_cons_zero]
          go_simp
          (go_at_call 50; refine (Join_one (p := p) (Ty.step _ HCr.out.ops (by (repeat (first | exact Step.refl _ | refine Step.alloc ?_ _ | refine Step.drew ?_ | refine Step.drewN ?_ _ | refine Step.setCell ?_ (by first | exact Nat.le_refl _ | assumption | omega | (simp; done) | (simp; omega)) _ | assumption | refine Step.trans ?_ (by assumption : Step _ _))))) HOP.out (Ty.step _ HPR.out (by (repeat (first | exact Step.refl _ | refine Step.alloc ?_ _ | refine Step.drew ?_ | refine Step.drewN ?_ _ | refine Step.setCell ?_ (by first | exact Nat.le_refl _ | assumption | omega | (simp; done) | (simp; omega)) _ | assumption | refine Step.trans ?_ (by assumption : Step _ _))))) HIX.out (Ty.step _ HOU.out (by (repeat (first | exact Step.refl _ | refine Step.alloc ?_ _ | refine Step.drew ?_ | refine Step.drewN ?_ _ | refine Step.setCell ?_ (by first | exact Nat.le_refl _ | assumption | omega | (simp; done) | (simp; omega)) _ | assumption | refine Step.trans ?_ (by assumption : Step _ _)))))).mono ?_; rintro e w8 ⟨g, a8, c8, rfl, hW8, hN8, ⟨hg8, hg9⟩, hS8⟩; have s8 : ∀ j, w8.cell? ⟨cb, j, none⟩ = _ := fun j => hS8.cell (by first | assumption | omega | (simp; done) | (simp; omega)) j; have z8 := fun (h : w7.heap.size < _) j => hS8.cell (b := w7.heap.size) h j; have y8 := fun (h : w7.heap.size < _) j => hS8.frozen (b := w7.heap.size) h j; have HN8 := Lib.hid hN8; clear hW8 hN8)
          refine hK.out _ _ ?_ (fun hHeld => ?_)
          · (go_keep)
          clear hK K
          try simp only [Act.put, List.getElem_toArray, List.getElem_cons_succ, List.getElem_cons_zero, List.setIfInBounds_toArray, List.set_cons_zero, List.set_cons_succ]
          refine wpAnyC_ready (rs := [10]) (by kernel_rfl) (by simp) ?_
          refine AllReadyC.cons rfl (by decide) (fun K hK => ?_) AllReadyC.nil
          try simp only [List.getElem_toArray, List.getElem_cons_succ, List.getElem_cons_zero]
          go_simp
          refine hK.out _ _ ?_ (fun hHeld => ?_)
          · (go_keep)
          clear hK K
          try simp only [Act.put, List.getElem_toArray, List.getElem_cons_succ, List.getElem_cons_zero, List.setIfInBounds_toArray, List.set_cons_zero, List.set_cons_succ]
          refine wpAnyC_ready (rs := [11]) (by kernel_rfl) (by simp) ?_
          refine AllReadyC.cut rfl (fun K hK => ?_)
          try simp only [List.getElem_toArray, List.getElem_cons_succ, List.getElem_cons_zero]
          go_simp
          refine hK.out _ _ trivial (fun hHeld => ?_)
          clear hK K
          try simp only [Act.put, List.getElem_toArray, List.getElem_cons_succ, List.getElem_cons_zero, List.setIfInBounds_toArray, List.set_cons_zero, List.set_cons_succ]
          have hTrue : True := trivial
          refine wpAnyH_done (by kernel_rfl) ?_ _
          go_wp2_with fail
          go_meet
          case rel =>
            refine ⟨_, g, a8, c8, rfl, ?_, ?_, ?_, by (repeat (first | exact Step.refl _ | refine Step.alloc ?_ _ | refine Step.drew ?_ | refine Step.drewN ?_ _ | refine Step.setCell ?_ (by first | exact Nat.le_refl _ | assumption | omega | (simp; done) | (simp; omega)) _ | assumption | refine Step.trans ?_ (by assumption : Step _ _)))⟩
            · first
              | (with_reducible refine heap_alloc_at ?_
                 first | rfl | simp)
              | (have b0 := (hS8.heap (b := w7.heap.size) (by simp)).trans (heap_alloc_at (w := w7) rfl)
                 have b1 := heap_setCell_same _ _ 0 _ _ (Value.int .i64 0) b0
                 have b2 := heap_setCell_same _ _ 1 _ _ (Value.int .i64 0) b1
                 have b3 := heap_setCell_same _ _ 2 _ _ (Value.slice (some ⟨g, 0, none⟩) 1 1) b2
                 have b4 := heap_setCell_same _ _ 3 _ _ (Value.slice a8 0 c8) b3
                 exact b4)
            · refine HN8.out.kept ?_
              first
              | (with_reducible exact (Below.heap_alloc _ _ _ hg9))
              | (have hne : g ≠ w7.heap.size := by (simp at hg8; omega)
                 rw [heap_setCell_other _ _ _ _ hne, heap_setCell_other _ _ _ _ hne, heap_setCell_other _ _ _ _ hne, heap_setCell_other _ _ _ _ hne])
            · simp
              omega
        · try simp only [List.getElem_toArray, List.getElem_cons_succ, List.getElem_cons_zero]
          go_simp
          refine hK.out _ _ ?_ (fun hHeld => ?_)
          · (go_keep)
          clear hK K
          try simp only [Act.put, List.getElem_toArray, List.getElem_cons_succ, List.getElem_cons_zero, List.setIfInBounds_toArray, List.set_cons_zero, List.set_cons_succ]
          refine wpAnyC_ready (rs := [9]) (by kernel_rfl) (by simp) ?_
          refine AllReadyC.cons rfl (by decide) (fun K hK => ?_) AllReadyC.nil
          try simp only [List.getElem_toArray, List.getElem_cons_succ, List.getElem_cons_zero]
          go_simp
          (go_at_call 50; refine (Join_one (p := p) (Ty.step _ HCr.out.ops (by (repeat (first | exact Step.refl _ | refine Step.alloc ?_ _ | refine Step.drew ?_ | refine Step.drewN ?_ _ | refine Step.setCell ?_ (by first | exact Nat.le_refl _ | assumption | omega | (simp; done) | (simp; omega)) _ | assumption | refine Step.trans ?_ (by assumption : Step _ _))))) HOP.out (Ty.step _ HPR.out (by (repeat (first | exact Step.refl _ | refine Step.alloc ?_ _ | refine Step.drew ?_ | refine Step.drewN ?_ _ | refine Step.setCell ?_ (by first | exact Nat.le_refl _ | assumption | omega | (simp; done) | (simp; omega)) _ | assumption | refine Step.trans ?_ (by assumption : Step _ _))))) HIX.out (Ty.step _ HOU.out (by (repeat (first | exact Step.refl _ | refine Step.alloc ?_ _ | refine Step.drew ?_ | refine Step.drewN ?_ _ | refine Step.setCell ?_ (by first | exact Nat.le_refl _ | assumption | omega | (simp; done) | (simp; omega)) _ | assumption | refine Step.trans ?_ (by assumption : Step _ _)))))).mono ?_; rintro e w8 ⟨g, a8, c8, rfl, hW8, hN8, ⟨hg8, hg9⟩, hS8⟩; have s8 : ∀ j, w8.cell? ⟨cb, j, none⟩ = _ := fun j => hS8.cell (by first | assumption | omega | (simp; done) | (simp; omega)) j; have z8 := fun (h : w7.heap.size < _) j => hS8.cell (b := w7.heap.size) h j; have y8 := fun (h : w7.heap.size < _) j => hS8.frozen (b := w7.heap.size) h j; have HN8 := Lib.hid hN8; clear hW8 hN8)
          refine hK.out _ _ ?_ (fun hHeld => ?_)
          · (go_keep)
          clear hK K
          try simp only [Act.put, List.getElem_toArray, List.getElem_cons_succ, List.getElem_cons_zero, List.setIfInBounds_toArray, List.set_cons_zero, List.set_cons_succ]
          refine wpAnyC_ready (rs := [11]) (by kernel_rfl) (by simp) ?_
          refine AllReadyC.cut rfl (fun K hK => ?_)
          try simp only [List.getElem_toArray, List.getElem_cons_succ, List.getElem_cons_zero]
          go_simp
          refine hK.out _ _ trivial (fun hHeld => ?_)
          clear hK K
          try simp only [Act.put, List.getElem_toArray, List.getElem_cons_succ, List.getElem_cons_zero, List.setIfInBounds_toArray, List.set_cons_zero, List.set_cons_succ]
          have hTrue : True := trivial
          refine wpAnyH_done (by kernel_rfl) ?_ _
          go_wp2_with fail
          go_meet
          case rel =>
            refine ⟨_, g, a8, c8, rfl, ?_, ?_, ?_, by (repeat (first | exact Step.refl _ | refine Step.alloc ?_ _ | refine Step.drew ?_ | refine Step.drewN ?_ _ | refine Step.setCell ?_ (by first | exact Nat.le_refl _ | assumption | omega | (simp; done) | (simp; omega)) _ | assumption | refine Step.trans ?_ (by assumption : Step _ _)))⟩
            · first
              | (with_reducible refine heap_alloc_at ?_
                 first | rfl | simp)
              | (have b0 := (hS8.heap (b := w7.heap.size) (by simp)).trans (heap_alloc_at (w := w7) rfl)
                 have b1 := heap_setCell_same _ _ 0 _ _ (Value.int .i64 0) b0
                 have b2 := heap_setCell_same _ _ 1 _ _ (Value.int .i64 0) b1
                 have b3 := heap_setCell_same _ _ 2 _ _ (Value.slice (some ⟨g, 0, none⟩) 1 1) b2
                 have b4 := heap_setCell_same _ _ 3 _ _ (Value.slice a8 0 c8) b3
                 exact b4)
            · refine HN8.out.kept ?_
              first
              | (with_reducible exact (Below.heap_alloc _ _ _ hg9))
              | (have hne : g ≠ w7.heap.size := by (simp at hg8; omega)
                 rw [heap_setCell_other _ _ _ _ hne, heap_setCell_other _ _ _ _ hne, heap_setCell_other _ _ _ _ hne, heap_setCell_other _ _ _ _ hne])
            · simp
              omega
      case rest =>
        obtain ⟨ub, g, a8, c8, rfl, hub, hN, hg, hS7⟩ := hcut
        have HCc := Lib.hid (HCr.out.keep (fun b h1 _ => hS7.heap h1))
        have HTc := Lib.hid (hTr.out.then hS7)
        have z0 : wc.cell? ⟨ub, 0, none⟩ = some (.int .i64 0) := cell_of_row wc _ 0 _ _ (0, 0) hub
        have z1 : wc.cell? ⟨ub, 1, none⟩ = some (.int .i64 0) := cell_of_row wc _ 1 _ _ (0, 0) hub
        have z2 : wc.cell? ⟨ub, 2, none⟩ = some (.slice (some ⟨g, 0, none⟩) 1 1) := cell_of_row wc _ 2 _ _ (0, 0) hub
        have z3 : wc.cell? ⟨ub, 3, none⟩ = some (.slice a8 0 c8) := cell_of_row wc _ 3 _ _ (0, 0) hub
        have HRW : Hid ((Ty.slice (Ty.slice tPair)).rep wc (fun _ => False) [.slice (some ⟨g, 0, none⟩) 1 1] [[]]) := Lib.hid (Nils.rep hN hg (Nat.le_refl _) (by unfold maxLen; omega) (by rw [lim_eq]; omega))
        have HRL : Hid ((replyB 0 0 [[]]).length ≤ lim) := Lib.hid (replyB_nils (err := 0) (at_ := 0) (n := 1) (by omega))
        obtain ⟨sa, sc, hvs, _⟩ := Ty.slice_val HCc.out.shards
        simp only [HSS.out] at hvs
        subst hvs
        have hcc := HCc.out.lt
        have c9 : wc.cell? ⟨cb, 9, none⟩ = some (.slice sa 1 sc) := HCc.out.cells.cell 9
        have c11 : wc.cell? ⟨cb, 11, none⟩ = some vr := HCc.out.cells.cell 11
        have c10 : wc.cell? ⟨cb, 10, none⟩ = some (.bool c.commit) := HCc.out.cells.cell 10
        have c6 : wc.cell? ⟨cb, 6, none⟩ = some (.int .i64 c.phase) := HCc.out.cells.cell 6
        have c7 : wc.cell? ⟨cb, 7, none⟩ = some (.int .i64 c.wants) := HCc.out.cells.cell 7
        have ff : ∀ j, wc.frozen? ⟨cb, j, none⟩ = false := fun j => HCc.out.cells.frozen j
        have hBc : B ≤ wc.heap.size := Nat.le_trans hB HTc.out.size
        clear hub hN hS7 s3 s4
        refine open_kk (by assumption) ?_
        go_wp2_with (go_at_call 93; refine (oReply_ (Ty.step _ HRW.out (by (repeat (first | exact Step.refl _ | refine Step.alloc ?_ _ | refine Step.drew ?_ | refine Step.drewN ?_ _ | refine Step.setCell ?_ (by first | exact Nat.le_refl _ | assumption | omega | (simp; done) | (simp; omega)) _ | assumption | refine Step.trans ?_ (by assumption : Step _ _))))) HRL.out).mono ?_; rintro e w9 ⟨v9, rfl, hA9, hS9⟩; obtain ⟨b9, m9, rfl⟩ := hA9.val; have s9 : ∀ j, w9.cell? ⟨cb, j, none⟩ = wc.cell? ⟨cb, j, none⟩ := fun j => hS9.cell hcc j; have f9 : ∀ j, w9.frozen? ⟨cb, j, none⟩ = wc.frozen? ⟨cb, j, none⟩ := fun j => hS9.frozen hcc j; have HA9 := Lib.hid hA9; clear hA9)
        go_ret
        refine ⟨rfl, ⟨Value.slice b9 (replyB 0 0 [[]]).length m9, replyB 0 0 [[]], ?_⟩, ?_⟩
        · have h0 := HCc.out.keep (fun b h1 _ => hS9.heap h1)
          have h1 := h0.replied (vr' := Value.slice b9 (replyB 0 0 [[]]).length m9) (r := replyB 0 0 [[]]) (Own.rep' (Own.flat Ty.flat_byte HA9.out) (fun b hb hM => by
            have h1 := (HA9.out.lt hb).1
            have h2 := h0.outs.lt (b := ob) rfl
            have h5 := HCc.out.outs.lt (b := ob) rfl
            have h6 := HCc.out.out.lt (b := nb) rfl
            rcases hM with hM | hM | hM | hM
            · omega
            · omega
            · obtain rfl : ob = b := by simpa [mapBlock] using hM
              omega
            · obtain rfl : nb = b := by simpa [mapBlock] using hM
              omega))
          have h2 := h1.plain (c' := { c with outs := some [(0, ⟨0, 0, [[]], []⟩)], out := some [], reply := replyB 0 0 [[]], commit := true }) 10 (.bool true) rfl rfl rfl rfl rfl rfl rfl rfl rfl
          have h3 := h2.plain (c' := { c with outs := some [(0, ⟨0, 0, [[]], []⟩)], out := some [], reply := replyB 0 0 [[]], commit := true, phase := 2 }) 6 (.int .i64 2) rfl rfl rfl rfl rfl rfl rfl rfl rfl
          exact h3.plain (c' := { c with outs := some [(0, ⟨0, 0, [[]], []⟩)], out := some [], reply := replyB 0 0 [[]], commit := true, phase := 2, wants := 2 }) 7 (.int .i64 2) rfl rfl rfl rfl rfl rfl rfl rfl rfl
        · exact ((((HTc.out.then hS9).setCell (p := ⟨cb, 11, none⟩) (fun _ => .inl rfl) _).setCell (p := ⟨cb, 10, none⟩) (fun _ => .inl rfl) _).setCell (p := ⟨cb, 6, none⟩) (fun _ => .inl rfl) _).setCell (p := ⟨cb, 7, none⟩) (fun _ => .inl rfl) _
end Go.Proofs.YthflkfgiclcdiaaGreat
namespace Go.Proofs.YthflkfgiclcdiaaGreat
open Go.Gr Go.RowKit
set_option linter.unusedSimpArgs false
set_option maxRecDepth 100000 in
set_option maxHeartbeats 4000000 in
theorem cAnswer_one {w : World} {B cb ob nb : Nat} {c : DCoord} {p : DPart} {l : List (Int × DAsk)} {vo vp vs vr : Value} {x : DAnswer} {a2 b3 : Option Addr} {n2 c2 n3 k3 : Nat} (h : CoordIn w B cb { c with outs := some [], out := some l } vo vp (.map (some ob)) (.map (some nb)) vs vr) (hB : B ≤ w.heap.size)
    (hk : ∀ p ∈ l, p.2.kind = 2) (hin : ∃ p ∈ l, p.1 = 0) (hx : x.err = 0) (hxk : x.kind = 2) (hxt : x.txn = c.txn) (hfe : l.filter (fun p => p.1 != 0) = []) (hops : c.ops.length = 1) (hparts : c.parts = [p]) (hsh : p.shard = 0) (hix : p.index = [0]) (hss : c.shards.length = 1)
    (hr2 : (Ty.slice (Ty.slice tPair)).rep w (coM B cb (.map (some ob)) (.map (some nb))) [.slice a2 n2 c2] [[]]) :
    Calls Tryz.prog 16 #[.pointer (some ⟨cb, 0, none⟩), .int .i64 0, .agg (ansCells x 0 0 (.slice a2 n2 c2) (.slice none 0 0) (.slice b3 n3 k3))] w fun e w' => e = .returned (.slice none 0 0) ∧
      (∃ vr' r, CoordIn w' B cb { c with outs := some [(0, ⟨0, 0, [[]], []⟩)], out := some [], reply := r, commit := true, phase := 2, wants := 2 } vo vp (.map (some ob)) (.map (some nb)) vs vr') ∧ Turn (fun b => b = cb ∨ b = ob ∨ b = nb) w w' := by
  obtain ⟨kind, inc, boot, txn, id, err, out, commit, reply, at2⟩ := x
  simp only at hx hxk hxt
  subst hx hxk hxt
  have hcb := h.lt
  have p8 : w.cell? ⟨cb, 8, none⟩ = some (.map (some nb)) := h.cells.cell 8
  have p0 : w.cell? ⟨cb, 0, none⟩ = some (.int .u64 (c.txn.boot : Int)) := h.cells.cell 0
  have p1 : w.cell? ⟨cb, 1, none⟩ = some (.int .u64 (c.txn.session : Int)) := h.cells.cell 1
  have p2 : w.cell? ⟨cb, 2, none⟩ = some (.int .u64 (c.txn.seq : Int)) := h.cells.cell 2
  have hO := h.out
  obtain ⟨b, hb, hm, _⟩ := hO
  obtain rfl : nb = b := by simpa using hb
  have HM := Lib.hid hm
  have H := Lib.hid h
  have HK := Lib.hid hk
  have HIN := Lib.hid hin
  have HFE := Lib.hid hfe
  have HR2 := Lib.hid hr2
  clear h hm hk hin hfe hb hr2
  have hlk := (HM.out.step ((Step.refl w).alloc (.cells (ansCells ⟨2, inc, boot, c.txn, id, 0, out, commit, reply, at2⟩ 0 0 (.slice a2 n2 c2) (.slice none 0 0) (.slice b3 n3 k3)) 51))).look (t := 123) Tryz.underlying3 Tryz.underlying123 (Tryz.zeroValue39 _) (s := 0) (by decide) true
  rcases hlk with ⟨hn, _⟩ | ⟨z, ⟨L⟩, hz, hrep, hr⟩
  · obtain ⟨p, hp, hpe⟩ := HIN.out
    exact absurd hpe (hn p hp)
  obtain ⟨ac7, ac9, hcs, ah⟩ := hrep
  simp only at hcs
  subst hcs
  obtain ⟨aa7, an7, rfl, _⟩ := Ty.slice_val ah.2.2.2.2.2.2.2.1
  obtain ⟨aa9, an9, rfl, _⟩ := Ty.slice_val ah.2.2.2.2.2.2.2.2.1
  have hkz : z.kind = 2 := HK.out _ hz
  rw [hkz] at hr
  clear ah hz
  have hz0 := Step.refl w
  unfold ansCells at hr ⊢
  simp only at hr ⊢
  go_enter Tryz.func16, Tryz.ntmps16
  go_wp2
  go_quiet (fail)
  go_wp2_with (go_at_call 57; refine (worked_one (c := c) (p := p) (l := l) (x := ⟨2, inc, boot, c.txn, id, 0, out, commit, reply, at2⟩) (v3 := .slice b3 n3 k3) (H.out.keep (fun b h1 _ => Step.heap (by (repeat (first | exact Step.refl _ | refine Step.alloc ?_ _ | refine Step.drew ?_ | refine Step.drewN ?_ _ | refine Step.setCell ?_ (by first | exact Nat.le_refl _ | assumption | omega | (simp; done) | (simp; omega)) _ | assumption | refine Step.trans ?_ (by assumption : Step _ _))) : Step w _) h1)) (Nat.le_trans hB (Step.size (by (repeat (first | exact Step.refl _ | refine Step.alloc ?_ _ | refine Step.drew ?_ | refine Step.drewN ?_ _ | refine Step.setCell ?_ (by first | exact Nat.le_refl _ | assumption | omega | (simp; done) | (simp; omega)) _ | assumption | refine Step.trans ?_ (by assumption : Step _ _))) : Step w _))) rfl HFE.out hops hparts hsh hix hss (Ty.step _ HR2.out (by (repeat (first | exact Step.refl _ | refine Step.alloc ?_ _ | refine Step.drew ?_ | refine Step.drewN ?_ _ | refine Step.setCell ?_ (by first | exact Nat.le_refl _ | assumption | omega | (simp; done) | (simp; omega)) _ | assumption | refine Step.trans ?_ (by assumption : Step _ _)))))).mono ?_; rintro e w1 ⟨rfl, hC1, hT1⟩; have HC1 := Lib.hid hC1; clear hC1)
  go_ret
  exact ⟨rfl, HC1.out, (Turn.of (by (repeat (first | exact Step.refl _ | refine Step.alloc ?_ _ | refine Step.drew ?_ | refine Step.drewN ?_ _ | refine Step.setCell ?_ (by first | exact Nat.le_refl _ | assumption | omega | (simp; done) | (simp; omega)) _ | assumption | refine Step.trans ?_ (by assumption : Step _ _))))).trans hT1⟩
end Go.Proofs.YthflkfgiclcdiaaGreat
