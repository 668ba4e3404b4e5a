/-
  Walk: send.
-/
import Derived.Test.YthflkfgiclcdiaaGreatC3
namespace Go.Proofs.YthflkfgiclcdiaaGreat
open Go.Gr Go.RowKit
set_option linter.unusedSimpArgs false
/-- The asks of all shards. -/
def asksOf (x : DTxn) (shards : List Int) (f : Nat → DAsk) : List (Int × DAsk) := shards.zipIdx.map fun p => (p.1, { f p.2 with txn := x })
theorem asksOf_len {x : DTxn} {shards : List Int} {f : Nat → DAsk} : (asksOf x shards f).length = shards.length := by simp [asksOf]
theorem asksOf_at {x : DTxn} {shards : List Int} {f : Nat → DAsk} {k : Nat} (h : k < shards.length) : (asksOf x shards f)[k]'(by rw [asksOf_len]; exact h) = (shards[k], { f k with txn := x }) := by
  simp [asksOf]
theorem CoordIn.newOut {w : World} {B cb : Nat} {c : DCoord} {vo vp mo mu vs vr : Value} (h : CoordIn w B cb c vo vp mo mu vs vr) (hB : B ≤ w.heap.size) :
    CoordIn ((w.alloc (.map #[] 0)).setCell ⟨cb, 8, none⟩ (.map (some w.heap.size))) B cb { c with out := some [] } vo vp mo (.map (some w.heap.size)) vs vr := by
  have hlt := h.lt
  have hK : ∀ {b}, b < w.heap.size → b ≠ cb → ((w.alloc (.map #[] 0)).setCell ⟨cb, 8, none⟩ (.map (some w.heap.size))).heap[b]? = w.heap[b]? := fun h1 h2 => (Below.heap_setCell _ _ _ _ h2).trans (Below.heap_alloc _ _ _ h1)
  have hM : ∀ b, b < w.heap.size → ¬ coM B cb mo mu b → ¬ coM B cb mo (.map (some w.heap.size)) b := fun b h1 h2 h3 => by
    rcases h3 with h3 | h3 | h3 | h3
    · exact h2 (.inl h3)
    · exact h2 (.inr (.inl h3))
    · exact h2 (.inr (.inr (.inl h3)))
    · have : w.heap.size = b := by simpa [mapBlock] using h3
      omega
  have key : ∀ b, b < w.heap.size → ¬ coM B cb mo mu b → ((w.alloc (.map #[] 0)).setCell ⟨cb, 8, none⟩ (.map (some w.heap.size))).heap[b]? = w.heap[b]? ∧ ¬ coM B cb mo (.map (some w.heap.size)) b := fun b h1 h2 => ⟨hK h1 fun e => h2 (.inr (.inl e)), hM b h1 h2⟩
  refine ⟨(h.cells.step ((Step.refl _).alloc _)).set 8 _, h.base, h.txn, Ty.keep _ h.ops key, Ty.keep _ h.parts key, Ty.keep _ h.shards key, Ty.keep _ h.reply key, ?_, ?_, h.omo, ?_, ?_, h.few, h.patience⟩
  · refine h.outs.keep (fun b hb => ⟨hK (h.outs.lt hb) (fun e => ?_), .inr (.inr (.inl hb))⟩) key
    subst e
    rcases ho : c.outs with _ | l
    · have := h.outs
      rw [ho] at this
      obtain rfl : mo = .map none := this
      simp [mapBlock] at hb
    · have := h.outs
      rw [ho] at this
      obtain ⟨b', rfl, hm, _⟩ := this
      obtain rfl : b' = b := by simpa [mapBlock] using hb
      obtain ⟨l', ⟨⟨es, clock, h1, _⟩, _⟩, _⟩ := hm
      rw [h.cells] at h1
      cases h1
  · refine ⟨w.heap.size, rfl, MapT.empty ?_, .inr (.inr (.inr rfl)), by simp, by simp⟩
    exact (Below.heap_setCell _ _ _ _ (by show w.heap.size ≠ cb; omega)).trans (heap_alloc_new w _)
  · intro b hb
    obtain rfl : w.heap.size = b := by simpa [mapBlock] using hb
    exact hB
  · intro b hb hb'
    have := h.outs.lt hb
    obtain rfl : w.heap.size = b := by simpa [mapBlock] using hb'
    omega
theorem CoordIn.grownOut {w w' : World} {B cb nb : Nat} {c : DCoord} {l l' : List (Int × DAsk)} {vo vp mo vs vr : Value} (h : CoordIn w B cb { c with out := some l } vo vp mo (.map (some nb)) vs vr) (hg : w.grownBy w' (some nb))
    (hm : MapT Tryz.prog 3 tAsk w' (coM B cb mo (.map (some nb))) nb l') (hl : l'.length ≤ 1048576) (hk : ∀ p ∈ l', I64 p.1) : CoordIn w' B cb { c with out := some l' } vo vp mo (.map (some nb)) vs vr := by
  have hK : Kept (coM B cb mo (.map (some nb))) w w' := Kept.grown hg (fun b hb => .inr (.inr (.inr hb)))
  have hcn : cb ≠ nb := fun e => by
    subst e
    obtain ⟨b', hb', hm, _⟩ := h.out
    obtain rfl : cb = b' := by simpa using hb'
    obtain ⟨l', ⟨⟨es, clock, h1, _⟩, _⟩, _⟩ := hm
    rw [h.cells] at h1
    cases h1
  refine ⟨h.cells.kept (hg.block cb h.lt (fun e => hcn (by injection e))), h.base, h.txn, Ty.kept _ h.ops hK, Ty.kept _ h.parts hK, Ty.kept _ h.shards hK, Ty.kept _ h.reply hK, ?_, ⟨nb, rfl, hm, .inr (.inr (.inr rfl)), hl, hk⟩, h.omo, h.omu, h.apart, h.few, h.patience⟩
  exact h.outs.keep (fun b hb => ⟨hg.block b (h.outs.lt hb) (fun e => h.apart b hb (e.symm ▸ rfl)), .inr (.inr (.inl hb))⟩) fun b h1 h2 => ⟨hK b h1 h2, h2⟩
set_option maxRecDepth 100000 in
set_option maxHeartbeats 4000000 in
theorem send_ {w : World} {B cb fn : Nat} {caps : Array Value} {c : DCoord} {vo vp mo mu vs vr : Value} {f : Nat → DAsk} (h : CoordIn w B cb c vo vp mo mu vs vr) (hB : B ≤ w.heap.size) (hinc : c.shards.Pairwise (· < ·))
    (hent : ∀ args w, (callFunc fn args).run Tryz.prog w = .ok (.enter fn args) w)
    (hmake : ∀ (i : Nat), i < c.shards.length → ∀ (W : World) (nb : Nat) (l : List (Int × DAsk)), CoordIn W B cb { c with out := some l } vo vp mo (.map (some nb)) vs vr → Turn (· = cb) w W →
      Calls Tryz.prog fn (#[.int .i64 (i : Int)] ++ caps) W fun e w' => ∃ cs, e = .returned (.agg cs) ∧ tAsk.rep w' (coM B cb mo (.map (some nb))) cs.toList (f i) ∧ Step W w') :
    Calls Tryz.prog 46 #[.pointer (some ⟨cb, 0, none⟩), .func (.func fn) #[] caps] w fun e w' => ∃ v', e = .returned v' ∧ Own tSend 41 w' (· < w.heap.size) w.heap.size v' (sendsOf (some (asksOf c.txn c.shards f))) ∧
      CoordIn w' B cb { c with out := some (asksOf c.txn c.shards f) } vo vp mo (.map (some w.heap.size)) vs vr ∧ Turn (· = cb) w w' := by
  have hcb := h.lt
  have p8 : w.cell? ⟨cb, 8, none⟩ = some mu := h.cells.cell 8
  have f8 : w.frozen? ⟨cb, 8, none⟩ = false := h.cells.frozen _
  have H := Lib.hid h
  have HI := Lib.hid hinc
  have HM := Lib.hid hmake
  clear h hinc hmake
  have hmm := @run_makeMap Tryz.prog
  go_enter Tryz.func46, Tryz.ntmps46
  go_upto_region 2 with fail
  refine wp_code (fun wl => CoordIn wl B cb { c with out := some [] } vo vp mo (.map (some w.heap.size)) vs vr ∧ Turn (· = cb) w wl) ?_ ?_
  · have h1 := H.out.newOut hB
    rw [World.setCell_alloc_past _ _ _ _ hcb] at h1
    exact ⟨h1, ((Turn.refl (· = cb) w).setCell (p := ⟨cb, 8, none⟩) (fun _ => rfl) _).alloc _⟩
  clear f8 p8
  rintro wl ⟨h, hT⟩
  obtain ⟨sa, sc, rfl, _⟩ := Ty.slice_val h.shards
  have p9 : wl.cell? ⟨cb, 9, none⟩ = some (.slice sa c.shards.length sc) := h.cells.cell 9
  have hfew := h.few
  have HL := Lib.hid h
  have HT := Lib.hid hT
  have hcl := hT.size
  clear h hT
  simp only at hfew
  go_wp2
  go_loopw [17] (fun i w' => ∃ k : Nat, i = .int .i64 k ∧ k ≤ c.shards.length ∧ CoordIn w' B cb { c with out := some ((asksOf c.txn c.shards f).take k) } vo vp mo (.map (some w.heap.size)) (.slice sa c.shards.length sc) vr ∧ Turn (· = cb) w w') (fun i _ => c.shards.length - (intOf i).toNat)
  case atStart => exact ⟨0, rfl, by omega, HL.out, HT.out⟩
  case round =>
    obtain ⟨k, rfl, hk, h, hT⟩ := hrel
    have hcr := h.lt
    by_cases hlt : k < c.shards.length
    · obtain ⟨b, off, u, rfl, hbb, _, hu, hcu⟩ := Ty.slice_at1 rfl h.shards hlt
      obtain ⟨hu1, hu2⟩ := hu
      obtain rfl : u = .int .i64 c.shards[k] := by simpa using hu1
      have p0 : wr.cell? ⟨cb, 0, none⟩ = some (.int .u64 (c.txn.boot : Int)) := h.cells.cell 0
      have p1 : wr.cell? ⟨cb, 1, none⟩ = some (.int .u64 (c.txn.session : Int)) := h.cells.cell 1
      have p2 : wr.cell? ⟨cb, 2, none⟩ = some (.int .u64 (c.txn.seq : Int)) := h.cells.cell 2
      have p8 : wr.cell? ⟨cb, 8, none⟩ = some (.map (some w.heap.size)) := h.cells.cell 8
      have HU2 := Lib.hid hu2
      have HC := Lib.hid h
      have HT' := Lib.hid hT
      have HLT := Lib.hid hlt
      clear h hT hu1 hu2
      go_wp2_with (refine (HM.out k HLT.out _ _ _ HC.out HT'.out).mono ?_; rintro e w1 ⟨⟨L⟩, rfl, hR, hS1⟩; obtain ⟨ac7, ac9, hcs, ah⟩ := hR; simp only at hcs; subst hcs; obtain ⟨aa7, an7, rfl, _⟩ := Ty.slice_val ah.2.2.2.2.2.2.2.1; obtain ⟨aa9, an9, rfl, _⟩ := Ty.slice_val ah.2.2.2.2.2.2.2.2.1; have AH := Lib.hid ah; clear ah; have z1 : cb < w1.heap.size := Nat.lt_of_lt_of_le hcr hS1.size; have s1 : ∀ j, w1.cell? ⟨cb, j, none⟩ = wr.cell? ⟨cb, j, none⟩ := fun j => hS1.cell hcr j)
      obtain ⟨b', hb', hm, hMb, hlen, hkeys⟩ := HC.out.out
      obtain rfl : w.heap.size = b' := by simpa using hb'
      have HMT := Lib.hid hm
      have HMb := Lib.hid hMb
      have HX := Lib.hid HC.out.txn
      have HKY := Lib.hid hkeys
      have hll : Hid (((asksOf c.txn c.shards f).take k).length ≤ k) := Lib.hid (by rw [List.length_take]; omega)
      have hlo : Hid (∀ p ∈ (asksOf c.txn c.shards f).take k, p.1 < c.shards[k]) := Lib.hid (fun p hp => by
        obtain ⟨i, hi, rfl⟩ := List.getElem_of_mem hp
        have hi' : i < k := by have := hll.out; omega
        rw [List.getElem_take, asksOf_at (by omega)]
        exact List.pairwise_iff_getElem.1 HI.out i k (by omega) hlt hi')
      have htk : Hid ((asksOf c.txn c.shards f).take (k + 1) = (asksOf c.txn c.shards f).take k ++ [(c.shards[k], { f k with txn := c.txn })]) := Lib.hid (by rw [List.take_succ_eq_append_getElem (by rw [asksOf_len]; exact hlt), asksOf_at hlt]; rfl)
      clear hb' hm hMb hlen hkeys
      refine wp_region_cut (S := (fun w' => w'.cell? ⟨cb, 8, none⟩ = some (.map (some w.heap.size)) ∧ w'.cell? ⟨w1.heap.size, 0, none⟩ = some (.int .i64 (f k).kind) ∧ w'.cell? ⟨w1.heap.size, 1, none⟩ = some (.int .u64 ((f k).inc : Int)) ∧ w'.cell? ⟨w1.heap.size, 2, none⟩ = some (.int .u64 ((f k).head : Int)) ∧ w'.cell? ⟨w1.heap.size, 3, none⟩ = some (.int .u64 ((f k).boot : Int)) ∧ w'.cell? ⟨w1.heap.size, 4, none⟩ = some (.int .u64 (c.txn.boot : Int)) ∧ w'.cell? ⟨w1.heap.size, 5, none⟩ = some (.int .u64 (c.txn.session : Int)) ∧ w'.cell? ⟨w1.heap.size, 6, none⟩ = some (.int .u64 (c.txn.seq : Int)) ∧ w'.cell? ⟨w1.heap.size, 7, none⟩ = some (.slice aa7 (f k).ops.length an7) ∧ w'.cell? ⟨w1.heap.size, 8, none⟩ = some (.bool (f k).commit) ∧ w'.cell? ⟨w1.heap.size, 9, none⟩ = some (.slice aa9 (f k).reply.length an9) ∧ w'.cell? ⟨w1.heap.size, 10, none⟩ = some (.int .u64 ((f k).id : Int)) ∧ w'.cell? ⟨w1.heap.size, 11, none⟩ = some (.string ⟨(f k).name.toArray⟩))) 6 (by kernel_rfl) ?_ (fun hHeld => ?_)
      · (go_keep)
      refine wpAnyC_take (i := 0) (v := ?_) rfl (by kernel_rfl) (by kernel_rfl) (by kernel_rfl) (by decide) [1, 2, 3, 6] (by kernel_rfl) (fun _ _ _ h => h) (Or.inl ⟨by rfl, ?_⟩) (by assumption) ?_
      rotate_left 1
      · (intro w hSw; (try dsimp only at hSw); go_simp; (try with_reducible rfl))
      try simp only [Act.put, List.getElem_toArray, List.getElem_cons_succ, List.getElem_cons_zero, List.setIfInBounds_toArray, List.set_cons_zero, List.set_cons_succ]
      refine wpAnyC_take (i := 1) (v := ?_) rfl (by kernel_rfl) (by kernel_rfl) (by kernel_rfl) (by decide) [2, 3, 6] (by kernel_rfl) (fun _ _ _ h => h) (Or.inl ⟨by rfl, ?_⟩) (by assumption) ?_
      rotate_left 1
      · (intro w hSw; (try dsimp only at hSw); go_simp; (try with_reducible rfl))
      try simp only [Act.put, List.getElem_toArray, List.getElem_cons_succ, List.getElem_cons_zero, List.setIfInBounds_toArray, List.set_cons_zero, List.set_cons_succ]
      refine wpAnyC_take (i := 2) (v := ?_) rfl (by kernel_rfl) (by kernel_rfl) (by kernel_rfl) (by decide) [3, 6] (by kernel_rfl) (fun _ _ _ h => h) (Or.inl ⟨by rfl, ?_⟩) (by assumption) ?_
      rotate_left 1
      · (intro w hSw; (try dsimp only at hSw); go_simp; (try with_reducible rfl))
      try simp only [Act.put, List.getElem_toArray, List.getElem_cons_succ, List.getElem_cons_zero, List.setIfInBounds_toArray, List.set_cons_zero, List.set_cons_succ]
      refine wpAnyC_take (i := 3) (v := ?_) rfl (by kernel_rfl) (by kernel_rfl) (by kernel_rfl) (by decide) [6] (by kernel_rfl) (fun _ _ _ h => h) (Or.inl ⟨by rfl, ?_⟩) (by assumption) ?_
      rotate_left 1
      · (intro w hSw; (try dsimp only at hSw); go_simp; (try with_reducible rfl))
      try simp only [Act.put, List.getElem_toArray, List.getElem_cons_succ, List.getElem_cons_zero, List.setIfInBounds_toArray, List.set_cons_zero, List.set_cons_succ]
      refine wpAnyC_take (i := 4) (v := ?_) rfl (by kernel_rfl) (by kernel_rfl) (by kernel_rfl) (by decide) [6] (by kernel_rfl) (fun _ _ _ h => h) (Or.inl ⟨by rfl, ?_⟩) (by assumption) ?_
      rotate_left 1
      · (intro w hSw; (try dsimp only at hSw); go_simp; (try with_reducible rfl))
      try simp only [Act.put, List.getElem_toArray, List.getElem_cons_succ, List.getElem_cons_zero, List.setIfInBounds_toArray, List.set_cons_zero, List.set_cons_succ]
      refine wpAnyC_take (i := 5) (v := ?_) rfl (by kernel_rfl) (by kernel_rfl) (by kernel_rfl) (by decide) [6] (by kernel_rfl) (fun _ _ _ h => h) (Or.inl ⟨by rfl, ?_⟩) (by assumption) ?_
      rotate_left 1
      · (intro w hSw; (try dsimp only at hSw); go_simp; (try with_reducible rfl))
      try simp only [Act.put, List.getElem_toArray, List.getElem_cons_succ, List.getElem_cons_zero, List.setIfInBounds_toArray, List.set_cons_zero, List.set_cons_succ]
      refine wpAnyC_ready (rs := [6]) (by kernel_rfl) (by simp) ?_
      refine AllReadyC.cut rfl (fun K hK => ?_)
      try simp only [List.getElem_toArray, List.getElem_cons_succ, List.getElem_cons_zero]
      refine ite_then rfl ?_; refine wp_mapUpdate_T (E := tAsk) (M := coM B cb mo (.map (some w.heap.size))) (s := c.shards[k]) (y := { f k with txn := c.txn }) (.tmp 33) (.tmp 34) (.tmp 35) rfl (HMT.out.step (by (repeat (first | exact Step.refl _ | refine Step.alloc ?_ _ | refine Step.drew ?_ | refine Step.drewN ?_ _ | refine Step.setCell ?_ (by first | exact Nat.le_refl _ | assumption | omega | (simp; done) | (simp; omega)) _ | assumption | refine Step.trans ?_ (by assumption : Step _ _))))) Tryz.underlying3 Tryz.underlying123 ?_ HU2.out hlo.out ?_ HMb.out rfl rfl rfl ?_; exact (Nat.lt_of_le_of_lt hll.out (by unfold maxLen; omega)); exact ⟨_, _, rfl, AH.out.1, AH.out.2.1, AH.out.2.2.1, AH.out.2.2.2.1, HX.out.1, HX.out.2.1, HX.out.2.2, Ty.step _ AH.out.2.2.2.2.2.2.2.1 (by (repeat (first | exact Step.refl _ | refine Step.alloc ?_ _ | refine Step.drew ?_ | refine Step.drewN ?_ _ | refine Step.setCell ?_ (by first | exact Nat.le_refl _ | assumption | omega | (simp; done) | (simp; omega)) _ | assumption | refine Step.trans ?_ (by assumption : Step _ _)))), Ty.step _ AH.out.2.2.2.2.2.2.2.2.1 (by (repeat (first | exact Step.refl _ | refine Step.alloc ?_ _ | refine Step.drew ?_ | refine Step.drewN ?_ _ | refine Step.setCell ?_ (by first | exact Nat.le_refl _ | assumption | omega | (simp; done) | (simp; omega)) _ | assumption | refine Step.trans ?_ (by assumption : Step _ _)))), AH.out.2.2.2.2.2.2.2.2.2⟩; intro w6 hm6 hg6; have HC6 := Lib.hid (CoordIn.grownOut (HC.out.keep (fun b h1 _ => Step.heap (by (repeat (first | exact Step.refl _ | refine Step.alloc ?_ _ | refine Step.drew ?_ | refine Step.drewN ?_ _ | refine Step.setCell ?_ (by first | exact Nat.le_refl _ | assumption | omega | (simp; done) | (simp; omega)) _ | assumption | refine Step.trans ?_ (by assumption : Step _ _))) : Step wr _) h1)) hg6 hm6 (by rw [List.length_append]; exact Nat.le_trans (Nat.succ_le_succ hll.out) (by omega)) (fun p hp => by (rcases List.mem_append.1 hp with hp | hp; exact HKY.out p hp; (obtain rfl := List.mem_singleton.1 hp; exact HU2.out)))); have HT6 := Lib.hid (Turn.grown (HT'.out.then (by (repeat (first | exact Step.refl _ | refine Step.alloc ?_ _ | refine Step.drew ?_ | refine Step.drewN ?_ _ | refine Step.setCell ?_ (by first | exact Nat.le_refl _ | assumption | omega | (simp; done) | (simp; omega)) _ | assumption | refine Step.trans ?_ (by assumption : Step _ _))))) hg6 (fun g hg h => by (obtain rfl := Option.some.inj hg; omega))); clear hm6 hg6
      refine hK.out _ _ trivial (fun hHeld => ?_)
      clear hK K
      try simp only [Act.put, List.getElem_toArray, List.getElem_cons_succ, List.getElem_cons_zero, List.setIfInBounds_toArray, List.set_cons_zero, List.set_cons_succ]
      have hTrue : True := trivial
      refine wpAnyH_done (by kernel_rfl) ?_ _
      go_wp2
      go_roundw
      case rel => exact ⟨k + 1, by go_num, by omega, by rw [htk.out]; exact HC6.out, HT6.out⟩
      case measure => simp [intOf]; omega
    · obtain rfl : k = c.shards.length := by omega
      have HT' := Lib.hid hT
      have HC : Hid (CoordIn wr B cb { c with out := some (asksOf c.txn c.shards f) } vo vp mo (.map (some w.heap.size)) (.slice sa c.shards.length sc) vr) := Lib.hid (by rwa [List.take_of_length_le (Nat.le_of_eq asksOf_len)] at h)
      clear h hT
      go_wp2_with (go_at_call 11; refine (Retry_ ⟨_, _, _, _, _, _, HC.out⟩).mono ?_; rintro e w1 ⟨v1, rfl, hA1, hS1⟩; have HA1 := Lib.hid hA1; clear hA1)
      go_ret
      have hz := HT'.out.size
      exact ⟨_, rfl, (Own.base HA1.out hz).less (fun b _ hb => Nat.lt_of_lt_of_le hb hz), HC.out.keep (fun b h1 _ => hS1.heap h1), HT'.out.then hS1⟩
end Go.Proofs.YthflkfgiclcdiaaGreat
