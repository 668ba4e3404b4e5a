/-
  Walks: Coord.Answer at Finish; small cells of a coordinator are turned.
-/
import Derived.Test.YthflkfgiclcdiaaGreatC14
namespace Go.Proofs.YthflkfgiclcdiaaGreat
open Go.Gr Go.RowKit
set_option linter.unusedSimpArgs false
theorem CoordIn.plain {w : World} {B cb : Nat} {c c' : DCoord} {vo vp mo mu vs vr : Value} (h : CoordIn w B cb c vo vp mo mu vs vr) (i : Nat) (u : Value)
    (hc : (coordCells c.txn vo vp mo c.phase c.wants mu vs c.commit vr c.certain c.age c.patience).setIfInBounds i u = coordCells c'.txn vo vp mo c'.phase c'.wants mu vs c'.commit vr c'.certain c'.age c'.patience)
    (e1 : c'.txn = c.txn) (e2 : c'.ops = c.ops) (e3 : c'.parts = c.parts) (e4 : c'.outs = c.outs) (e5 : c'.out = c.out) (e6 : c'.shards = c.shards) (e7 : c'.reply = c.reply) (e8 : c'.patience = c.patience) :
    CoordIn (w.setCell ⟨cb, i, none⟩ u) B cb c' vo vp mo mu vs vr := by
  have hK : Kept (coM B cb mo mu) w (w.setCell ⟨cb, i, none⟩ u) := Kept.setCell _ _ _ (.inr (.inl rfl))
  have hl : ∀ {b}, b ≠ cb → (w.setCell ⟨cb, i, none⟩ u).heap[b]? = w.heap[b]? := fun hb => heap_setCell_other _ _ _ _ hb
  have hcells := h.cells.set i u
  rw [hc] at hcells
  have hnu : ∀ b, mapBlock mu = some b → b ≠ cb := by
    intro b hb e
    subst e
    rcases ho : c.out with _ | l
    · have := h.out
      rw [ho] at this
      obtain rfl : mu = .map none := this
      simp [mapBlock] at hb
    · have := h.out
      rw [ho] at this
      obtain ⟨b', rfl, hm, _⟩ := this
      obtain rfl : b' = b := by simpa [mapBlock] using hb
      obtain ⟨l', ⟨⟨es, clock, h1, _⟩, _⟩, _⟩ := hm
      rw [h.cells] at h1
      cases h1
  refine ⟨hcells, h.base, by rw [e1]; exact h.txn, by rw [e2]; exact Ty.kept _ h.ops hK, by rw [e3]; exact Ty.kept _ h.parts hK, by rw [e6]; exact Ty.kept _ h.shards hK, by rw [e7]; exact Ty.kept _ h.reply hK, ?_, ?_, h.omo, h.omu, h.apart, by rw [e6]; exact h.few, by rw [e8]; exact h.patience⟩
  · rw [e4]
    exact h.outs.keep (fun b hb => ⟨hl (h.mo_ne hb), .inr (.inr (.inl hb))⟩) fun b h1 h2 => ⟨hK b h1 h2, h2⟩
  · rw [e5]
    exact h.out.keep (fun b hb => ⟨hl (hnu b hb), .inr (.inr (.inr hb))⟩) fun b h1 h2 => ⟨hK b h1 h2, h2⟩
set_option maxRecDepth 100000 in
set_option maxHeartbeats 4000000 in
theorem cAnswer_fin {w : World} {B cb nb : Nat} {c : DCoord} {l : List (Int × DAsk)} {vo vp mo vs vr : Value} {at_ : Int} {x : DAnswer} {b3 : Option Addr} {n3 k3 : Nat} {kw : Int} (hkw : kw = if l.filter (fun p => p.1 != at_) = [] then 3 else c.wants) (h : CoordIn w B cb { c with out := some l } vo vp mo (.map (some nb)) vs vr) (hat : I64 at_)
    (hk : ∀ p ∈ l, p.2.kind = 5) (hin : ∃ p ∈ l, p.1 = at_) (hx : x.err = 0) (hxk : x.kind = 5) (hxt : x.txn = c.txn) :
    Calls Tryz.prog 16 #[.pointer (some ⟨cb, 0, none⟩), .int .i64 at_, .agg (ansCells x 0 0 (.slice none 0 0) (.slice none 0 0) (.slice b3 n3 k3))] w fun e w' => e = .returned (.slice none 0 0) ∧
      CoordIn w' B cb { c with out := some (l.filter (fun p => p.1 != at_)), wants := kw } vo vp mo (.map (some nb)) vs vr ∧ Turn (fun b => b = cb ∨ b = nb) w w' := by
  obtain ⟨kind, inc, boot, txn, id, err, out, commit, reply, at2⟩ := x
  simp only at hx hxk hxt
  subst hx hxk hxt
  have hcb := h.lt
  have p8 : w.cell? ⟨cb, 8, none⟩ = some (.map (some nb)) := h.cells.cell 8
  have p0 : w.cell? ⟨cb, 0, none⟩ = some (.int .u64 (c.txn.boot : Int)) := h.cells.cell 0
  have p1 : w.cell? ⟨cb, 1, none⟩ = some (.int .u64 (c.txn.session : Int)) := h.cells.cell 1
  have p2 : w.cell? ⟨cb, 2, none⟩ = some (.int .u64 (c.txn.seq : Int)) := h.cells.cell 2
  have hO := h.out
  obtain ⟨b, hb, hm, hMb, hlen, hkeys⟩ := hO
  obtain rfl : nb = b := by simpa using hb
  have hnb := hm.lt
  have HKW := Lib.hid hkw
  clear hkw
  have HM := Lib.hid hm
  have HMb := Lib.hid hMb
  have HLN := Lib.hid hlen
  have HKY := Lib.hid hkeys
  have H := Lib.hid h
  have HK := Lib.hid hk
  have HIN := Lib.hid hin
  have HAT := Lib.hid hat
  clear h hm hk hin hb hMb hlen hkeys
  have hlk := (HM.out.step ((Step.refl w).alloc (.cells (ansCells ⟨5, inc, boot, c.txn, id, 0, out, commit, reply, at2⟩ 0 0 (.slice none 0 0) (.slice none 0 0) (.slice b3 n3 k3)) 51))).look (t := 123) Tryz.underlying3 Tryz.underlying123 (Tryz.zeroValue39 _) hat true
  rcases hlk with ⟨hn, _⟩ | ⟨z, ⟨L⟩, hz, hrep, hr⟩
  · obtain ⟨p, hp, hpe⟩ := HIN.out
    exact absurd hpe (hn p hp)
  obtain ⟨ac7, ac9, hcs, ah⟩ := hrep
  simp only at hcs
  subst hcs
  obtain ⟨aa7, an7, rfl, _⟩ := Ty.slice_val ah.2.2.2.2.2.2.2.1
  obtain ⟨aa9, an9, rfl, _⟩ := Ty.slice_val ah.2.2.2.2.2.2.2.2.1
  have hkz : z.kind = 5 := HK.out _ hz
  rw [hkz] at hr
  clear ah hz
  unfold ansCells at hr ⊢
  simp only at hr ⊢
  go_enter Tryz.func16, Tryz.ntmps16
  go_wp2
  go_quiet (fail)
  go_upto_region 14 with fail
  refine wp_code (fun W => Step w W) ?_ ?_
  · (repeat (first | exact Step.refl _ | refine Step.alloc ?_ _ | refine Step.drew ?_ | refine Step.drewN ?_ _ | refine Step.setCell ?_ (by first | exact Nat.le_refl _ | assumption | omega | (simp; done) | (simp; omega)) _ | assumption | refine Step.trans ?_ (by assumption : Step _ _)))
  clear p0 p1 p2 hr
  rintro wl hSl
  have q8 : wl.cell? ⟨cb, 8, none⟩ = some (.map (some nb)) := (hSl.cell hcb 8).trans p8
  have hln : ∀ W, MapT Tryz.prog 3 tAsk W (coM B cb mo (.map (some nb))) nb (l.filter (fun p => p.1 != at_)) → ∀ ty, (Builtin.len_ #[123] ty #[.map (some nb)]).run Tryz.prog W = .ok (.int .i64 ((l.filter (fun p => p.1 != at_)).length : Int)) W := fun W hW ty => hW.len Tryz.underlying123 ty
  obtain ⟨l', hq⟩ : ∃ l', l.filter (fun p => p.1 != at_) = l' := ⟨_, rfl⟩
  rw [hq] at hln
  have HQ := Lib.hid hq
  clear hq
  go_upto_region 15 with (refine wpList_delete_T (s := at_) rfl (.tmp 67) (.tmp 68) rfl (HM.out.step hSl) Tryz.underlying3 Tryz.underlying123 HAT.out HMb.out rfl rfl ?_; intro w5 hm5 hg5; rw [HQ.out] at hm5; have hl5 := hln _ hm5; have HM5 := Lib.hid hm5; have HC5 : Hid (CoordIn _ B cb { c with out := some l' } vo vp mo (.map (some nb)) vs vr) := Lib.hid (CoordIn.grownOut (c := c) (H.out.keep (fun b h1 _ => hSl.heap h1)) hg5 hm5 (by have := filter_le (s := at_) HLN.out; rwa [HQ.out] at this) (fun p hp => by (rw [← HQ.out] at hp; exact filter_i64 HKY.out p hp))); have HT5 := Lib.hid (Turn.grown (M := fun b => b = cb ∨ b = nb) (Turn.of hSl) hg5 (fun g hg h => by (obtain rfl := Option.some.inj hg; exact .inr rfl))); clear hm5 hg5)
  have r8 : w5.cell? ⟨cb, 8, none⟩ = some (.map (some nb)) := HC5.out.cells.cell 8
  have r7 : w5.cell? ⟨cb, 7, none⟩ = some (.int .i64 c.wants) := HC5.out.cells.cell 7
  have f7 : w5.frozen? ⟨cb, 7, none⟩ = false := HC5.out.cells.frozen 7
  rcases l' with _ | ⟨y, l'⟩
  · simp only [List.length_nil] at hl5
    go_wp2
    go_ret
    refine ⟨rfl, ?_, HT5.out.setCell (fun _ => .inl rfl) _⟩
    obtain rfl : kw = 3 := by (have := HKW.out; rw [HQ.out] at this; simpa using this)
    rw [HQ.out]
    exact HC5.out.plain 7 _ rfl rfl rfl rfl rfl rfl rfl rfl rfl
  · have hpos : ((y :: l').length : Int) ≠ 0 := by simp; omega
    go_wp2
    go_ret
    refine ⟨rfl, ?_, HT5.out⟩
    obtain rfl : kw = c.wants := by (have := HKW.out; rw [HQ.out] at this; simpa using this)
    rw [HQ.out]
    exact HC5.out
end Go.Proofs.YthflkfgiclcdiaaGreat
