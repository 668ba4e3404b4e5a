/-
  A map's values, collected: slices.AppendSeq and slices.Collect at writes.
-/
import Derived.Test.YthflkfgiclcdiaaB8
namespace Go.Proofs.Ythflkfgiclcdiaa
open Go.RowKit Go.Maps Go.Sort Go.Shelf Go.Proofs
set_option linter.unusedSimpArgs false
attribute [local go_sem] Oper.semAt_some
theorem infoWrite : (Try.prog.info? 74).map (fun i => (i.zero, i.size, i.bytes)) = some (some (.agg #[.slice none 0 0, .slice none 0 0, .bool false]), 3, 56) := by kernel_rfl
theorem cells_three_new (w : World) (a b c : Value) (t : TypeId) : ∀ j u, [a, b, c][j]? = some u → (w.alloc (.cells #[a, b, c] t)).cell? ((⟨w.heap.size, 0, none⟩ : Addr).add j) = some u := by
  intro j u hj
  have h0 : (w.alloc (.cells #[a, b, c] t)).heap[w.heap.size]? = some (.cells #[a, b, c] t (0, 0)) := World.alloc_heap_new w _
  rcases j with _ | _ | _ | j
  · simp at hj; subst hj; simp [Addr.add]
  · simp at hj; subst hj; exact cell_of_row _ w.heap.size 1 _ _ (0, 0) h0
  · simp at hj; subst hj; exact cell_of_row _ w.heap.size 2 _ _ (0, 0) h0
  · simp at hj
set_option maxRecDepth 100000 in
set_option maxHeartbeats 4000000 in
theorem wSeq_ {w : World} {Bm b nn : Nat} {D0 : DataW Value} (hBm : Bm < w.heap.size) (hm : w.cell? ⟨Bm, 0, none⟩ = some (.map (some b))) (hown : w.ownsMap Try.prog 9 Go.Gr.rawElem b nn D0) (hsz : Maps.size D0 ≤ 1048576)
    (hsh : ∀ s v, (∀ zd, D0.atKey (.string s) zd = .held v) → ∃ x : WV, v = .agg (wvC x)) :
    CallsIn Fence.wide 4 Try.prog 97 #[.slice none 0 0, .func (.func 98) #[] #[.pointer (some ⟨Bm, 0, none⟩)]] w fun e w' => ∃ v ps, e = .returned v ∧ AllV D0 ps ∧ w'.ownsRow w.heap.size 74 3 v (ps.map (·.2)).length ((ps.map (·.2)).flatMap wvL) ∧ Below w.heap.size w w' := by
  obtain ⟨i0, hi, hz0, hz1, hz2⟩ := info_parts infoWrite
  have hro : Fence.wide.round = none := rfl
  refine callsIn_of_wp_marks Try.func97 rfl trivial ?_ rfl
  simp only [Try.ntmps97, List.size_toArray, List.length_cons, List.length_nil, Nat.reduceAdd, Nat.reduceSub, Array.replicate_succ, Array.replicate_zero, List.push_toArray, List.append_toArray, List.nil_append, List.cons_append]
  gi_wp2
  have bB := Boxed.new w 39 (.slice none 0 0)
  have hB0 : Below w.heap.size w (w.alloc (.cells #[.slice none 0 0] 39)) := (Below.refl _ w).alloc (Nat.le_refl _) _
  have hs0 : (w.alloc (.cells #[.slice none 0 0] 39)).heap.size = w.heap.size + 1 := by simp
  obtain ⟨W0, hW0⟩ : ∃ W0, w.alloc (.cells #[.slice none 0 0] 39) = W0 := ⟨_, rfl⟩
  rw [hW0] at bB hB0 hs0 ⊢
  have hown0 : W0.ownsMap Try.prog 9 Go.Gr.rawElem b nn D0 := by
    have hbl := hown.lt
    obtain ⟨es, clock, hb, Ft, hs, hD⟩ := hown
    exact ⟨es, clock, (hB0.block b hbl).trans hb, Ft, hs, hD⟩
  have hm0 := (hB0.cell (p := ⟨Bm, 0, none⟩) hBm).trans hm
  clear hW0
  refine wpIn_rangeFunc_ownH hro (by omega) (gf := 98) (lb := #[.pointer (some ⟨Bm, 0, none⟩)]) rfl trivial (enters_of Try.func98 (by kernel_rfl) rfl)
    (wValues_stops Fence.wide _ trivial rfl (by omega) Bm b nn D0 W0 (by omega) hm0 hown0 hsh) walksK_t walksK_b (Below.refl _ _) (fun _ => rfl)
    (fun pre W => (∃ v, Boxed W w.heap.size 39 v ∧ W.ownsRow w.heap.size 74 3 v pre.length (pre.flatMap wvL) ∧ True) ∧ Below w.heap.size w W)
    (fun _ _ _ => False)
    (OwnFrom.and (Own.from (holdsRow_own w.heap.size w.heap.size 39 74 3 (fun (pre : List WV) => pre.length) (fun pre => pre.flatMap wvL) (fun _ _ => True)) _) (ownFrom_below (Nat.le_refl _) (by omega)))
    (fun _ _ _ _ _ hs _ _ => hs)
    ⟨⟨_, bB, World.ownsRow_nil _ _ _ _, trivial⟩, hB0⟩
    (fun x a' W => ∃ Bx, W.heap[Bx]? = some (.cells (wvC x) 74 (0, 0)) ∧ a' = { tmps := #[.slice none 0 0, .func (.func 98) #[] #[.pointer (some ⟨Bm, 0, none⟩)], .pointer (some ⟨w.heap.size, 0, none⟩), undef, .slice none 0 0, .pointer (some ⟨Bx, 0, none⟩), .func (.func 98) #[] #[.pointer (some ⟨Bm, 0, none⟩)], .agg (wvC x), undef, undef, undef, undef, undef], defers := [] })
    (fun x a' _ X Y row hs hg hr => by
      obtain ⟨Bx, h1, h2⟩ := hs
      refine ⟨Bx, (hg.block Bx (Array.getElem?_eq_some_iff.1 h1).1 (fun e => ?_)).trans h1, h2⟩
      obtain ⟨_, o, ho, hc⟩ := hr Bx e.symm
      rw [h1] at ho
      cases ho
      cases hc)
    ?assign ?body ?done ?stop
  case assign =>
    rintro l pre x W K ⟨⟨v, bv, hrow, _⟩, hB⟩ hK
    gi_wp2
    exact hK _ _ ((KeepsOthers.alloc _ _).from _) (KeepsWalks.alloc _ _) ⟨⟨v, bv.alloc _, hrow.alloc _, trivial⟩, hB.alloc hB.size _⟩ ⟨W.heap.size, World.alloc_heap_new W _, rfl⟩
  case body =>
    rintro l pre x a' W hl ⟨r, hr⟩ ⟨⟨v, bv, hrow, _⟩, hB⟩ ⟨Bx, hbx, rfl⟩ hlt
    have cB := bv.cell
    have fB := bv.frozen
    have c0 : W.cell? ⟨Bx, 0, none⟩ = some (.slice x.1.1 x.1.2.1 x.1.2.2) := cell_of_row W _ 0 _ _ (0, 0) hbx
    have c1 : W.cell? ⟨Bx, 1, none⟩ = some (.slice x.2.1.1 x.2.1.2.1 x.2.1.2.2) := cell_of_row W _ 1 _ _ (0, 0) hbx
    have c2 : W.cell? ⟨Bx, 2, none⟩ = some (.bool x.2.2) := cell_of_row W _ 2 _ _ (0, 0) hbx
    have hsW := hB.size
    gi_wp2_with (gi_at_builtin; refine wpListIn_append_own _ rfl _ _ 39 rfl w.heap.size 74 i0 (.agg #[.slice none 0 0, .slice none 0 0, .bool false]) 3 56 Try.underlying39 hi hz0 hz1 hz2 rfl (by decide) _ _ _ rfl (hrow.alloc _) ⟨W.heap.size, 0, none⟩ 1 1 (wvL x) rfl rfl (cells_three_new _ _ _ _ _) (by simp [Value.oneCell']) (by unfold maxLen; omega) (by omega) (by simp; omega) ?_; intro v' w1 hown' hgrow _; obtain ⟨g', cap', rfl⟩ := ownsRow_succ hown'; obtain ⟨hv1, hv2, hr2, hk2, hb2⟩ := bv.appended (by decide) hrow hB.size (Nat.le_refl _) hown' hgrow; have hc1 := hv1.cell; have hf1 := hv1.frozen)
    exact ⟨hk2.from _, ⟨hk2.size, fun k o hk ho => hk2.same k o hk (Obj.not_cells_of_walk ho)⟩, ⟨⟨_, hv2, by simpa using hr2, trivial⟩, hB.trans hb2⟩⟩
  case done =>
    rintro D xs W hD ⟨ps, hps, rfl⟩ ⟨⟨v, bv, hrow, _⟩, hB⟩ hK
    have cB := bv.cell
    gi_wp2
    refine ⟨by simp, .inl ⟨_, _, rfl, run_takeDeferred hK, ?_⟩⟩
    exact ⟨_, results_tmp rfl _ _ _, v, ps, rfl, hps, ownsRow_putObj hrow _ hK rfl, hB.grown (grownBy_putObj' _ _ _) hB.size (fun k e => by cases e; omega)⟩
  case stop =>
    rintro D c pre W hD _ h
    exact h.elim
set_option maxRecDepth 100000 in
set_option maxHeartbeats 2000000 in
theorem wColl_ {w : World} {Bm b nn : Nat} {D0 : DataW Value} (hBm : Bm < w.heap.size) (hm : w.cell? ⟨Bm, 0, none⟩ = some (.map (some b))) (hown : w.ownsMap Try.prog 9 Go.Gr.rawElem b nn D0) (hsz : Maps.size D0 ≤ 1048576)
    (hsh : ∀ s v, (∀ zd, D0.atKey (.string s) zd = .held v) → ∃ x : WV, v = .agg (wvC x)) :
    Calls Try.prog 62 #[.func (.func 98) #[] #[.pointer (some ⟨Bm, 0, none⟩)]] w fun e w' => ∃ v ps, e = .returned v ∧ AllV D0 ps ∧ w'.ownsRow w.heap.size 74 3 v (ps.map (·.2)).length ((ps.map (·.2)).flatMap wvL) ∧ Below w.heap.size w w' := by
  have cS := (callsIn_wide (n := 4)).1 (wSeq_ hBm hm hown hsz hsh)
  go_enter Try.func62, Try.ntmps62
  go_wp2_with (go_at_call 97; refine cS.mono ?_; rintro e w1 ⟨v, ps, rfl, h1, h2, h3⟩)
  go_ret
  exact ⟨v, ps, rfl, h1, h2, h3⟩
end Go.Proofs.Ythflkfgiclcdiaa
