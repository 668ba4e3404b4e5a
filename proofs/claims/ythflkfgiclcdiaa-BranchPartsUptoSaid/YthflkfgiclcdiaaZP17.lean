/-
  A map's values, collected (slices.Collect of maps.Values at writes by strings).
  A map's values, collected: slices.AppendSeq and slices.Collect at writes.
-/
import Derived.Test.YthflkfgiclcdiaaZB7
import Derived.RangeFuncNested
import Derived.RangeFuncBox
import Derived.RangeFuncLeaves
import Derived.RangeFuncMany
import Derived.Shelf.Abstract
import Derived.Shelf.AbstractIn
import Derived.WalkKit
import Derived.OwnWalkIn
import Derived.TacticsInMore
import Derived.LoopNIn
import Derived.LoopIn
import Derived.RegionIn
import Derived.Sort.MapsRangeIn
import Derived.Maps.AppendAt
set_option linter.unusedVariables false
set_option linter.unusedSimpArgs false
namespace Go.Proofs.Ythflkfgiclcdiaa
open Go.RowKit Go.Maps Go.Sort Go.Shelf Go.Proofs
set_option linter.unusedSimpArgs false
/-- A write as it stands in cells. -/
abbrev WV := (Option Addr × Nat × Nat) × (Option Addr × Nat × Nat) × Bool
abbrev wvC (x : WV) : Array Value := #[.slice x.1.1 x.1.2.1 x.1.2.2, .slice x.2.1.1 x.2.1.2.1 x.2.1.2.2, .bool x.2.2]
abbrev wvL (x : WV) : List Value := [.slice x.1.1 x.1.2.1 x.1.2.2, .slice x.2.1.1 x.2.1.2.1 x.2.1.2.2, .bool x.2.2]
/-- All of a map's values have come, each at its key. -/
def AllV (D0 : DataW Value) (ps : List (List UInt8 × WV)) : Prop := (ps.map (·.1)).Perm (strKeys D0) ∧ ∀ p ∈ ps, ∀ zd, D0.atKey (.string p.1) zd = .held (.agg (wvC p.2))
theorem wValues_ (mb : Option Nat) (w : World) : Calls Try.prog 63 #[.map mb] w fun e w' => e = .returned (.func (.func 98) #[] #[.pointer (some ⟨w.heap.size, 0, none⟩)]) ∧ w' = w.alloc (.cells #[.map mb] 125) := by
  go_enter Try.func63, Try.ntmps63
  go_wp2
  go_ret
  exact ⟨rfl, rfl⟩
set_option maxRecDepth 100000 in
set_option maxHeartbeats 4000000 in
theorem wValues1_in (F : Fence) (n : Nat) (hf : F.fn 98) (hro : F.round = none) (hn : 1 ≤ n) (l Bm b nn : Nat) (D0 : DataW Value) (J Jx : List WV → World → Prop)
    (hY : ∀ pre x W, J pre W → pre.length < Maps.size D0 → YieldAt F (n - 1) Try.prog l #[.agg (wvC x)] W fun e W' => (e = .returned (.bool true) ∧ J (pre ++ [x]) W' ∧ KeepsWalks W W') ∨ (e = .returned (.bool false) ∧ Jx (pre ++ [x]) W'))
    (W : World) (hJ : AbidesFrom W.heap.size J) (hm : W.cell? ⟨Bm, 0, none⟩ = some (.map (some b))) (hown : W.ownsMap Try.prog 9 Go.Gr.rawElem b nn D0) (hsh : ∀ s v, (∀ zd, D0.atKey (.string s) zd = .held v) → ∃ x : WV, v = .agg (wvC x)) (h0 : J [] W) :
    CallsIn F n Try.prog 98 #[.func (.yield l) #[] #[], .pointer (some ⟨Bm, 0, none⟩)] W fun e W' => (∃ v, e = .returned v) ∧ ((∃ xs, (∃ ps, AllV D0 ps ∧ xs = ps.map (·.2)) ∧ J xs W') ∨ (∃ pre, True ∧ Jx pre W')) := by
  refine callsIn_of_wp Try.func98 rfl hf ?_ hro
  simp only [Try.ntmps98, List.size_toArray, List.length_cons, List.length_nil, Nat.reduceAdd, Nat.reduceSub, Array.replicate_succ, Array.replicate_zero, List.push_toArray, List.append_toArray, List.nil_append, List.cons_append]
  gi_wp2_with (first
    | (gi_at_range; refine wpListIn_range_own _ rfl _ 125 rfl 9 74 (string_keyed Try.underlying9) Try.underlying125 _ b nn _ rfl hown ?_; intro w0 hrg0 hg0 hs0)
    | gi_in)
  go_frame
  gi_loopw [4] (fun _ wr => ∃ (left : Lit → Bool) (cnt : Nat) (ps : List (List UInt8 × WV)), wr.ranges Try.prog 9 Go.Gr.rawElem b W.heap.size nn D0 left cnt ∧ ps.length + cnt ≤ Maps.size D0 ∧ Collected D0 left (ps.map (·.1)) ∧ (∀ p ∈ ps, ∀ zd, D0.atKey (.string p.1) zd = .held (.agg (wvC p.2))) ∧ J (ps.map (·.2)) wr)
    (fun _ wr => wr.rangeLeft b W.heap.size)
  case atStart =>
    exact ⟨_, _, [], hrg0, by simp, Collected.start D0, by simp, hJ [] W w0 none h0 hg0 (fun r e => by cases e)⟩
  case round =>
    obtain ⟨left, cnt, ps, hrg, hcs, hC, hV, hJs⟩ := hrel
    gi_wp2_with (first
      | (gi_at_next; refine wpListIn_next_ranges _ rfl _ rfl 9 (string_keyed Try.underlying9) Go.Gr.rawElem encStr id (fun key kl hk => by obtain ⟨x, hx, _⟩ := Maps.keyOf_str Try.underlying9 hk; exact ⟨x, hx⟩) (fun v _ _ => ⟨v, rfl⟩) b W.heap.size nn _ _ _ rfl hrg ?_ ?_)
      | gi_in)
    · intro hc0 hl0
      gi_wp2
      go_end0
      exact ⟨⟨_, rfl⟩, .inl ⟨_, ⟨ps, ⟨hC.perm hown (string_keyed Try.underlying9) Try.underlying9 hl0, hV⟩, rfl⟩, hJs⟩⟩
    · intro x c kl yd yp w2 cnt2 hkey hlk hv1 hv2 hat hrg2 hlt hg2 hs2 hen
      obtain ⟨x', ex, rfl, _⟩ := Maps.keyOf_str Try.underlying9 hkey
      obtain rfl : x = x' := encStr_inj ex
      subst hv1
      obtain ⟨c', rfl⟩ := hsh x c hat
      have hJ2 : J (ps.map (·.2)) w2 := hJ _ wr w2 (some W.heap.size) hJs hg2 (fun r e => by cases e; exact ⟨Nat.le_refl _, hrg.iter_walk⟩)
      have hJ3 : J (ps.map (·.2)) (w2.alloc (.cells (wvC c') 74)) := hJ _ w2 _ none hJ2 (World.grownBy_alloc w2 _ none) (fun r e => by cases e)
      obtain ⟨fn, tmps, assign, body, hy, hR⟩ := hY (ps.map (·.2)) c' _ hJ3 (by simp; omega)
      have hrg2' := hrg2.alloc (.cells (wvC c') 74)
      clear hs2
      gi_wp2
      refine hR.mono ?_
      have hC2 : Collected D0 (fun z => left z && !z.sameKey (.string x)) ((ps ++ [(x, c')]).map (·.1)) := by simpa using hC.step hlk hat
      have hV2 : ∀ p ∈ ps ++ [(x, c')], ∀ zd, D0.atKey (.string p.1) zd = .held (.agg (wvC p.2)) := fun p hp => (List.mem_append.1 hp).elim (hV p) (fun e => by simp at e; subst e; exact hat)
      rintro e W3 (⟨rfl, hJ3, hk3⟩ | ⟨rfl, hJx3⟩)
      · gi_wp2
        have hrg3 := hrg2'.of_walks hk3
        go_roundw
        case rel => exact ⟨_, cnt2, ps ++ [(x, c')], hrg3, by simp; omega, hC2, hV2, by simpa using hJ3⟩
        case measure => rw [hrg3.left_eq, hrg.left_eq]; exact hlt
      · gi_wp2
        refine bodyPost_ret (results_none rfl _ _ _) rfl ?_
        exact ⟨⟨_, rfl⟩, .inr ⟨_, trivial, hJx3⟩⟩
/-- maps.Values hands back an iterator over the values. -/
theorem wValues_stops (F : Fence) (n : Nat) (hf : F.fn 98) (hro : F.round = none) (hn : 1 ≤ n) (Bm b nn : Nat) (D0 : DataW Value) (w : World) (hBm : Bm < w.heap.size)
    (hm : w.cell? ⟨Bm, 0, none⟩ = some (.map (some b))) (hown : w.ownsMap Try.prog 9 Go.Gr.rawElem b nn D0) (hsh : ∀ s v, (∀ zd, D0.atKey (.string s) zd = .held v) → ∃ x : WV, v = .agg (wvC x)) :
    SeqStopsK F n Try.prog 98 #[.pointer (some ⟨Bm, 0, none⟩)] (fun x : WV => #[.agg (wvC x)]) KeepsWalks (fun xs => ∃ ps, AllV D0 ps ∧ xs = ps.map (·.2)) (fun _ => True) (Maps.size D0) w := fun l J Jx W hW hJ _ hY h0 => by
  have hown' : W.ownsMap Try.prog 9 Go.Gr.rawElem b nn D0 := by
    have hbl := hown.lt
    obtain ⟨es, clock, hb, Ft, hs, hD⟩ := hown
    exact ⟨es, clock, (hW.block b hbl).trans hb, Ft, hs, hD⟩
  exact wValues1_in F n hf hro hn l Bm b nn D0 J Jx hY W hJ ((hW.cell (p := ⟨Bm, 0, none⟩) hBm).trans hm) hown' hsh h0
end Go.Proofs.Ythflkfgiclcdiaa

namespace Go.Proofs.Ythflkfgiclcdiaa
open Go.RowKit Go.Maps Go.Sort Go.Shelf Go.Proofs
set_option linter.unusedSimpArgs false
attribute [local go_sem] Oper.semAt_some
theorem infoWrite : (Try.prog.info? 74).map (fun i => (i.zero, i.size, i.bytes)) = some (some (.agg #[.slice none 0 0, .slice none 0 0, .bool false]), 3, 56) := by kernel_rfl
theorem cells_three_new (w : World) (a b c : Value) (t : TypeId) : ∀ j u, [a, b, c][j]? = some u → (w.alloc (.cells #[a, b, c] t)).cell? ((⟨w.heap.size, 0, none⟩ : Addr).add j) = some u := by
  intro j u hj
  have h0 : (w.alloc (.cells #[a, b, c] t)).heap[w.heap.size]? = some (.cells #[a, b, c] t (0, 0)) := World.alloc_heap_new w _
  rcases j with _ | _ | _ | j
  · simp at hj; subst hj; simp [Addr.add]
  · simp at hj; subst hj; exact cell_of_row _ w.heap.size 1 _ _ (0, 0) h0
  · simp at hj; subst hj; exact cell_of_row _ w.heap.size 2 _ _ (0, 0) h0
  · simp at hj
set_option maxRecDepth 100000 in
set_option maxHeartbeats 4000000 in
theorem wSeq_ {w : World} {Bm b nn : Nat} {D0 : DataW Value} (hBm : Bm < w.heap.size) (hm : w.cell? ⟨Bm, 0, none⟩ = some (.map (some b))) (hown : w.ownsMap Try.prog 9 Go.Gr.rawElem b nn D0) (hsz : Maps.size D0 ≤ 1048576)
    (hsh : ∀ s v, (∀ zd, D0.atKey (.string s) zd = .held v) → ∃ x : WV, v = .agg (wvC x)) :
    CallsIn Fence.wide 4 Try.prog 97 #[.slice none 0 0, .func (.func 98) #[] #[.pointer (some ⟨Bm, 0, none⟩)]] w fun e w' => ∃ v ps, e = .returned v ∧ AllV D0 ps ∧ w'.ownsRow w.heap.size 74 3 v (ps.map (·.2)).length ((ps.map (·.2)).flatMap wvL) ∧ Below w.heap.size w w' := by
  obtain ⟨i0, hi, hz0, hz1, hz2⟩ := info_parts infoWrite
  have hro : Fence.wide.round = none := rfl
  refine callsIn_of_wp_marks Try.func97 rfl trivial ?_ rfl
  simp only [Try.ntmps97, List.size_toArray, List.length_cons, List.length_nil, Nat.reduceAdd, Nat.reduceSub, Array.replicate_succ, Array.replicate_zero, List.push_toArray, List.append_toArray, List.nil_append, List.cons_append]
  gi_wp2
  have bB := Boxed.new w 39 (.slice none 0 0)
  have hB0 : Below w.heap.size w (w.alloc (.cells #[.slice none 0 0] 39)) := (Below.refl _ w).alloc (Nat.le_refl _) _
  have hs0 : (w.alloc (.cells #[.slice none 0 0] 39)).heap.size = w.heap.size + 1 := by simp
  obtain ⟨W0, hW0⟩ : ∃ W0, w.alloc (.cells #[.slice none 0 0] 39) = W0 := ⟨_, rfl⟩
  rw [hW0] at bB hB0 hs0 ⊢
  have hown0 : W0.ownsMap Try.prog 9 Go.Gr.rawElem b nn D0 := by
    have hbl := hown.lt
    obtain ⟨es, clock, hb, Ft, hs, hD⟩ := hown
    exact ⟨es, clock, (hB0.block b hbl).trans hb, Ft, hs, hD⟩
  have hm0 := (hB0.cell (p := ⟨Bm, 0, none⟩) hBm).trans hm
  clear hW0
  refine wpIn_rangeFunc_ownH hro (by omega) (gf := 98) (lb := #[.pointer (some ⟨Bm, 0, none⟩)]) rfl trivial (enters_of Try.func98 (by kernel_rfl) rfl)
    (wValues_stops Fence.wide _ trivial rfl (by omega) Bm b nn D0 W0 (by omega) hm0 hown0 hsh) walksK_t walksK_b (Below.refl _ _) (fun _ => rfl)
    (fun pre W => (∃ v, Boxed W w.heap.size 39 v ∧ W.ownsRow w.heap.size 74 3 v pre.length (pre.flatMap wvL) ∧ True) ∧ Below w.heap.size w W)
    (fun _ _ _ => False)
    (OwnFrom.and (Own.from (holdsRow_own w.heap.size w.heap.size 39 74 3 (fun (pre : List WV) => pre.length) (fun pre => pre.flatMap wvL) (fun _ _ => True)) _) (ownFrom_below (Nat.le_refl _) (by omega)))
    (fun _ _ _ _ _ hs _ _ => hs)
    ⟨⟨_, bB, World.ownsRow_nil _ _ _ _, trivial⟩, hB0⟩
    (fun x a' W => ∃ Bx, W.heap[Bx]? = some (.cells (wvC x) 74 (0, 0)) ∧ a' = { tmps := #[.slice none 0 0, .func (.func 98) #[] #[.pointer (some ⟨Bm, 0, none⟩)], .pointer (some ⟨w.heap.size, 0, none⟩), undef, .slice none 0 0, .pointer (some ⟨Bx, 0, none⟩), .func (.func 98) #[] #[.pointer (some ⟨Bm, 0, none⟩)], .agg (wvC x), undef, undef, undef, undef, undef], defers := [] })
    (fun x a' _ X Y row hs hg hr => by
      obtain ⟨Bx, h1, h2⟩ := hs
      refine ⟨Bx, (hg.block Bx (Array.getElem?_eq_some_iff.1 h1).1 (fun e => ?_)).trans h1, h2⟩
      obtain ⟨_, o, ho, hc⟩ := hr Bx e.symm
      rw [h1] at ho
      cases ho
      cases hc)
    ?assign ?body ?done ?stop
  case assign =>
    rintro l pre x W K ⟨⟨v, bv, hrow, _⟩, hB⟩ hK
    gi_wp2
    exact hK _ _ ((KeepsOthers.alloc _ _).from _) (KeepsWalks.alloc _ _) ⟨⟨v, bv.alloc _, hrow.alloc _, trivial⟩, hB.alloc hB.size _⟩ ⟨W.heap.size, World.alloc_heap_new W _, rfl⟩
  case body =>
    rintro l pre x a' W hl ⟨r, hr⟩ ⟨⟨v, bv, hrow, _⟩, hB⟩ ⟨Bx, hbx, rfl⟩ hlt
    have cB := bv.cell
    have fB := bv.frozen
    have c0 : W.cell? ⟨Bx, 0, none⟩ = some (.slice x.1.1 x.1.2.1 x.1.2.2) := cell_of_row W _ 0 _ _ (0, 0) hbx
    have c1 : W.cell? ⟨Bx, 1, none⟩ = some (.slice x.2.1.1 x.2.1.2.1 x.2.1.2.2) := cell_of_row W _ 1 _ _ (0, 0) hbx
    have c2 : W.cell? ⟨Bx, 2, none⟩ = some (.bool x.2.2) := cell_of_row W _ 2 _ _ (0, 0) hbx
    have hsW := hB.size
    gi_wp2_with (gi_at_builtin; refine wpListIn_append_own _ rfl _ _ 39 rfl w.heap.size 74 i0 (.agg #[.slice none 0 0, .slice none 0 0, .bool false]) 3 56 Try.underlying39 hi hz0 hz1 hz2 rfl (by decide) _ _ _ rfl (hrow.alloc _) ⟨W.heap.size, 0, none⟩ 1 1 (wvL x) rfl rfl (cells_three_new _ _ _ _ _) (by simp [Value.oneCell']) (by unfold maxLen; omega) (by omega) (by simp; omega) ?_; intro v' w1 hown' hgrow _; obtain ⟨g', cap', rfl⟩ := ownsRow_succ hown'; obtain ⟨hv1, hv2, hr2, hk2, hb2⟩ := bv.appended (by decide) hrow hB.size (Nat.le_refl _) hown' hgrow; have hc1 := hv1.cell; have hf1 := hv1.frozen)
    exact ⟨hk2.from _, ⟨hk2.size, fun k o hk ho => hk2.same k o hk (Obj.not_cells_of_walk ho)⟩, ⟨⟨_, hv2, by simpa using hr2, trivial⟩, hB.trans hb2⟩⟩
  case done =>
    rintro D xs W hD ⟨ps, hps, rfl⟩ ⟨⟨v, bv, hrow, _⟩, hB⟩ hK
    have cB := bv.cell
    gi_wp2
    refine ⟨by simp, .inl ⟨_, _, rfl, run_takeDeferred hK, ?_⟩⟩
    exact ⟨_, results_tmp rfl _ _ _, v, ps, rfl, hps, ownsRow_putObj hrow _ hK rfl, hB.grown (grownBy_putObj' _ _ _) hB.size (fun k e => by cases e; omega)⟩
  case stop =>
    rintro D c pre W hD _ h
    exact h.elim
set_option maxRecDepth 100000 in
set_option maxHeartbeats 2000000 in
theorem wColl_ {w : World} {Bm b nn : Nat} {D0 : DataW Value} (hBm : Bm < w.heap.size) (hm : w.cell? ⟨Bm, 0, none⟩ = some (.map (some b))) (hown : w.ownsMap Try.prog 9 Go.Gr.rawElem b nn D0) (hsz : Maps.size D0 ≤ 1048576)
    (hsh : ∀ s v, (∀ zd, D0.atKey (.string s) zd = .held v) → ∃ x : WV, v = .agg (wvC x)) :
    Calls Try.prog 62 #[.func (.func 98) #[] #[.pointer (some ⟨Bm, 0, none⟩)]] w fun e w' => ∃ v ps, e = .returned v ∧ AllV D0 ps ∧ w'.ownsRow w.heap.size 74 3 v (ps.map (·.2)).length ((ps.map (·.2)).flatMap wvL) ∧ Below w.heap.size w w' := by
  have cS := (callsIn_wide (n := 4)).1 (wSeq_ hBm hm hown hsz hsh)
  go_enter Try.func62, Try.ntmps62
  go_wp2_with (go_at_call 97; refine cS.mono ?_; rintro e w1 ⟨v, ps, rfl, h1, h2, h3⟩)
  go_ret
  exact ⟨v, ps, rfl, h1, h2, h3⟩
end Go.Proofs.Ythflkfgiclcdiaa
