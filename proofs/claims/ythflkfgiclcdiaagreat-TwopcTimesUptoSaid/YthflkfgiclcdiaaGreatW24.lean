/-
  Walk: ToReply, at small replies without rows.
-/
import Derived.Test.YthflkfgiclcdiaaGreatW23
import Derived.Laws.ResultCell
namespace Go.Proofs.YthflkfgiclcdiaaGreat
open Go.RowKit Go.Gr
set_option linter.unusedSimpArgs false
theorem results_row_tmp {P : Program} {fn : Func} {p u : Tmp} {ty : TypeId} (h : fn.results = #[.cell p ty, .tmp u]) (tmps : Array Value) (w : World) (g : Nat) (t : TypeId) (cs : Array Value) (d : TypeDesc)
    (hp : tmps.getD p undef = .pointer (some ⟨g, 0, none⟩)) (hg : CellsAt w g cs t) (hu : P.underlying ty = some d) (hd : (match d with | .struct _ | .array _ _ => true | _ => false) = true) (hi : (P.info? ty).map (·.size) = some cs.size) :
    (results fn tmps).run P w = .ok (.tuple #[.agg cs, tmps.getD u undef]) w := by
  rw [results_cell_tmp h, hp]
  simp [asAddr, run_loadVar_row w g t ty cs (0, 0) d hg hu hd hi, Result.andThen]
theorem numB_small {n : Nat} (h : n ≤ 247) : numB n = [UInt8.ofNat n] := if_pos h
theorem joinB_small {ps : List (List UInt8)} (h : Small ps) : joinB ps = smallB ps := by
  have key : ∀ qs : List (List UInt8), (∀ p ∈ qs, p.length ≤ 247) → textB qs = tsB qs := by
    intro qs
    induction qs with
    | nil => intro _; rfl
    | cons q qs ih =>
      intro hq
      have h1 := ih (fun p hp => hq p (by simp [hp]))
      rw [tsB_cons, ← h1]
      simp only [textB, List.flatMap_cons]
      rw [numB_small (hq q (by simp))]
      simp
  unfold joinB smallB
  rw [numB_small h.count, key ps h.parts]
  rfl
theorem small_two (e t : UInt8) : Small [[e], [t]] := ⟨by simp, fun p hp => by simp at hp; rcases hp with rfl | rfl <;> simp⟩
set_option maxRecDepth 100000 in
set_option maxHeartbeats 2000000 in
theorem ToReply_small {w : World} {M : Nat → Prop} {v : Value} {e t : UInt8} (he : e.toNat ≤ 247) (ht : t.toNat ≤ 247) (h : Ty.bytes.rep w M [v] (smallB [[e], [t]])) :
    Calls Tryz.prog 26 #[v] w fun x w' => x = .returned (.tuple #[.agg #[.int .i64 (e.toNat : Int), .int .i64 (t.toNat : Int), .slice none 0 0, .slice none 0 0], .int .i64 0]) ∧ Step w w' := by
  have H := Lib.hid h
  clear h
  go_enter Tryz.func26, Tryz.ntmps26
  go_upto_region 2 with (go_at_call 64; refine (pSplit_small (small_two e t) (Ty.step _ H.out (by (repeat (first | exact Step.refl _ | refine Step.alloc ?_ _ | refine Step.drew ?_ | refine Step.drewN ?_ _ | refine Step.setCell ?_ (by first | exact Nat.le_refl _ | assumption | omega | (simp; done) | (simp; omega)) _ | assumption | refine Step.trans ?_ (by assumption : Step _ _)))))).mono ?_; rintro x w1 ⟨v1, rfl, hR1, hS1⟩; have HR1 := Lib.hid hR1; clear hR1)
  obtain ⟨a1, c1, rfl, hc1, _⟩ := Ty.slice_val HR1.out
  obtain ⟨b1, o1, u0, rfl, hb1, _, hu0, q0⟩ := Ty.slice_at1 rfl HR1.out (k := 0) (by simp)
  obtain ⟨b2, o2, u1, hbb, _, _, hu1, q1⟩ := Ty.slice_at1 rfl HR1.out (k := 1) (by simp)
  obtain ⟨rfl, rfl⟩ : b1 = b2 ∧ o1 = o2 := by
    simp only [Option.some.injEq, Addr.mk.injEq, and_true] at hbb
    exact hbb
  simp only [List.getElem_cons_zero, List.getElem_cons_succ, List.length_cons, List.length_nil, Nat.zero_add, Nat.add_zero, Nat.reduceAdd] at hu0 hu1 q0 hc1 ⊢
  obtain ⟨a3, c3, rfl, _⟩ := Ty.slice_val hu0
  obtain ⟨a4, c4, rfl, _⟩ := Ty.slice_val hu1
  have HU0 := Lib.hid hu0
  have HU1 := Lib.hid hu1
  simp only [List.length_cons, List.length_nil, Nat.zero_add] at q0 q1 HU0 HU1
  clear hu0 hu1 hbb
  have hz1 := hS1.size
  simp only [World.size_alloc] at hz1
  have hS1' : Step w w1 := Step.trans ((Step.refl _).alloc _) hS1
  have hres : CellsAt w1 w.heap.size #[.int .i64 0, .int .i64 0, .slice none 0 0, .slice none 0 0] 49 := (CellsAt.new rfl).step hS1
  have HRES := Lib.hid hres
  clear hres
  obtain ⟨A, hA⟩ : ∃ A, (if c1 = 2 then some (⟨b1, o1, none⟩ : Addr) else some ⟨b1, o1 + 2, none⟩) = A := ⟨_, rfl⟩
  have hc2 : (2 : Int) ≤ (c1 : Int) := by omega
  go_upto_region 7 with (go_at_call 65; refine (bNumber_small HU0.out he).mono ?_; rintro x w2 ⟨rfl, rfl⟩)
  go_upto_region 8 with (go_at_call 65; refine (bNumber_small HU1.out ht).mono ?_; rintro x w2 ⟨rfl, rfl⟩)
  have hres2 := HRES.out
  have r0 : w2.cell? ⟨w.heap.size, 0, none⟩ = some (.int .i64 0) := hres2.cell 0
  have r1 : w2.cell? ⟨w.heap.size, 1, none⟩ = some (.int .i64 0) := hres2.cell 1
  have r2 : w2.cell? ⟨w.heap.size, 2, none⟩ = some (.slice none 0 0) := hres2.cell 2
  have r3 : w2.cell? ⟨w.heap.size, 3, none⟩ = some (.slice none 0 0) := hres2.cell 3
  have f0 : w2.frozen? ⟨w.heap.size, 0, none⟩ = false := hres2.frozen 0
  have f1 : w2.frozen? ⟨w.heap.size, 1, none⟩ = false := hres2.frozen 1
  have f2 : w2.frozen? ⟨w.heap.size, 2, none⟩ = false := hres2.frozen 2
  have f3 : w2.frozen? ⟨w.heap.size, 3, none⟩ = false := hres2.frozen 3
  have hwl := hres2.lt
  clear hres2
  go_wp2
  refine wp_loop_rounds 1 ?_
  rw [rounds_succ]
  go_wp2
  have hfin := (((HRES.out.set 0 (.int .i64 (e.toNat : Int))).set 1 (.int .i64 (t.toNat : Int))).set 2 (.slice none 0 0)).set 3 (.slice none 0 0)
  refine bodyPost_ret (v := .tuple #[.agg #[.int .i64 (e.toNat : Int), .int .i64 (t.toNat : Int), .slice none 0 0, .slice none 0 0], .int .i64 0]) ?_ rfl ⟨rfl, ?_⟩
  · refine (results_row_tmp Tryz.results26 _ _ w.heap.size 49 #[.int .i64 (e.toNat : Int), .int .i64 (t.toNat : Int), .slice none 0 0, .slice none 0 0] _ ?_ ?_ Tryz.underlying49 rfl (by kernel_rfl)).trans ?_
    · rfl
    · exact hfin.step ((Step.refl _).alloc _)
    · rfl
  exact ((((hS1'.setCell (Nat.le_refl _) _).setCell (Nat.le_refl _) _).setCell (Nat.le_refl _) _).setCell (Nat.le_refl _) _).alloc _
end Go.Proofs.YthflkfgiclcdiaaGreat
