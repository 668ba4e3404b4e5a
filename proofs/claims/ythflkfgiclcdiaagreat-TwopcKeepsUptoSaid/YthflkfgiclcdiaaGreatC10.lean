/-
  Walk: awake (groynelaw19).
-/
import Derived.Test.YthflkfgiclcdiaaGreatC9
import Derived.Lib.SmallJoins
namespace Go.Proofs.YthflkfgiclcdiaaGreat
open Go.Gr Go.RowKit
set_option linter.unusedSimpArgs false
theorem byte_lit {w : World} {e : TypeId} {fr : Nat × Nat} {k : Nat} {x : UInt8} {n : Int} (hk : k = w.heap.size) (hx : (x.toNat : Int) = n) : Ty.bytes.rep (w.alloc (.cells #[.int .u8 n] e fr)) (fun _ => False) [.slice (some ⟨k, 0, none⟩) 1 1] [x] := by
  subst hk hx
  refine ⟨_, _, rfl, Nat.le_refl _, by simp [maxLen], by simp [lim], fun _ => ⟨w.heap.size, 0, rfl, by simp, fun h => h, fun i hi => ?_⟩⟩
  obtain rfl : i = 0 := (by simpa using hi)
  refine ⟨[.int .u8 (x.toNat : Int)], rfl, fun j u hu => ?_⟩
  rcases j with _ | j
  · obtain rfl : _ = u := by simpa using hu
    have := cell_of_row (w.alloc (.cells #[.int .u8 (x.toNat : Int)] e fr)) w.heap.size 0 _ e fr (heap_alloc_new w _)
    simpa [Ty.byte] using this
  · simp at hu
theorem row_lit {w : World} {e : TypeId} {k : Nat} {u : Value} {x : List UInt8} (hk : k = w.heap.size) (hx : Ty.bytes.rep w (fun _ => False) [u] x) : (Ty.slice Ty.bytes).rep (w.alloc (.cells #[u] e)) (fun _ => False) [.slice (some ⟨k, 0, none⟩) 1 1] [x] := by
  subst hk
  exact Own.rep' (Own.lit (E := Ty.bytes) (e := e) (M := fun _ => False) (B := 0) (xs := [x]) rfl (by simp [lim]) (Nat.zero_le _) rfl (fun i hi => by obtain rfl : i = 0 := (by simpa using hi); exact hx)) (fun _ _ h => h)
theorem ops_lit2 {w : World} {e : TypeId} {k : Nat} {u1 u2 u3 u4 : Value} {y1 y2 : DOp} (hk : k = w.heap.size) (h1 : tOp.rep w (fun _ => False) [.int .i64 y1.kind, u1, u2, .int .i64 y1.most] y1) (h2 : tOp.rep w (fun _ => False) [.int .i64 y2.kind, u3, u4, .int .i64 y2.most] y2) :
    (Ty.slice tOp).rep (w.alloc (.cells #[.int .i64 y1.kind, u1, u2, .int .i64 y1.most, .int .i64 y2.kind, u3, u4, .int .i64 y2.most] e)) (fun _ => False) [.slice (some ⟨k, 0, none⟩) 2 2] [y1, y2] := by
  subst hk
  refine Own.rep' (Own.lit (E := tOp) (e := e) (M := fun _ => False) (B := 0) (xs := [y1, y2]) rfl (by simp [lim]) (Nat.zero_le _) rfl (fun i hi => ?_)) (fun _ _ h => h)
  have : i = 0 ∨ i = 1 := by simp at hi; omega
  rcases this with rfl | rfl
  · exact h1
  · exact h2
def awakeOps : List DOp := [⟨2, [97], [], 0⟩, ⟨2, [122], [], 0⟩]
theorem awake_parts : partsB [[109]] awakeOps 2 = [⟨0, [⟨2, [97], [], 0⟩], [0]⟩, ⟨1, [⟨2, [122], [], 0⟩], [1]⟩] := by
  decide
theorem awake_check : checkB awakeOps = 0 := by decide
set_option maxRecDepth 100000 in
set_option maxHeartbeats 4000000 in
theorem awake_ (w : World) : Calls Tryz.prog 7 #[] w fun e w' => e = .returned (.bool true) ∧ Step w w' := by
  have hcv : ∀ (W : World) (C : Array Value) (n c g : Nat), g = W.heap.size → (convert 22 22 (.slice (some ⟨g, 0, none⟩) n c)).run Tryz.prog (W.alloc (.cells C 5)) = .ok (.slice (some ⟨g, 0, none⟩) n c) (W.alloc (.cells C 5 (C.size, C.size + 1))) := fun W C n c g hg => Joins.run_convert_bytes_const_at W _ _ C n c g hg Tryz.underlying22 Tryz.underlying5
  go_enter Tryz.func7, Tryz.ntmps7
  have H1 : ∀ (W : World) (o : Obj) (k : Nat), k = W.heap.size → (Ty.slice Ty.bytes).rep (((((W.alloc (.cells #[.int .u8 109] 5 (1, 2))).alloc (.cells #[.slice (some ⟨k, 0, none⟩) 1 1] 22)).alloc (.cells #[.int .u8 97] 5 (1, 2))).alloc (.cells #[.int .u8 122] 5 (1, 2))).alloc o) (fun _ => False) [.slice (some ⟨k + 1, 0, none⟩) 1 1] [[109]] := fun W o k hk => by
    subst hk
    exact Ty.step _ (row_lit (by simp) (byte_lit rfl rfl)) ((((Step.refl _).alloc _).alloc _).alloc _)
  have H2 : ∀ (W : World) (o1 o2 : Obj) (k : Nat), k = W.heap.size → (Ty.slice tOp).rep (((((W.alloc o1).alloc o2).alloc (.cells #[.int .u8 97] 5 (1, 2))).alloc (.cells #[.int .u8 122] 5 (1, 2))).alloc (.cells #[.int .i64 2, .slice (some ⟨k + 1 + 1, 0, none⟩) 1 1, .slice none 0 0, .int .i64 0, .int .i64 2, .slice (some ⟨k + 1 + 1 + 1, 0, none⟩) 1 1, .slice none 0 0, .int .i64 0] 32)) (fun _ => False) [.slice (some ⟨k + 1 + 1 + 1 + 1, 0, none⟩) 2 2] awakeOps := fun W o1 o2 k hk => by
    subst hk
    exact ops_lit2 (y1 := ⟨2, [97], [], 0⟩) (y2 := ⟨2, [122], [], 0⟩) (by simp) ⟨_, _, rfl, by simp [I64], Ty.step _ (byte_lit (by simp) rfl) ((Step.refl _).alloc _), nil_rep, by simp [I64]⟩ ⟨_, _, rfl, by simp [I64], byte_lit (by simp) rfl, nil_rep, by simp [I64]⟩
  have HH1 := Lib.hid H1
  have HH2 := Lib.hid H2
  clear H1 H2
  go_wp2_with (go_at_call 9; refine (New_ _ (fun _ => False) ⟨1, 0, 1⟩ _ _ [[109]] awakeOps 5 ⟨by decide, by decide, by decide⟩ ?_ ?_ (by decide) (by decide) (by simp [I64])).mono ?_; exact HH1.out (w.alloc _) _ (w.heap.size + 1) (by simp); exact HH2.out (w.alloc _) _ _ (w.heap.size + 1) (by simp); rintro e w1 ⟨cb, rfl, hC1, hS1⟩; have HC1 := Lib.hid hC1; clear hC1)
  obtain ⟨vo, vp, mo, mu, vs, vr, hC⟩ := HC1.out
  have hp : partsB [[109]] awakeOps ([([109] : List UInt8)].length + 1) = [⟨0, [⟨2, [97], [], 0⟩], [0]⟩, ⟨1, [⟨2, [122], [], 0⟩], [1]⟩] := awake_parts
  rw [hp] at hC
  clear hp HC1
  have hxc : CellsAt w1 w.heap.size #[.int .u64 1, .int .u64 0, .int .u64 1] 26 := (CellsAt.new rfl).step (by (repeat (first | exact Step.refl _ | refine Step.alloc ?_ _ | refine Step.drew ?_ | refine Step.drewN ?_ _ | refine Step.setCell ?_ (by first | exact Nat.le_refl _ | assumption | omega | (simp; done) | (simp; omega)) _ | assumption | refine Step.trans ?_ (by assumption : Step _ _))))
  have hcb := hC.base
  have hB1 := hS1.size
  have hw1 : w.heap.size < w1.heap.size := by simp at hB1; omega
  have hcb' : w.heap.size ≠ cb := by simp at hcb; omega
  refine (Begin_work hC hB1 (by decide) rfl rfl awake_check (by simp)).mono ?_
  rintro e w2 ⟨v2, mu2, rfl, hA2, hC2, hT2⟩
  have hyc := hxc.kept (hT2.block _ hw1 hcb')
  have hy1 : w2.cell? ⟨w.heap.size, 0, none⟩ = some (.int .u64 1) := hyc.cell 0
  have hy2 : w2.cell? ⟨w.heap.size, 1, none⟩ = some (.int .u64 0) := hyc.cell 1
  have hy3 : w2.cell? ⟨w.heap.size, 2, none⟩ = some (.int .u64 1) := hyc.cell 2
  clear hxc hyc
  obtain ⟨sa, sc, hv, _, _, _, hs⟩ := hA2.rep (fun _ h => h)
  simp only [List.cons.injEq, and_true] at hv
  subst hv
  obtain ⟨sb, so, rfl, hsb, _, hce⟩ := hs (by decide)
  obtain ⟨es0, ⟨d8, d10, he0, _⟩, hq0⟩ := hce 0 (by decide)
  obtain ⟨es1, ⟨f8, f10, he1, _⟩, hq1⟩ := hce 1 (by decide)
  have z0 : w2.cell? ⟨sb, so, none⟩ = some (.int .i64 0) := hq0 0 (.int .i64 0) (by rw [he0]; rfl)
  have z1 : w2.cell? ⟨sb, so + 13, none⟩ = some (.int .i64 1) := hq1 0 (.int .i64 1) (by rw [he1]; rfl)
  have z2 : w2.cell? ⟨sb, so + 13 + 1, none⟩ = some (.int .i64 2) := hq1 1 (.int .i64 2) (by rw [he1]; rfl)
  have z3 : w2.cell? ⟨sb, so + 1 + 4, none⟩ = some (.int .u64 1) := hq0 5 (.int .u64 1) (by rw [he0]; rfl)
  have z4 : w2.cell? ⟨sb, so + 1 + 4 + 1, none⟩ = some (.int .u64 0) := hq0 6 (.int .u64 0) (by rw [he0]; rfl)
  have z5 : w2.cell? ⟨sb, so + 1 + 4 + 2, none⟩ = some (.int .u64 1) := hq0 7 (.int .u64 1) (by rw [he0]; rfl)
  have hn2 : (sendsOf (some (asksOf (⟨1, 0, 1⟩ : DTxn) [0, 1] (workAsk [⟨0, [⟨2, [97], [], 0⟩], [0]⟩, ⟨1, [⟨2, [122], [], 0⟩], [1]⟩])))).length = 2 := rfl
  have c6 : w2.cell? ⟨cb, 6, none⟩ = some (.int .i64 0) := hC2.cells.cell 6
  have c7 : w2.cell? ⟨cb, 7, none⟩ = some (.int .i64 0) := hC2.cells.cell 7
  have HE := Lib.hid (And.intro hA2 (And.intro hC2 (And.intro hs (And.intro hq0 hq1))))
  clear hA2 hC2 hs hq0 hq1 he0 he1 hce hC
  have hlen : ∀ v, Value.slice (some ⟨sb, so, none⟩) (sendsOf (some (asksOf (⟨1, 0, 1⟩ : DTxn) [0, 1] (workAsk [⟨0, [⟨2, [97], [], 0⟩], [0]⟩, ⟨1, [⟨2, [122], [], 0⟩], [1]⟩])))).length v = Value.slice (some ⟨sb, so, none⟩) 2 v := fun _ => rfl
  go_wp2
  go_quiet (first | exact Calls.quiet_of_same (cWants_ (by simpa using c7)) | exact Calls.quiet_of_same (cOver_ (by simpa using c6)))
  go_wp2
  go_ret
  have hcb2 : w.heap.size ≤ cb := by simp at hcb; omega
  exact ⟨rfl, (Turn.step (by (repeat (first | exact Step.refl _ | refine Step.alloc ?_ _ | refine Step.drew ?_ | refine Step.drewN ?_ _ | refine Step.setCell ?_ (by first | exact Nat.le_refl _ | assumption | omega | (simp; done) | (simp; omega)) _ | assumption | refine Step.trans ?_ (by assumption : Step _ _))) : Step w w1) hT2 (fun b hb => by subst hb; exact hcb2)).drewN _⟩
end Go.Proofs.YthflkfgiclcdiaaGreat
