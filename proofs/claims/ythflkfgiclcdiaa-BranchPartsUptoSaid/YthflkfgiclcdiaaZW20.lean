/-
  Walk: the document's answers as the program's (groynelaw19.Answer): what of them decides whether an answer is a stray.
-/
import Derived.Test.YthflkfgiclcdiaaZW19
import Derived.Test.YthflkfgiclcdiaaZP7
import Derived.Test.YthflkfgiclcdiaaZCut
import Derived.Laws.Tables
import Derived.Laws.CopyOwn
set_option linter.unusedVariables false
set_option linter.unusedSimpArgs false
namespace Go.Gr
open Go.RowKit
/-- Block b is just these cells. -/
def CellsAt (w : World) (b : Nat) (cs : Array Value) (e : TypeId) : Prop := w.heap[b]? = some (.cells cs e (0, 0))
section
variable {w w' : World} {b : Nat} {cs : Array Value} {e : TypeId}
theorem CellsAt.cell (h : CellsAt w b cs e) (i : Nat) : w.cell? ⟨b, i, none⟩ = cs[i]? := cell_of_row w b i cs _ (0, 0) h
theorem CellsAt.frozen (h : CellsAt w b cs e) (i : Nat) : w.frozen? ⟨b, i, none⟩ = false := frozen_of_row w b i cs _ h
theorem CellsAt.lt (h : CellsAt w b cs e) : b < w.heap.size := (Array.getElem?_eq_some_iff.1 h).1
theorem CellsAt.new {k : Nat} (h : k = w.heap.size) : CellsAt (w.alloc (.cells cs e)) k cs e := heap_alloc_at h
theorem CellsAt.set (h : CellsAt w b cs e) (i : Nat) (u : Value) : CellsAt (w.setCell ⟨b, i, none⟩ u) b (cs.setIfInBounds i u) e := heap_setCell_same w b i cs _ u h
theorem CellsAt.other (h : CellsAt w b cs e) {p : Addr} (hp : b ≠ p.block) (u : Value) : CellsAt (w.setCell p u) b cs e := (heap_setCell_other _ _ _ _ hp).trans h
theorem CellsAt.kept (h : CellsAt w b cs e) (hb : w'.heap[b]? = w.heap[b]?) : CellsAt w' b cs e := hb.trans h
theorem CellsAt.step (h : CellsAt w b cs e) (hb : Step w w') : CellsAt w' b cs e := h.kept (hb.heap h.lt)
end
theorem gen_world {K : Act → World → Prop} {a : Act} {w : World} (F : World → Prop) (hF : F w) (h : ∀ w', F w' → K a w') : K a w := h w hF
section
variable {w w' : World} {b g : Nat} {cs cs' : Array Value} {e : TypeId}
theorem CellsAt.row (h : CellsAt w b cs e) (cs' : Array Value) : CellsAt (w.setRow b cs') b cs' e := setRow_heap w b cs cs' e _ h
theorem CellsAt.rowOther (h : CellsAt w b cs e) (hg : b ≠ g) (cs' : Array Value) : CellsAt (w.setRow g cs') b cs e := (setRow_other w g b cs' hg).trans h
theorem Step.setRow (h : Step w w') (hg : w.heap.size ≤ g) (cs' : Array Value) : Step w (w'.setRow g cs') := below_setRow h hg cs'
end
theorem wp_store_gen {P : Program} {o : Oper} {a : Act} {w : World} {K : Act → World → Prop} {Q : Exit → Act → World → Prop} (F : World → Nat → Prop) (ty : TypeId) (x y : Operand) (ho : o.op = .store ty x y)
    (g : Nat) (cells : Array Value) (hx : a.eval x = .pointer (some ⟨g, 0, none⟩)) (hy : a.eval y = .agg cells)
    (t : TypeId) (old : Array Value) (hg : CellsAt w g old t) (hi : (P.info? ty).map (·.size) = some cells.size)
    (hold : old.size = cells.size) (h1 : cells.all (·.oneCell') = true) (hF : F (w.setRow g cells) g)
    (h : ∀ w', F w' g → K (a.put o.dst undef) w') : o.wp P a w K Q := wp_store_row ty x y ho g cells hx hy t old hg hi hold h1 (h _ hF)
/-- Any n cells. -/
def Ty.cells (n : Nat) : Ty Unit where
  n := n
  rep := fun _ _ cs _ => cs.length = n ∧ ∀ u ∈ cs, u.oneCell' = true
  len := fun h => h.1
  one := fun h => h.2
  keep := fun h _ => h
theorem Ty.flat_cells (n : Nat) : (Ty.cells n).Flat := fun h => h
/-- A row of which just the length is known. -/
def units (n : Nat) : List Unit := List.replicate n ()
theorem units_len (n : Nat) : (units n).length = n := List.length_replicate
theorem units_snoc (n : Nat) : units n ++ [()] = units (n + 1) := by
  unfold units
  rw [List.replicate_succ']
end Go.Gr
namespace Go.Proofs.Ythflkfgiclcdiaa
open Go.RowKit Go.Gr
set_option linter.unusedSimpArgs false
theorem st1 : SliceTy Try.prog 38 59 (Ty.cells 1).n := .mk' (z := .slice none 0 0) (by_ := 24) Try.underlying38 (by kernel_rfl) rfl (by decide) (by omega)
theorem st2 : SliceTy Try.prog 59 95 (Ty.cells 2).n := .mk' (z := .agg #[.slice none 0 0, .slice none 0 0]) (by_ := 48) Try.underlying59 (by kernel_rfl) rfl (by decide) (by omega)
theorem st3 : SliceTy Try.prog 39 74 (Ty.cells 3).n := .mk' (z := .agg #[.slice none 0 0, .slice none 0 0, .bool false]) (by_ := 56) Try.underlying39 (by kernel_rfl) rfl (by decide) (by omega)
def ansCells (x : DAnswer) (oe oa : Int) (vr vw vy : Value) : Array Value :=
  #[.int .i64 x.kind, .int .u64 (x.inc : Int), .int .u64 (x.boot : Int), .int .u64 (x.txn.boot : Int), .int .u64 (x.txn.session : Int), .int .u64 (x.txn.seq : Int), .int .u64 (x.id : Int), .int .i64 x.err, .int .i64 oe, .int .i64 oa, vr, vw, .bool x.commit, vy, .int .u64 (x.at_ : Int)]
theorem ansCells_one {x : DAnswer} {oe oa : Int} {b1 b2 b3 : Option Addr} {n1 n2 n3 k1 k2 k3 : Nat} : (ansCells x oe oa (.slice b1 n1 k1) (.slice b2 n2 k2) (.slice b3 n3 k3)).all (·.oneCell') = true := by
  simp [ansCells, Value.oneCell']
set_option maxRecDepth 100000 in
set_option maxHeartbeats 8000000 in
theorem conv_ {w : World} {M : Nat → Prop} {x : DAnswer} {a10 a11 a13 : Option Addr} {c10 c11 c13 : Nat} (hr : (Ty.slice (Ty.slice tPair)).rep w M [.slice a10 x.out.rows.length c10] x.out.rows) (hw : (Ty.slice tWrite).rep w M [.slice a11 x.out.writes.length c11] x.out.writes) (hy : Ty.bytes.rep w M [.slice a13 x.reply.length c13] x.reply) :
    Calls Try.prog 16 #[.agg (ansCells x x.out.err x.out.at_ (.slice a10 x.out.rows.length c10) (.slice a11 x.out.writes.length c11) (.slice a13 x.reply.length c13))] w fun e w' =>
      ∃ b1 n1 k1 b2 n2 k2 b3 n3 k3, e = .returned (.agg (ansCells x x.out.err x.out.at_ (.slice b1 n1 k1) (.slice b2 n2 k2) (.slice b3 n3 k3))) ∧ Step w w' := by
  have HR := Lib.hid hr
  have HW := Lib.hid hw
  have HY := Lib.hid hy
  clear hr hw hy
  unfold ansCells
  go_enter Try.func16, Try.ntmps16
  go_upto_region 1 with fail
  go_cut [3] (fun s3 wx => ∃ (b : Nat) (a c : _) , s3 = .pointer (some ⟨b, 0, none⟩) ∧ CellsAt wx b (ansCells x 0 0 (.slice none 0 0) (.slice none 0 0) (.slice a x.reply.length c)) 44 ∧ w.heap.size + 1 < b ∧
    CellsAt wx w.heap.size (ansCells x x.out.err x.out.at_ (.slice a10 x.out.rows.length c10) (.slice a11 x.out.writes.length c11) (.slice a13 x.reply.length c13)) 49 ∧ (∃ cs, cs.size = 15 ∧ CellsAt wx (w.heap.size + 1) cs 44) ∧ Step w wx)
  case first =>
    refine wp_region_held_drew (S := (fun w' => w'.cell? ⟨w.heap.size, 0, none⟩ = some (.int .i64 x.kind) ∧ w'.cell? ⟨w.heap.size, 1, none⟩ = some (.int .u64 (x.inc : Int)) ∧ w'.cell? ⟨w.heap.size, 2, none⟩ = some (.int .u64 (x.boot : Int)) ∧ w'.cell? ⟨w.heap.size, 3, none⟩ = some (.int .u64 (x.txn.boot : Int)) ∧ w'.cell? ⟨w.heap.size, 4, none⟩ = some (.int .u64 (x.txn.session : Int)) ∧ w'.cell? ⟨w.heap.size, 5, none⟩ = some (.int .u64 (x.txn.seq : Int)) ∧ w'.cell? ⟨w.heap.size, 6, none⟩ = some (.int .u64 (x.id : Int)) ∧ w'.cell? ⟨w.heap.size, 7, none⟩ = some (.int .i64 x.err) ∧ w'.cell? ⟨w.heap.size, 12, none⟩ = some (.bool x.commit) ∧ w'.cell? ⟨w.heap.size, 13, none⟩ = some (.slice a13 x.reply.length c13) ∧ w'.cell? ⟨w.heap.size, 14, none⟩ = some (.int .u64 (x.at_ : Int)))) (by kernel_rfl) ?_ (fun hHeld => ?_)
    · (first | go_keep | exact ⟨HBX.out.cell 0, HBX.out.cell 1, HBX.out.cell 2, HBX.out.cell 3, HBX.out.cell 4, HBX.out.cell 5, HBX.out.cell 6, HBX.out.cell 7, HBX.out.cell 12, HBX.out.cell 13, HBX.out.cell 14⟩)
    refine wpAnyH_take (i := 0) (v := ?_) rfl (by kernel_rfl) (by kernel_rfl) (by kernel_rfl) (fun _ _ _ h => h) (Or.inl ⟨by rfl, ?_⟩) (by assumption) ?_
    rotate_left 1
    · (intro w hSw; (try dsimp only at hSw); go_simp; (try with_reducible rfl))
    try simp only [Act.put, List.getElem_toArray, List.getElem_cons_succ, List.getElem_cons_zero, List.setIfInBounds_toArray, List.set_cons_zero, List.set_cons_succ]
    refine wpAnyH_take (i := 1) (v := ?_) rfl (by kernel_rfl) (by kernel_rfl) (by kernel_rfl) (fun _ _ _ h => h) (Or.inl ⟨by rfl, ?_⟩) (by assumption) ?_
    rotate_left 1
    · (intro w hSw; (try dsimp only at hSw); go_simp; (try with_reducible rfl))
    try simp only [Act.put, List.getElem_toArray, List.getElem_cons_succ, List.getElem_cons_zero, List.setIfInBounds_toArray, List.set_cons_zero, List.set_cons_succ]
    refine wpAnyH_take (i := 2) (v := ?_) rfl (by kernel_rfl) (by kernel_rfl) (by kernel_rfl) (fun _ _ _ h => h) (Or.inl ⟨by rfl, ?_⟩) (by assumption) ?_
    rotate_left 1
    · (intro w hSw; (try dsimp only at hSw); go_simp; (try with_reducible rfl))
    try simp only [Act.put, List.getElem_toArray, List.getElem_cons_succ, List.getElem_cons_zero, List.setIfInBounds_toArray, List.set_cons_zero, List.set_cons_succ]
    refine wpAnyH_take (i := 3) (v := ?_) rfl (by kernel_rfl) (by kernel_rfl) (by kernel_rfl) (fun _ _ _ h => h) (Or.inl ⟨by rfl, ?_⟩) (by assumption) ?_
    rotate_left 1
    · (intro w hSw; (try dsimp only at hSw); go_simp; (try with_reducible rfl))
    try simp only [Act.put, List.getElem_toArray, List.getElem_cons_succ, List.getElem_cons_zero, List.setIfInBounds_toArray, List.set_cons_zero, List.set_cons_succ]
    refine wpAnyH_take (i := 4) (v := ?_) rfl (by kernel_rfl) (by kernel_rfl) (by kernel_rfl) (fun _ _ _ h => h) (Or.inl ⟨by rfl, ?_⟩) (by assumption) ?_
    rotate_left 1
    · (intro w hSw; (try dsimp only at hSw); go_simp; (try with_reducible rfl))
    try simp only [Act.put, List.getElem_toArray, List.getElem_cons_succ, List.getElem_cons_zero, List.setIfInBounds_toArray, List.set_cons_zero, List.set_cons_succ]
    refine wpAnyH_take (i := 5) (v := ?_) rfl (by kernel_rfl) (by kernel_rfl) (by kernel_rfl) (fun _ _ _ h => h) (Or.inl ⟨by rfl, ?_⟩) (by assumption) ?_
    rotate_left 1
    · (intro w hSw; (try dsimp only at hSw); go_simp; (try with_reducible rfl))
    try simp only [Act.put, List.getElem_toArray, List.getElem_cons_succ, List.getElem_cons_zero, List.setIfInBounds_toArray, List.set_cons_zero, List.set_cons_succ]
    refine wpAnyH_take (i := 6) (v := ?_) rfl (by kernel_rfl) (by kernel_rfl) (by kernel_rfl) (fun _ _ _ h => h) (Or.inl ⟨by rfl, ?_⟩) (by assumption) ?_
    rotate_left 1
    · (intro w hSw; (try dsimp only at hSw); go_simp; (try with_reducible rfl))
    try simp only [Act.put, List.getElem_toArray, List.getElem_cons_succ, List.getElem_cons_zero, List.setIfInBounds_toArray, List.set_cons_zero, List.set_cons_succ]
    refine wpAnyH_take (i := 7) (v := ?_) rfl (by kernel_rfl) (by kernel_rfl) (by kernel_rfl) (fun _ _ _ h => h) (Or.inl ⟨by rfl, ?_⟩) (by assumption) ?_
    rotate_left 1
    · (intro w hSw; (try dsimp only at hSw); go_simp; (try with_reducible rfl))
    try simp only [Act.put, List.getElem_toArray, List.getElem_cons_succ, List.getElem_cons_zero, List.setIfInBounds_toArray, List.set_cons_zero, List.set_cons_succ]
    refine wpAnyH_take (i := 8) (v := ?_) rfl (by kernel_rfl) (by kernel_rfl) (by kernel_rfl) (fun _ _ _ h => h) (Or.inl ⟨by rfl, ?_⟩) (by assumption) ?_
    rotate_left 1
    · (intro w hSw; (try dsimp only at hSw); go_simp; (try with_reducible rfl))
    try simp only [Act.put, List.getElem_toArray, List.getElem_cons_succ, List.getElem_cons_zero, List.setIfInBounds_toArray, List.set_cons_zero, List.set_cons_succ]
    refine wpAnyH_take (i := 9) (v := ?_) rfl (by kernel_rfl) (by kernel_rfl) (by kernel_rfl) (fun _ _ _ h => h) (Or.inl ⟨by rfl, ?_⟩) (by assumption) ?_
    rotate_left 1
    · (intro w hSw; (try dsimp only at hSw); go_simp; (try with_reducible rfl))
    try simp only [Act.put, List.getElem_toArray, List.getElem_cons_succ, List.getElem_cons_zero, List.setIfInBounds_toArray, List.set_cons_zero, List.set_cons_succ]
    refine wpAnyH_take (i := 10) (v := ?_) rfl (by kernel_rfl) (by kernel_rfl) (by kernel_rfl) (fun _ _ _ h => h) (Or.inl ⟨by rfl, ?_⟩) (by assumption) ?_
    rotate_left 1
    · (intro w hSw; (try dsimp only at hSw); go_simp; (try with_reducible rfl))
    try simp only [Act.put, List.getElem_toArray, List.getElem_cons_succ, List.getElem_cons_zero, List.setIfInBounds_toArray, List.set_cons_zero, List.set_cons_succ]
    refine wpAnyH_take (i := 11) (v := ?_) rfl (by kernel_rfl) (by kernel_rfl) (by kernel_rfl) (fun _ _ _ h => h) (Or.inl ⟨by rfl, ?_⟩) (by assumption) ?_
    rotate_left 1
    · (intro w hSw; (try dsimp only at hSw); go_simp; (try with_reducible rfl))
    try simp only [Act.put, List.getElem_toArray, List.getElem_cons_succ, List.getElem_cons_zero, List.setIfInBounds_toArray, List.set_cons_zero, List.set_cons_succ]
    refine wpAnyH_take (i := 12) (v := ?_) rfl (by kernel_rfl) (by kernel_rfl) (by kernel_rfl) (fun _ _ _ h => h) (Or.inl ⟨by rfl, ?_⟩) (by assumption) ?_
    rotate_left 1
    · (intro w hSw; (try dsimp only at hSw); go_simp; (try with_reducible rfl))
    try simp only [Act.put, List.getElem_toArray, List.getElem_cons_succ, List.getElem_cons_zero, List.setIfInBounds_toArray, List.set_cons_zero, List.set_cons_succ]
    refine wpAnyH_take (i := 13) (v := ?_) rfl (by kernel_rfl) (by kernel_rfl) (by kernel_rfl) (fun _ _ _ h => h) (Or.inl ⟨by rfl, ?_⟩) (by assumption) ?_
    rotate_left 1
    · (intro w hSw; (try dsimp only at hSw); go_simp; (try with_reducible rfl))
    try simp only [Act.put, List.getElem_toArray, List.getElem_cons_succ, List.getElem_cons_zero, List.setIfInBounds_toArray, List.set_cons_zero, List.set_cons_succ]
    refine wpAnyH_take (i := 14) (v := ?_) rfl (by kernel_rfl) (by kernel_rfl) (by kernel_rfl) (fun _ _ _ h => h) (Or.inl ⟨by rfl, ?_⟩) (by assumption) ?_
    rotate_left 1
    · (intro w hSw; (try dsimp only at hSw); go_simp; (try with_reducible rfl))
    try simp only [Act.put, List.getElem_toArray, List.getElem_cons_succ, List.getElem_cons_zero, List.setIfInBounds_toArray, List.set_cons_zero, List.set_cons_succ]
    refine wpAnyH_take (i := 15) (v := ?_) rfl (by kernel_rfl) (by kernel_rfl) (by kernel_rfl) (fun _ _ _ h => h) (Or.inl ⟨by rfl, ?_⟩) (by assumption) ?_
    rotate_left 1
    · (intro w hSw; (try dsimp only at hSw); go_simp; (try with_reducible rfl))
    try simp only [Act.put, List.getElem_toArray, List.getElem_cons_succ, List.getElem_cons_zero, List.setIfInBounds_toArray, List.set_cons_zero, List.set_cons_succ]
    refine wpAnyH_take (i := 17) (v := ?_) rfl (by kernel_rfl) (by kernel_rfl) (by kernel_rfl) (fun _ _ _ h => h) (Or.inl ⟨by rfl, ?_⟩) (by assumption) ?_
    rotate_left 1
    · (intro w hSw; (try dsimp only at hSw); go_simp; (try with_reducible rfl))
    try simp only [Act.put, List.getElem_toArray, List.getElem_cons_succ, List.getElem_cons_zero, List.setIfInBounds_toArray, List.set_cons_zero, List.set_cons_succ]
    refine wpAnyH_take (i := 18) (v := ?_) rfl (by kernel_rfl) (by kernel_rfl) (by kernel_rfl) (fun _ _ _ h => h) (Or.inl ⟨by rfl, ?_⟩) (by assumption) ?_
    rotate_left 1
    · (intro w hSw; (try dsimp only at hSw); go_simp; (try with_reducible rfl))
    try simp only [Act.put, List.getElem_toArray, List.getElem_cons_succ, List.getElem_cons_zero, List.setIfInBounds_toArray, List.set_cons_zero, List.set_cons_succ]
    refine wpAnyH_ready (rs := [16, 20]) (by kernel_rfl) (by simp) ?_
    refine AllReadyH.cons rfl (fun K hK => ?_) (AllReadyH.cons rfl (fun K hK => ?_) AllReadyH.nil)
    · try simp only [List.getElem_toArray, List.getElem_cons_succ, List.getElem_cons_zero]
      go_simp
      (go_at_call 44; refine (Copy_ _ _ _ _ (by refine Ty.step _ (Hid.out (by assumption)) ?_; (repeat (first | exact Step.refl _ | refine Step.alloc ?_ _ | refine Step.drew ?_ | refine Step.drewN ?_ _ | refine Step.setCell ?_ (by first | exact Nat.le_refl _ | assumption | omega | (simp; done) | (simp; omega)) _ | assumption | refine Step.trans ?_ (by assumption : Step _ _))))).mono ?_; rintro e2 w2 ⟨v2, rfl, hA2, hS2⟩; obtain ⟨b2, m2, rfl⟩ := hA2.val; have s2_0 : ∀ j, w2.cell? ⟨w.heap.size, j, none⟩ = _ := fun j => hS2.cell (by first | assumption | omega | (simp; done) | (simp; omega)) j; have z2_0 : w.heap.size < w2.heap.size := Nat.lt_of_lt_of_le (by first | assumption | omega | (simp; done) | (simp; omega)) hS2.size; have HA2 := Lib.hid hA2; clear hA2); have z2 := hS2.size; (try simp at z2)
      refine hK.out _ _ ?_ (fun hHeld => ?_)
      · (first | go_keep | exact ⟨HBX.out.cell 0, HBX.out.cell 1, HBX.out.cell 2, HBX.out.cell 3, HBX.out.cell 4, HBX.out.cell 5, HBX.out.cell 6, HBX.out.cell 7, HBX.out.cell 12, HBX.out.cell 13, HBX.out.cell 14⟩)
      clear hK K
      try simp only [Act.put, List.getElem_toArray, List.getElem_cons_succ, List.getElem_cons_zero, List.setIfInBounds_toArray, List.set_cons_zero, List.set_cons_succ]
      refine wpAnyH_take (i := 19) (v := ?_) rfl (by kernel_rfl) (by kernel_rfl) (by kernel_rfl) (fun _ _ _ h => h) (Or.inl ⟨by rfl, ?_⟩) (by assumption) ?_
      rotate_left 1
      · (intro w hSw; (try dsimp only at hSw); go_simp; (try with_reducible rfl))
      try simp only [Act.put, List.getElem_toArray, List.getElem_cons_succ, List.getElem_cons_zero, List.setIfInBounds_toArray, List.set_cons_zero, List.set_cons_succ]
      refine wpAnyH_ready (rs := [20]) (by kernel_rfl) (by simp) ?_
      refine AllReadyH.cons rfl (fun K hK => ?_) AllReadyH.nil
      try simp only [List.getElem_toArray, List.getElem_cons_succ, List.getElem_cons_zero]
      go_simp
      refine hK.out _ _ ?_ (fun hHeld => ?_)
      · (first | go_keep | exact ⟨HBX.out.cell 0, HBX.out.cell 1, HBX.out.cell 2, HBX.out.cell 3, HBX.out.cell 4, HBX.out.cell 5, HBX.out.cell 6, HBX.out.cell 7, HBX.out.cell 12, HBX.out.cell 13, HBX.out.cell 14⟩)
      clear hK K
      try simp only [Act.put, List.getElem_toArray, List.getElem_cons_succ, List.getElem_cons_zero, List.setIfInBounds_toArray, List.set_cons_zero, List.set_cons_succ]
      refine wpAnyH_ready (rs := [21]) (by kernel_rfl) (by simp) ?_
      refine AllReadyH.cons rfl (fun K hK => ?_) AllReadyH.nil
      try simp only [List.getElem_toArray, List.getElem_cons_succ, List.getElem_cons_zero]
      refine ite_then rfl ?_; refine wp_store_gen (F := fun W' kk => CellsAt W' kk (ansCells x 0 0 (.slice none 0 0) (.slice none 0 0) (.slice b2 x.reply.length m2)) 44 ∧ w.heap.size + 1 < kk ∧ CellsAt W' w.heap.size (ansCells x x.out.err x.out.at_ (.slice a10 x.out.rows.length c10) (.slice a11 x.out.writes.length c11) (.slice a13 x.reply.length c13)) 49 ∧ (∃ cs, cs.size = 15 ∧ CellsAt W' (w.heap.size + 1) cs 44) ∧ Step w W') 44 (.tmp 3) (.tmp 30) rfl _ (ansCells x 0 0 (.slice none 0 0) (.slice none 0 0) (.slice b2 x.reply.length m2)) rfl rfl 44 (ansCells ⟨0, 0, 0, ⟨0, 0, 0⟩, 0, 0, ⟨0, 0, [], []⟩, false, [], 0⟩ 0 0 (.slice none 0 0) (.slice none 0 0) (.slice none 0 0)) ?_ (by kernel_rfl) rfl ansCells_one ?_ ?_; (first | exact CellsAt.new rfl | exact (CellsAt.new (by simp)).step hS2 | exact ((CellsAt.new (by simp)).step (Step.drew (Step.refl _))).step hS2); exact ⟨CellsAt.row (by first | exact CellsAt.new rfl | exact (CellsAt.new (by simp)).step hS2 | exact ((CellsAt.new (by simp)).step (Step.drew (Step.refl _))).step hS2) _, (by first | assumption | omega | (simp; done) | (simp; omega)), ((CellsAt.new (w := w) rfl).step (by (repeat (first | exact Step.refl _ | refine Step.alloc ?_ _ | refine Step.drew ?_ | refine Step.drewN ?_ _ | refine Step.setCell ?_ (by first | exact Nat.le_refl _ | assumption | omega | (simp; done) | (simp; omega)) _ | assumption | refine Step.trans ?_ (by assumption : Step _ _))))).rowOther (by have := z2; omega) _, ⟨_, rfl, ((CellsAt.new (w := w.alloc _) (by simp)).step (by (repeat (first | exact Step.refl _ | refine Step.alloc ?_ _ | refine Step.drew ?_ | refine Step.drewN ?_ _ | refine Step.setCell ?_ (by first | exact Nat.le_refl _ | assumption | omega | (simp; done) | (simp; omega)) _ | assumption | refine Step.trans ?_ (by assumption : Step _ _))))).rowOther (by have := z2; omega) _⟩, Step.setRow (by (repeat (first | exact Step.refl _ | refine Step.alloc ?_ _ | refine Step.drew ?_ | refine Step.drewN ?_ _ | refine Step.setCell ?_ (by first | exact Nat.le_refl _ | assumption | omega | (simp; done) | (simp; omega)) _ | assumption | refine Step.trans ?_ (by assumption : Step _ _)))) (by first | assumption | omega | (simp; done) | (simp; omega)) _⟩; intro w3 h3; obtain ⟨h31, h32, h33, h34, h35⟩ := h3; have HC := Lib.hid h31; have HLT := Lib.hid h32; have HBX := Lib.hid h33; have HZX := Lib.hid h34; have HS3 := Lib.hid h35; clear h31 h32 h33 h34 h35
      refine hK.out _ _ ?_ (fun hHeld => ?_)
      · (first | go_keep | exact ⟨HBX.out.cell 0, HBX.out.cell 1, HBX.out.cell 2, HBX.out.cell 3, HBX.out.cell 4, HBX.out.cell 5, HBX.out.cell 6, HBX.out.cell 7, HBX.out.cell 12, HBX.out.cell 13, HBX.out.cell 14⟩)
      clear hK K
      try simp only [Act.put, List.getElem_toArray, List.getElem_cons_succ, List.getElem_cons_zero, List.setIfInBounds_toArray, List.set_cons_zero, List.set_cons_succ]
      refine wpAnyH_done (by kernel_rfl) ?_ _
      go_wp2_with fail
      go_meet
      case rel => exact ⟨_, _, _, rfl, HC.out, HLT.out, HBX.out, HZX.out, HS3.out⟩
    · try simp only [List.getElem_toArray, List.getElem_cons_succ, List.getElem_cons_zero]
      go_simp
      refine hK.out _ _ ?_ (fun hHeld => ?_)
      · (first | go_keep | exact ⟨HBX.out.cell 0, HBX.out.cell 1, HBX.out.cell 2, HBX.out.cell 3, HBX.out.cell 4, HBX.out.cell 5, HBX.out.cell 6, HBX.out.cell 7, HBX.out.cell 12, HBX.out.cell 13, HBX.out.cell 14⟩)
      clear hK K
      try simp only [Act.put, List.getElem_toArray, List.getElem_cons_succ, List.getElem_cons_zero, List.setIfInBounds_toArray, List.set_cons_zero, List.set_cons_succ]
      refine wpAnyH_ready (rs := [16]) (by kernel_rfl) (by simp) ?_
      refine AllReadyH.cons rfl (fun K hK => ?_) AllReadyH.nil
      try simp only [List.getElem_toArray, List.getElem_cons_succ, List.getElem_cons_zero]
      go_simp
      (go_at_call 44; refine (Copy_ _ _ _ _ (by refine Ty.step _ (Hid.out (by assumption)) ?_; (repeat (first | exact Step.refl _ | refine Step.alloc ?_ _ | refine Step.drew ?_ | refine Step.drewN ?_ _ | refine Step.setCell ?_ (by first | exact Nat.le_refl _ | assumption | omega | (simp; done) | (simp; omega)) _ | assumption | refine Step.trans ?_ (by assumption : Step _ _))))).mono ?_; rintro e2 w2 ⟨v2, rfl, hA2, hS2⟩; obtain ⟨b2, m2, rfl⟩ := hA2.val; have s2_0 : ∀ j, w2.cell? ⟨w.heap.size, j, none⟩ = _ := fun j => hS2.cell (by first | assumption | omega | (simp; done) | (simp; omega)) j; have z2_0 : w.heap.size < w2.heap.size := Nat.lt_of_lt_of_le (by first | assumption | omega | (simp; done) | (simp; omega)) hS2.size; have HA2 := Lib.hid hA2; clear hA2); have z2 := hS2.size; (try simp at z2)
      refine hK.out _ _ ?_ (fun hHeld => ?_)
      · (first | go_keep | exact ⟨HBX.out.cell 0, HBX.out.cell 1, HBX.out.cell 2, HBX.out.cell 3, HBX.out.cell 4, HBX.out.cell 5, HBX.out.cell 6, HBX.out.cell 7, HBX.out.cell 12, HBX.out.cell 13, HBX.out.cell 14⟩)
      clear hK K
      try simp only [Act.put, List.getElem_toArray, List.getElem_cons_succ, List.getElem_cons_zero, List.setIfInBounds_toArray, List.set_cons_zero, List.set_cons_succ]
      refine wpAnyH_take (i := 19) (v := ?_) rfl (by kernel_rfl) (by kernel_rfl) (by kernel_rfl) (fun _ _ _ h => h) (Or.inl ⟨by rfl, ?_⟩) (by assumption) ?_
      rotate_left 1
      · (intro w hSw; (try dsimp only at hSw); go_simp; (try with_reducible rfl))
      try simp only [Act.put, List.getElem_toArray, List.getElem_cons_succ, List.getElem_cons_zero, List.setIfInBounds_toArray, List.set_cons_zero, List.set_cons_succ]
      refine wpAnyH_ready (rs := [21]) (by kernel_rfl) (by simp) ?_
      refine AllReadyH.cons rfl (fun K hK => ?_) AllReadyH.nil
      try simp only [List.getElem_toArray, List.getElem_cons_succ, List.getElem_cons_zero]
      refine ite_then rfl ?_; refine wp_store_gen (F := fun W' kk => CellsAt W' kk (ansCells x 0 0 (.slice none 0 0) (.slice none 0 0) (.slice b2 x.reply.length m2)) 44 ∧ w.heap.size + 1 < kk ∧ CellsAt W' w.heap.size (ansCells x x.out.err x.out.at_ (.slice a10 x.out.rows.length c10) (.slice a11 x.out.writes.length c11) (.slice a13 x.reply.length c13)) 49 ∧ (∃ cs, cs.size = 15 ∧ CellsAt W' (w.heap.size + 1) cs 44) ∧ Step w W') 44 (.tmp 3) (.tmp 30) rfl _ (ansCells x 0 0 (.slice none 0 0) (.slice none 0 0) (.slice b2 x.reply.length m2)) rfl rfl 44 (ansCells ⟨0, 0, 0, ⟨0, 0, 0⟩, 0, 0, ⟨0, 0, [], []⟩, false, [], 0⟩ 0 0 (.slice none 0 0) (.slice none 0 0) (.slice none 0 0)) ?_ (by kernel_rfl) rfl ansCells_one ?_ ?_; (first | exact CellsAt.new rfl | exact (CellsAt.new (by simp)).step hS2 | exact ((CellsAt.new (by simp)).step (Step.drew (Step.refl _))).step hS2); exact ⟨CellsAt.row (by first | exact CellsAt.new rfl | exact (CellsAt.new (by simp)).step hS2 | exact ((CellsAt.new (by simp)).step (Step.drew (Step.refl _))).step hS2) _, (by first | assumption | omega | (simp; done) | (simp; omega)), ((CellsAt.new (w := w) rfl).step (by (repeat (first | exact Step.refl _ | refine Step.alloc ?_ _ | refine Step.drew ?_ | refine Step.drewN ?_ _ | refine Step.setCell ?_ (by first | exact Nat.le_refl _ | assumption | omega | (simp; done) | (simp; omega)) _ | assumption | refine Step.trans ?_ (by assumption : Step _ _))))).rowOther (by have := z2; omega) _, ⟨_, rfl, ((CellsAt.new (w := w.alloc _) (by simp)).step (by (repeat (first | exact Step.refl _ | refine Step.alloc ?_ _ | refine Step.drew ?_ | refine Step.drewN ?_ _ | refine Step.setCell ?_ (by first | exact Nat.le_refl _ | assumption | omega | (simp; done) | (simp; omega)) _ | assumption | refine Step.trans ?_ (by assumption : Step _ _))))).rowOther (by have := z2; omega) _⟩, Step.setRow (by (repeat (first | exact Step.refl _ | refine Step.alloc ?_ _ | refine Step.drew ?_ | refine Step.drewN ?_ _ | refine Step.setCell ?_ (by first | exact Nat.le_refl _ | assumption | omega | (simp; done) | (simp; omega)) _ | assumption | refine Step.trans ?_ (by assumption : Step _ _)))) (by first | assumption | omega | (simp; done) | (simp; omega)) _⟩; intro w3 h3; obtain ⟨h31, h32, h33, h34, h35⟩ := h3; have HC := Lib.hid h31; have HLT := Lib.hid h32; have HBX := Lib.hid h33; have HZX := Lib.hid h34; have HS3 := Lib.hid h35; clear h31 h32 h33 h34 h35
      refine hK.out _ _ ?_ (fun hHeld => ?_)
      · (first | go_keep | exact ⟨HBX.out.cell 0, HBX.out.cell 1, HBX.out.cell 2, HBX.out.cell 3, HBX.out.cell 4, HBX.out.cell 5, HBX.out.cell 6, HBX.out.cell 7, HBX.out.cell 12, HBX.out.cell 13, HBX.out.cell 14⟩)
      clear hK K
      try simp only [Act.put, List.getElem_toArray, List.getElem_cons_succ, List.getElem_cons_zero, List.setIfInBounds_toArray, List.set_cons_zero, List.set_cons_succ]
      refine wpAnyH_done (by kernel_rfl) ?_ _
      go_wp2_with fail
      go_meet
      case rel => exact ⟨_, _, _, rfl, HC.out, HLT.out, HBX.out, HZX.out, HS3.out⟩
  case rest =>
    obtain ⟨b, ya, yc, rfl, hC, hblt, hBX, ⟨zs, hzs, hZX⟩, hS⟩ := hcut
    have bx8 : wc.cell? ⟨w.heap.size, 8, none⟩ = some (.int .i64 x.out.err) := hBX.cell 8
    have bx9 : wc.cell? ⟨w.heap.size, 9, none⟩ = some (.int .i64 x.out.at_) := hBX.cell 9
    have oc8 : wc.cell? ⟨b, 8, none⟩ = some (.int .i64 0) := hC.cell 8
    have f8 : wc.frozen? ⟨b, 8, none⟩ = false := hC.frozen 8
    have oc9 : wc.cell? ⟨b, 9, none⟩ = some (.int .i64 0) := hC.cell 9
    have f9 : wc.frozen? ⟨b, 9, none⟩ = false := hC.frozen 9
    have oc10 : wc.cell? ⟨b, 10, none⟩ = some (.slice none 0 0) := hC.cell 10
    have f10 : wc.frozen? ⟨b, 10, none⟩ = false := hC.frozen 10
    have oc11 : wc.cell? ⟨b, 11, none⟩ = some (.slice none 0 0) := hC.cell 11
    have f11 : wc.frozen? ⟨b, 11, none⟩ = false := hC.frozen 11
    have HC := Lib.hid hC
    have HBX := Lib.hid hBX
    have HZX := Lib.hid hZX
    have HZS := Lib.hid hzs
    clear hC hBX hZX hzs
    go_upto_region 3 with fail
    refine wp_code (fun wl => CellsAt wl b (ansCells x x.out.err x.out.at_ (.slice none 0 0) (.slice none 0 0) (.slice ya x.reply.length yc)) 44 ∧ CellsAt wl w.heap.size (ansCells x x.out.err x.out.at_ (.slice a10 x.out.rows.length c10) (.slice a11 x.out.writes.length c11) (.slice a13 x.reply.length c13)) 49 ∧ CellsAt wl (w.heap.size + 1) zs 44 ∧ Step w wl) ?_ ?_
    · refine ⟨(((HC.out.set 8 _).set 9 _).set 10 _).set 11 _, ?_, ?_, by (repeat (first | exact Step.refl _ | refine Step.alloc ?_ _ | refine Step.drew ?_ | refine Step.drewN ?_ _ | refine Step.setCell ?_ (by first | exact Nat.le_refl _ | assumption | omega | (simp; done) | (simp; omega)) _ | assumption | refine Step.trans ?_ (by assumption : Step _ _)))⟩
      · iterate 4 refine CellsAt.other ?_ (by show w.heap.size ≠ b; omega) _
        exact HBX.out
      · iterate 4 refine CellsAt.other ?_ (by show w.heap.size + 1 ≠ b; omega) _
        exact HZX.out
    rintro wl ⟨hC, hBX, hZX, hSl⟩
    have hbl := hC.lt
    have bx10 : wl.cell? ⟨w.heap.size, 10, none⟩ = some (.slice a10 x.out.rows.length c10) := hBX.cell 10
    have HC := Lib.hid hC
    have HBX := Lib.hid hBX
    have HZX := Lib.hid hZX
    have hszl := hSl.size
    have hrl : x.out.rows.length ≤ 68719476736 := Ty.slice_le HR.out
    have hwl : x.out.writes.length ≤ 68719476736 := Ty.slice_le HW.out
    clear hC hBX hZX bx8 bx9 oc8 oc9 oc10 oc11 f8 f9 f10 f11 hS
    go_wp2
    go_loopw [5, 6, 43] (fun _ _ i w' => ∃ (k : Nat) (r : Value), i = .int .i64 k ∧ k ≤ x.out.rows.length ∧ CellsAt w' b (ansCells x x.out.err x.out.at_ r (.slice none 0 0) (.slice ya x.reply.length yc)) 44 ∧ Own (Ty.cells 1) 59 w' (fun _ => False) wl.heap.size r (units k) ∧ Turn (· = b) wl w') (fun _ _ i _ => x.out.rows.length - (Go.RowKit.intOf i).toNat)
    case atStart => exact ⟨0, _, rfl, by omega, HC.out, Own.nil, Turn.refl _ _⟩
    case round =>
      obtain ⟨k, r, rfl, hk, hC, hA, hT⟩ := hrel
      obtain ⟨ra, rn, rc, rfl, HRN⟩ := hA.valN
      have HCr := Lib.hid hC
      have HA := Lib.hid hA
      have HT := Lib.hid hT
      have hszr := hT.size
      have hSr : Step w wr := Turn.step hSl hT (fun b' hb' => by omega)
      have hbr := hC.lt
      clear hC hA hT
      obtain ⟨wo, hwo⟩ : ∃ z, z = wr := ⟨_, rfl⟩
      subst hwo
      by_cases hlt : k < x.out.rows.length
      · obtain ⟨rb, ro, ru, hru0, rhb, _, hru, rcu⟩ := Ty.slice_at1 rfl HR.out hlt
        subst hru0
        obtain ⟨qa, qn, rfl, _, _, hql⟩ := Ty.slice_val hru
        rw [lim_eq] at hql
        have RU := Lib.hid hru
        have rq := (hSr.cell rhb _).trans rcu
        clear hru rcu
        generalize x.out.rows[k] = row at *
        go_wp2
        go_loopw [6, 49] (fun l i w' => ∃ m : Nat, i = .int .i64 m ∧ m ≤ row.length ∧ Own (Ty.cells 2) 95 w' (fun _ => False) wo.heap.size l (units m) ∧ Step wo w') (fun _ i _ => row.length - (Go.RowKit.intOf i).toNat)
        case atStart => exact ⟨0, rfl, by omega, Own.nil, Step.refl _⟩
        case round =>
          obtain ⟨m, rfl, hm, hAl, hBl⟩ := hrel
          have HAl := Lib.hid hAl
          clear hAl
          have hszl' := hBl.size
          have hSw := hSr.trans hBl
          by_cases hlm : m < row.length
          · obtain ⟨ob, oo, oes, rfl, ohb, _, ou, ocu⟩ := Ty.slice_at RU.out hlm
            obtain ⟨oc0, oc1, rfl, oh0, oh1⟩ := ou
            have oq0 := (Step.cell (w' := wr) (by (repeat (first | exact Step.refl _ | refine Step.alloc ?_ _ | refine Step.drew ?_ | refine Step.drewN ?_ _ | refine Step.setCell ?_ (by first | exact Nat.le_refl _ | assumption | omega | (simp; done) | (simp; omega)) _ | assumption | refine Step.trans ?_ (by assumption : Step _ _)))) ohb _).trans (ocu 0 _ rfl)
            have oq1 := (Step.cell (w' := wr) (by (repeat (first | exact Step.refl _ | refine Step.alloc ?_ _ | refine Step.drew ?_ | refine Step.drewN ?_ _ | refine Step.setCell ?_ (by first | exact Nat.le_refl _ | assumption | omega | (simp; done) | (simp; omega)) _ | assumption | refine Step.trans ?_ (by assumption : Step _ _)))) ohb _).trans (ocu 1 _ rfl)
            simp only [show tPair.n = 2 from rfl, Nat.add_zero] at oq0 oq1
            obtain ⟨oa0, on0, rfl, _⟩ := Ty.slice_val oh0
            obtain ⟨oa1, on1, rfl, _⟩ := Ty.slice_val oh1
            have oH0 := Lib.hid oh0
            have oH1 := Lib.hid oh1
            clear ocu oh0 oh1
            go_wp2
            refine wp_region_held_drew (S := (fun w' => w'.cell? ⟨wr.heap.size, 0, none⟩ = some (.slice oa0 row[m].key.length on0) ∧ w'.cell? ⟨wr.heap.size, 1, none⟩ = some (.slice oa1 row[m].value.length on1))) (by kernel_rfl) ?_ (fun hHeld => ?_)
            · (go_keep)
            refine wpAnyH_take (i := 0) (v := ?_) rfl (by kernel_rfl) (by kernel_rfl) (by kernel_rfl) (fun _ _ _ h => h) (Or.inl ⟨by rfl, ?_⟩) (by assumption) ?_
            rotate_left 1
            · (intro w hSw; (try dsimp only at hSw); go_simp; (try with_reducible rfl))
            try simp only [Act.put, List.getElem_toArray, List.getElem_cons_succ, List.getElem_cons_zero, List.setIfInBounds_toArray, List.set_cons_zero, List.set_cons_succ]
            refine wpAnyH_take (i := 1) (v := ?_) rfl (by kernel_rfl) (by kernel_rfl) (by kernel_rfl) (fun _ _ _ h => h) (Or.inl ⟨by rfl, ?_⟩) (by assumption) ?_
            rotate_left 1
            · (intro w hSw; (try dsimp only at hSw); go_simp; (try with_reducible rfl))
            try simp only [Act.put, List.getElem_toArray, List.getElem_cons_succ, List.getElem_cons_zero, List.setIfInBounds_toArray, List.set_cons_zero, List.set_cons_succ]
            refine wpAnyH_take (i := 2) (v := ?_) rfl (by kernel_rfl) (by kernel_rfl) (by kernel_rfl) (fun _ _ _ h => h) (Or.inl ⟨by rfl, ?_⟩) (by assumption) ?_
            rotate_left 1
            · (intro w hSw; (try dsimp only at hSw); go_simp; (try with_reducible rfl))
            try simp only [Act.put, List.getElem_toArray, List.getElem_cons_succ, List.getElem_cons_zero, List.setIfInBounds_toArray, List.set_cons_zero, List.set_cons_succ]
            refine wpAnyH_take (i := 4) (v := ?_) rfl (by kernel_rfl) (by kernel_rfl) (by kernel_rfl) (fun _ _ _ h => h) (Or.inl ⟨by rfl, ?_⟩) (by assumption) ?_
            rotate_left 1
            · (intro w hSw; (try dsimp only at hSw); go_simp; (try with_reducible rfl))
            try simp only [Act.put, List.getElem_toArray, List.getElem_cons_succ, List.getElem_cons_zero, List.setIfInBounds_toArray, List.set_cons_zero, List.set_cons_succ]
            refine wpAnyH_take (i := 5) (v := ?_) rfl (by kernel_rfl) (by kernel_rfl) (by kernel_rfl) (fun _ _ _ h => h) (Or.inl ⟨by rfl, ?_⟩) (by assumption) ?_
            rotate_left 1
            · (intro w hSw; (try dsimp only at hSw); go_simp; (try with_reducible rfl))
            try simp only [Act.put, List.getElem_toArray, List.getElem_cons_succ, List.getElem_cons_zero, List.setIfInBounds_toArray, List.set_cons_zero, List.set_cons_succ]
            refine wpAnyH_ready (rs := [3]) (by kernel_rfl) (by simp) ?_
            refine AllReadyH.cons rfl (fun K hK => ?_) AllReadyH.nil
            try simp only [List.getElem_toArray, List.getElem_cons_succ, List.getElem_cons_zero]
            go_simp
            (go_at_call 44; refine (Copy_ _ _ _ _ (by refine Ty.step _ (Hid.out (by assumption)) ?_; (repeat (first | exact Step.refl _ | refine Step.alloc ?_ _ | refine Step.drew ?_ | refine Step.drewN ?_ _ | refine Step.setCell ?_ (by first | exact Nat.le_refl _ | assumption | omega | (simp; done) | (simp; omega)) _ | assumption | refine Step.trans ?_ (by assumption : Step _ _))))).mono ?_; rintro e2 w2 ⟨v2, rfl, hA2, hS2⟩; obtain ⟨b2, m2, rfl⟩ := hA2.val; have s2_0 : ∀ j, w2.cell? ⟨wr.heap.size, j, none⟩ = _ := fun j => hS2.cell (by first | assumption | omega | (simp; done) | (simp; omega)) j; have z2_0 : wr.heap.size < w2.heap.size := Nat.lt_of_lt_of_le (by first | assumption | omega | (simp; done) | (simp; omega)) hS2.size; have HA2 := Lib.hid hA2; clear hA2)
            refine hK.out _ _ ?_ (fun hHeld => ?_)
            · (go_keep)
            clear hK K
            try simp only [Act.put, List.getElem_toArray, List.getElem_cons_succ, List.getElem_cons_zero, List.setIfInBounds_toArray, List.set_cons_zero, List.set_cons_succ]
            refine wpAnyH_ready (rs := [6]) (by kernel_rfl) (by simp) ?_
            refine AllReadyH.cons rfl (fun K hK => ?_) AllReadyH.nil
            try simp only [List.getElem_toArray, List.getElem_cons_succ, List.getElem_cons_zero]
            go_simp
            (go_at_call 44; refine (Copy_ _ _ _ _ (by refine Ty.step _ (Hid.out (by assumption)) ?_; (repeat (first | exact Step.refl _ | refine Step.alloc ?_ _ | refine Step.drew ?_ | refine Step.drewN ?_ _ | refine Step.setCell ?_ (by first | exact Nat.le_refl _ | assumption | omega | (simp; done) | (simp; omega)) _ | assumption | refine Step.trans ?_ (by assumption : Step _ _))))).mono ?_; rintro e3 w3 ⟨v3, rfl, hA3, hS3⟩; obtain ⟨b3, m3, rfl⟩ := hA3.val; have s3_0 : ∀ j, w3.cell? ⟨wr.heap.size, j, none⟩ = _ := fun j => hS3.cell (by first | assumption | omega | (simp; done) | (simp; omega)) j; have z3_0 : wr.heap.size < w3.heap.size := Nat.lt_of_lt_of_le (by first | assumption | omega | (simp; done) | (simp; omega)) hS3.size; have HA3 := Lib.hid hA3; clear hA3)
            refine hK.out _ _ ?_ (fun hHeld => ?_)
            · (go_keep)
            clear hK K
            try simp only [Act.put, List.getElem_toArray, List.getElem_cons_succ, List.getElem_cons_zero, List.setIfInBounds_toArray, List.set_cons_zero, List.set_cons_succ]
            refine wpAnyH_take (i := 7) (v := ?_) rfl (by kernel_rfl) (by kernel_rfl) (by kernel_rfl) (fun _ _ _ h => h) (Or.inl ⟨by rfl, ?_⟩) (by assumption) ?_
            rotate_left 1
            · (intro w hSw; (try dsimp only at hSw); go_simp; (try with_reducible rfl))
            try simp only [Act.put, List.getElem_toArray, List.getElem_cons_succ, List.getElem_cons_zero, List.setIfInBounds_toArray, List.set_cons_zero, List.set_cons_succ]
            refine wpAnyH_ready (rs := [8]) (by kernel_rfl) (by simp) ?_
            refine AllReadyH.cons rfl (fun K hK => ?_) AllReadyH.nil
            try simp only [List.getElem_toArray, List.getElem_cons_succ, List.getElem_cons_zero]
            go_simp
            refine hK.out _ _ ?_ (fun hHeld => ?_)
            · (go_keep)
            clear hK K
            try simp only [Act.put, List.getElem_toArray, List.getElem_cons_succ, List.getElem_cons_zero, List.setIfInBounds_toArray, List.set_cons_zero, List.set_cons_succ]
            refine wpAnyH_ready (rs := [9]) (by kernel_rfl) (by simp) ?_
            refine AllReadyH.cons rfl (fun K hK => ?_) AllReadyH.nil
            try simp only [List.getElem_toArray, List.getElem_cons_succ, List.getElem_cons_zero]
            refine ite_then rfl ?_; refine wp_append_acc (w0 := wo) (E := Ty.cells 2) (M := fun _ => False) (ys := [()]) (.tmp 53) (.tmp 61) rfl st2 (by (repeat (first | exact Step.refl _ | refine Step.alloc ?_ _ | refine Step.drew ?_ | refine Step.drewN ?_ _ | refine Step.setCell ?_ (by first | exact Nat.le_refl _ | assumption | omega | (simp; done) | (simp; omega)) _ | assumption | refine Step.trans ?_ (by assumption : Step _ _)))) (Own.step HAl.out (by (repeat (first | exact Step.refl _ | refine Step.alloc ?_ _ | refine Step.drew ?_ | refine Step.drewN ?_ _ | refine Step.setCell ?_ (by first | exact Nat.le_refl _ | assumption | omega | (simp; done) | (simp; omega)) _ | assumption | refine Step.trans ?_ (by assumption : Step _ _))))) ?_ ?_ rfl rfl ?_; (first | exact Src.drew (Src.oneAt (E := Ty.cells 2) (by simp) ⟨rfl, by simp [Value.oneCell']⟩) | exact Src.oneAt (E := Ty.cells 2) (by simp) ⟨rfl, by simp [Value.oneCell']⟩); exact (by rw [units_len, lim_eq]; simp; omega); intro v4 w4 hA4 hS4 hG4 _; have s4 : ∀ j, w4.cell? ⟨wr.heap.size, j, none⟩ = _ := fun j => grown_cell hG4 (by first | assumption | omega | (simp; done) | (simp; omega)) (fun e => absurd (HAl.out.lt e).2 (Nat.lt_irrefl _)) j; have HA4 := Lib.hid hA4; clear hA4
            refine hK.out _ _ ?_ (fun hHeld => ?_)
            · (go_keep)
            clear hK K
            try simp only [Act.put, List.getElem_toArray, List.getElem_cons_succ, List.getElem_cons_zero, List.setIfInBounds_toArray, List.set_cons_zero, List.set_cons_succ]
            refine wpAnyH_take (i := 10) (v := ?_) rfl (by kernel_rfl) (by kernel_rfl) (by kernel_rfl) (fun _ _ _ h => h) (Or.inl ⟨by rfl, ?_⟩) (by assumption) ?_
            rotate_left 1
            · (intro w hSw; (try dsimp only at hSw); go_simp; (try with_reducible rfl))
            try simp only [Act.put, List.getElem_toArray, List.getElem_cons_succ, List.getElem_cons_zero, List.setIfInBounds_toArray, List.set_cons_zero, List.set_cons_succ]
            refine wpAnyH_done (by kernel_rfl) ?_ _
            go_wp2
            go_roundw
            case rel => exact ⟨m + 1, by go_num, by omega, by rw [← units_snoc]; exact HA4.out, hS4⟩
            case measure => simp [Go.RowKit.intOf]; omega
          · obtain rfl : m = row.length := by omega
            obtain ⟨la, ln, lc, rfl, HLN⟩ := HAl.out.valN
            have cr := HCr.out.step hBl
            have c10 : wr.cell? ⟨b, 10, none⟩ = some (.slice ra rn rc) := cr.cell 10
            have HCR := Lib.hid cr
            clear cr
            go_wp2_with (at_builtin; refine wpList_append_gen (E := Ty.cells 1) (B := wl.heap.size) (M := fun _ => False) (ys := [()]) rfl (.tmp 66) (.tmp 68) rfl st1 (Own.step HA.out (by (repeat (first | exact Step.refl _ | refine Step.alloc ?_ _ | refine Step.drew ?_ | refine Step.drewN ?_ _ | refine Step.setCell ?_ (by first | exact Nat.le_refl _ | assumption | omega | (simp; done) | (simp; omega)) _ | assumption | refine Step.trans ?_ (by assumption : Step _ _))))) (Src.oneAt (E := Ty.cells 1) (by simp) ⟨rfl, by simp [Value.oneCell']⟩) (by rw [units_len, lim_eq]; simp; omega) (by first | assumption | omega | (simp; done) | (simp; omega)) rfl rfl ?_; intro v5 w5 hA5 hG5 _; obtain ⟨b5, n5, m5, rfl, HN5⟩ := hA5.valN; have cr5 := (HCR.out.step (by (repeat (first | exact Step.refl _ | refine Step.alloc ?_ _ | refine Step.drew ?_ | refine Step.drewN ?_ _ | refine Step.setCell ?_ (by first | exact Nat.le_refl _ | assumption | omega | (simp; done) | (simp; omega)) _ | assumption | refine Step.trans ?_ (by assumption : Step _ _))))).kept (hG5.block b (by first | assumption | omega | (simp; done) | (simp; omega)) (fun e => absurd (HA.out.lt e.symm).1 (by omega))); have c5 : w5.cell? ⟨b, 10, none⟩ = some (.slice ra rn rc) := cr5.cell 10; have t5 : w5.frozen? ⟨b, 10, none⟩ = false := cr5.frozen 10; have HC5 := Lib.hid cr5; have HA5 := Lib.hid hA5; have HT5 := Lib.hid (Turn.grown (HT.out.then (by (repeat (first | exact Step.refl _ | refine Step.alloc ?_ _ | refine Step.drew ?_ | refine Step.drewN ?_ _ | refine Step.setCell ?_ (by first | exact Nat.le_refl _ | assumption | omega | (simp; done) | (simp; omega)) _ | assumption | refine Step.trans ?_ (by assumption : Step _ _))))) hG5 (fun g hg h => absurd (HA.out.lt hg).1 (by omega))); clear hA5 hG5 cr5)
            go_roundw
            case rel => exact ⟨k + 1, _, by go_num, by omega, HC5.out.set 10 _, by rw [← units_snoc]; exact Own.flat (Ty.flat_cells 1) (Own.set (M := (· = b)) (Own.flat (Ty.flat_cells 1) HA5.out) rfl hbl _), Turn.setCell HT5.out (fun _ => rfl) _⟩
            case measure => simp [Go.RowKit.intOf]; omega
      · obtain rfl : k = x.out.rows.length := by omega
        have c11 : wo.cell? ⟨w.heap.size, 11, none⟩ = some (.slice a11 x.out.writes.length c11) := ((HT.out.cell (by omega) (by omega) 11).trans (HBX.out.cell 11))
        go_wp2
        go_loopw [77] (fun i w' => ∃ (m : Nat) (r : Value), i = .int .i64 m ∧ m ≤ x.out.writes.length ∧ CellsAt w' b (ansCells x x.out.err x.out.at_ (.slice ra rn rc) r (.slice ya x.reply.length yc)) 44 ∧ Own (Ty.cells 3) 74 w' (fun _ => False) wo.heap.size r (units m) ∧ Turn (· = b) wo w') (fun i _ => x.out.writes.length - (Go.RowKit.intOf i).toNat)
        case atStart => exact ⟨0, _, rfl, by omega, HCr.out, Own.nil, Turn.refl _ _⟩
        case round =>
          obtain ⟨m, q, rfl, hm, hC2, hA2, hT2⟩ := hrel
          obtain ⟨qa, qn, qc, rfl, HQN⟩ := hA2.valN
          have HC2 := Lib.hid hC2
          have HA2 := Lib.hid hA2
          have HT2 := Lib.hid hT2
          have hsz2 := hT2.size
          have hb2 := hC2.lt
          have hSr2 : Step w wr := Turn.step hSr hT2 (fun b' hb' => by omega)
          clear hC2 hA2 hT2
          by_cases hlm : m < x.out.writes.length
          · obtain ⟨ob, oo, oes, rfl, ohb, _, ou, ocu⟩ := Ty.slice_at HW.out hlm
            obtain ⟨oc0, oc1, rfl, oh0, oh1⟩ := ou
            have oq0 := (Step.cell (w' := wr) (by (repeat (first | exact Step.refl _ | refine Step.alloc ?_ _ | refine Step.drew ?_ | refine Step.drewN ?_ _ | refine Step.setCell ?_ (by first | exact Nat.le_refl _ | assumption | omega | (simp; done) | (simp; omega)) _ | assumption | refine Step.trans ?_ (by assumption : Step _ _)))) ohb _).trans (ocu 0 _ rfl)
            have oq1 := (Step.cell (w' := wr) (by (repeat (first | exact Step.refl _ | refine Step.alloc ?_ _ | refine Step.drew ?_ | refine Step.drewN ?_ _ | refine Step.setCell ?_ (by first | exact Nat.le_refl _ | assumption | omega | (simp; done) | (simp; omega)) _ | assumption | refine Step.trans ?_ (by assumption : Step _ _)))) ohb _).trans (ocu 1 _ rfl)
            have oq2 := (Step.cell (w' := wr) (by (repeat (first | exact Step.refl _ | refine Step.alloc ?_ _ | refine Step.drew ?_ | refine Step.drewN ?_ _ | refine Step.setCell ?_ (by first | exact Nat.le_refl _ | assumption | omega | (simp; done) | (simp; omega)) _ | assumption | refine Step.trans ?_ (by assumption : Step _ _)))) ohb _).trans (ocu 2 _ rfl)
            simp only [show tWrite.n = 3 from rfl, Nat.add_zero] at oq0 oq1 oq2
            obtain ⟨oa0, on0, rfl, _⟩ := Ty.slice_val oh0
            obtain ⟨oa1, on1, rfl, _⟩ := Ty.slice_val oh1
            have oH0 := Lib.hid oh0
            have oH1 := Lib.hid oh1
            clear ocu oh0 oh1
            have b11 : wr.cell? ⟨b, 11, none⟩ = some (.slice qa qn qc) := HC2.out.cell 11
            have hbw : ¬ b = wr.heap.size := by omega
            go_wp2
            refine wp_region_cut (S := (fun w' => w'.cell? ⟨b, 11, none⟩ = some (.slice qa qn qc) ∧ w'.cell? ⟨wr.heap.size, 0, none⟩ = some (.slice oa0 x.out.writes[m].key.length on0) ∧ w'.cell? ⟨wr.heap.size, 1, none⟩ = some (.slice oa1 x.out.writes[m].value.length on1) ∧ w'.cell? ⟨wr.heap.size, 2, none⟩ = some (.bool x.out.writes[m].gone))) 16 (by kernel_rfl) ?_ (fun hHeld => ?_)
            · (go_keep)
            refine wpAnyC_take (i := 0) (v := ?_) rfl (by kernel_rfl) (by kernel_rfl) (by kernel_rfl) (by decide) [1, 2, 13, 14, 15, 16] (by kernel_rfl) (fun _ _ _ h => h) (Or.inl ⟨by rfl, ?_⟩) (by assumption) ?_
            rotate_left 1
            · (intro w hSw; (try dsimp only at hSw); go_simp; (try with_reducible rfl))
            try simp only [Act.put, List.getElem_toArray, List.getElem_cons_succ, List.getElem_cons_zero, List.setIfInBounds_toArray, List.set_cons_zero, List.set_cons_succ]
            refine wpAnyC_take (i := 1) (v := ?_) rfl (by kernel_rfl) (by kernel_rfl) (by kernel_rfl) (by decide) [2, 13, 14, 15, 16] (by kernel_rfl) (fun _ _ _ h => h) (Or.inl ⟨by rfl, ?_⟩) (by assumption) ?_
            rotate_left 1
            · (intro w hSw; (try dsimp only at hSw); go_simp; (try with_reducible rfl))
            try simp only [Act.put, List.getElem_toArray, List.getElem_cons_succ, List.getElem_cons_zero, List.setIfInBounds_toArray, List.set_cons_zero, List.set_cons_succ]
            refine wpAnyC_take (i := 2) (v := ?_) rfl (by kernel_rfl) (by kernel_rfl) (by kernel_rfl) (by decide) [13, 14, 15, 16] (by kernel_rfl) (fun _ _ _ h => h) (Or.inl ⟨by rfl, ?_⟩) (by assumption) ?_
            rotate_left 1
            · (intro w hSw; (try dsimp only at hSw); go_simp; (try with_reducible rfl))
            try simp only [Act.put, List.getElem_toArray, List.getElem_cons_succ, List.getElem_cons_zero, List.setIfInBounds_toArray, List.set_cons_zero, List.set_cons_succ]
            refine wpAnyC_take (i := 3) (v := ?_) rfl (by kernel_rfl) (by kernel_rfl) (by kernel_rfl) (by decide) [4, 5, 8, 11, 12, 13, 14, 15, 16] (by kernel_rfl) (fun _ _ _ h => h) (Or.inl ⟨by rfl, ?_⟩) (by assumption) ?_
            rotate_left 1
            · (intro w hSw; (try dsimp only at hSw); go_simp; (try with_reducible rfl))
            try simp only [Act.put, List.getElem_toArray, List.getElem_cons_succ, List.getElem_cons_zero, List.setIfInBounds_toArray, List.set_cons_zero, List.set_cons_succ]
            refine wpAnyC_take (i := 4) (v := ?_) rfl (by kernel_rfl) (by kernel_rfl) (by kernel_rfl) (by decide) [5, 8, 11, 12, 13, 14, 15, 16] (by kernel_rfl) (fun _ _ _ h => h) (Or.inl ⟨by rfl, ?_⟩) (by assumption) ?_
            rotate_left 1
            · (intro w hSw; (try dsimp only at hSw); go_simp; (try with_reducible rfl))
            try simp only [Act.put, List.getElem_toArray, List.getElem_cons_succ, List.getElem_cons_zero, List.setIfInBounds_toArray, List.set_cons_zero, List.set_cons_succ]
            refine wpAnyC_take (i := 6) (v := ?_) rfl (by kernel_rfl) (by kernel_rfl) (by kernel_rfl) (by decide) [7, 8, 11, 12, 13, 14, 15, 16] (by kernel_rfl) (fun _ _ _ h => h) (Or.inl ⟨by rfl, ?_⟩) (by assumption) ?_
            rotate_left 1
            · (intro w hSw; (try dsimp only at hSw); go_simp; (try with_reducible rfl))
            try simp only [Act.put, List.getElem_toArray, List.getElem_cons_succ, List.getElem_cons_zero, List.setIfInBounds_toArray, List.set_cons_zero, List.set_cons_succ]
            refine wpAnyC_take (i := 7) (v := ?_) rfl (by kernel_rfl) (by kernel_rfl) (by kernel_rfl) (by decide) [8, 11, 12, 13, 14, 15, 16] (by kernel_rfl) (fun _ _ _ h => h) (Or.inl ⟨by rfl, ?_⟩) (by assumption) ?_
            rotate_left 1
            · (intro w hSw; (try dsimp only at hSw); go_simp; (try with_reducible rfl))
            try simp only [Act.put, List.getElem_toArray, List.getElem_cons_succ, List.getElem_cons_zero, List.setIfInBounds_toArray, List.set_cons_zero, List.set_cons_succ]
            refine wpAnyC_take (i := 9) (v := ?_) rfl (by kernel_rfl) (by kernel_rfl) (by kernel_rfl) (by decide) [10, 11, 12, 13, 14, 15, 16] (by kernel_rfl) (fun _ _ _ h => h) (Or.inl ⟨by rfl, ?_⟩) (by assumption) ?_
            rotate_left 1
            · (intro w hSw; (try dsimp only at hSw); go_simp; (try with_reducible rfl))
            try simp only [Act.put, List.getElem_toArray, List.getElem_cons_succ, List.getElem_cons_zero, List.setIfInBounds_toArray, List.set_cons_zero, List.set_cons_succ]
            refine wpAnyC_take (i := 10) (v := ?_) rfl (by kernel_rfl) (by kernel_rfl) (by kernel_rfl) (by decide) [11, 12, 13, 14, 15, 16] (by kernel_rfl) (fun _ _ _ h => h) (Or.inl ⟨by rfl, ?_⟩) (by assumption) ?_
            rotate_left 1
            · (intro w hSw; (try dsimp only at hSw); go_simp; (try with_reducible rfl))
            try simp only [Act.put, List.getElem_toArray, List.getElem_cons_succ, List.getElem_cons_zero, List.setIfInBounds_toArray, List.set_cons_zero, List.set_cons_succ]
            refine wpAnyC_ready (rs := [5]) (by kernel_rfl) (by simp) ?_
            refine AllReadyC.cons rfl (by decide) (fun K hK => ?_) AllReadyC.nil
            try simp only [List.getElem_toArray, List.getElem_cons_succ, List.getElem_cons_zero]
            go_simp
            (go_at_call 44; refine (Copy_ _ _ _ _ (by refine Ty.step _ (Hid.out (by assumption)) ?_; (repeat (first | exact Step.refl _ | refine Step.alloc ?_ _ | refine Step.drew ?_ | refine Step.drewN ?_ _ | refine Step.setCell ?_ (by first | exact Nat.le_refl _ | assumption | omega | (simp; done) | (simp; omega)) _ | assumption | refine Step.trans ?_ (by assumption : Step _ _))))).mono ?_; rintro e3 w3 ⟨v3, rfl, hA3, hS3⟩; obtain ⟨b3, m3, rfl⟩ := hA3.val; have s3_0 : ∀ j, w3.cell? ⟨b, j, none⟩ = _ := fun j => hS3.cell (by first | assumption | omega | (simp; done) | (simp; omega)) j; have z3_0 : b < w3.heap.size := Nat.lt_of_lt_of_le (by first | assumption | omega | (simp; done) | (simp; omega)) hS3.size; have s3_1 : ∀ j, w3.cell? ⟨wr.heap.size, j, none⟩ = _ := fun j => hS3.cell (by first | assumption | omega | (simp; done) | (simp; omega)) j; have z3_1 : wr.heap.size < w3.heap.size := Nat.lt_of_lt_of_le (by first | assumption | omega | (simp; done) | (simp; omega)) hS3.size; have HA3 := Lib.hid hA3; clear hA3)
            refine hK.out _ _ ?_ (fun hHeld => ?_)
            · (go_keep)
            clear hK K
            try simp only [Act.put, List.getElem_toArray, List.getElem_cons_succ, List.getElem_cons_zero, List.setIfInBounds_toArray, List.set_cons_zero, List.set_cons_succ]
            refine wpAnyC_ready (rs := [8]) (by kernel_rfl) (by simp) ?_
            refine AllReadyC.cons rfl (by decide) (fun K hK => ?_) AllReadyC.nil
            try simp only [List.getElem_toArray, List.getElem_cons_succ, List.getElem_cons_zero]
            go_simp
            (go_at_call 44; refine (Copy_ _ _ _ _ (by refine Ty.step _ (Hid.out (by assumption)) ?_; (repeat (first | exact Step.refl _ | refine Step.alloc ?_ _ | refine Step.drew ?_ | refine Step.drewN ?_ _ | refine Step.setCell ?_ (by first | exact Nat.le_refl _ | assumption | omega | (simp; done) | (simp; omega)) _ | assumption | refine Step.trans ?_ (by assumption : Step _ _))))).mono ?_; rintro e4 w4 ⟨v4, rfl, hA4, hS4⟩; obtain ⟨b4, m4, rfl⟩ := hA4.val; have s4_0 : ∀ j, w4.cell? ⟨b, j, none⟩ = _ := fun j => hS4.cell (by first | assumption | omega | (simp; done) | (simp; omega)) j; have z4_0 : b < w4.heap.size := Nat.lt_of_lt_of_le (by first | assumption | omega | (simp; done) | (simp; omega)) hS4.size; have s4_1 : ∀ j, w4.cell? ⟨wr.heap.size, j, none⟩ = _ := fun j => hS4.cell (by first | assumption | omega | (simp; done) | (simp; omega)) j; have z4_1 : wr.heap.size < w4.heap.size := Nat.lt_of_lt_of_le (by first | assumption | omega | (simp; done) | (simp; omega)) hS4.size; have HA4 := Lib.hid hA4; clear hA4)
            refine hK.out _ _ ?_ (fun hHeld => ?_)
            · (go_keep)
            clear hK K
            try simp only [Act.put, List.getElem_toArray, List.getElem_cons_succ, List.getElem_cons_zero, List.setIfInBounds_toArray, List.set_cons_zero, List.set_cons_succ]
            refine wpAnyC_take (i := 11) (v := ?_) rfl (by kernel_rfl) (by kernel_rfl) (by kernel_rfl) (by decide) [12, 13, 14, 15, 16] (by kernel_rfl) (fun _ _ _ h => h) (Or.inl ⟨by rfl, ?_⟩) (by assumption) ?_
            rotate_left 1
            · (intro w hSw; (try dsimp only at hSw); go_simp; (try with_reducible rfl))
            try simp only [Act.put, List.getElem_toArray, List.getElem_cons_succ, List.getElem_cons_zero, List.setIfInBounds_toArray, List.set_cons_zero, List.set_cons_succ]
            refine wpAnyC_ready (rs := [12]) (by kernel_rfl) (by simp) ?_
            refine AllReadyC.cons rfl (by decide) (fun K hK => ?_) AllReadyC.nil
            try simp only [List.getElem_toArray, List.getElem_cons_succ, List.getElem_cons_zero]
            go_simp
            refine hK.out _ _ ?_ (fun hHeld => ?_)
            · (go_keep)
            clear hK K
            try simp only [Act.put, List.getElem_toArray, List.getElem_cons_succ, List.getElem_cons_zero, List.setIfInBounds_toArray, List.set_cons_zero, List.set_cons_succ]
            refine wpAnyC_ready (rs := [13]) (by kernel_rfl) (by simp) ?_
            refine AllReadyC.cons rfl (by decide) (fun K hK => ?_) AllReadyC.nil
            try simp only [List.getElem_toArray, List.getElem_cons_succ, List.getElem_cons_zero]
            refine ite_then rfl ?_; refine wp_append_gen (E := Ty.cells 3) (B := wo.heap.size) (M := fun _ => False) (ys := [()]) (.tmp 83) (.tmp 93) rfl st3 (Own.step HA2.out (by (repeat (first | exact Step.refl _ | refine Step.alloc ?_ _ | refine Step.drew ?_ | refine Step.drewN ?_ _ | refine Step.setCell ?_ (by first | exact Nat.le_refl _ | assumption | omega | (simp; done) | (simp; omega)) _ | assumption | refine Step.trans ?_ (by assumption : Step _ _))))) ?_ ?_ (by first | assumption | omega | (simp; done) | (simp; omega)) rfl rfl ?_; (first | exact Src.drew (Src.oneAt (E := Ty.cells 3) (by simp) ⟨rfl, by simp [Value.oneCell']⟩) | exact Src.oneAt (E := Ty.cells 3) (by simp) ⟨rfl, by simp [Value.oneCell']⟩); exact (by rw [units_len, lim_eq]; simp; omega); intro v5 w5 hA5 hG5 _; obtain ⟨b5, n5, m5, rfl, HN5⟩ := hA5.valN; have cr5 := (HC2.out.step (by (repeat (first | exact Step.refl _ | refine Step.alloc ?_ _ | refine Step.drew ?_ | refine Step.drewN ?_ _ | refine Step.setCell ?_ (by first | exact Nat.le_refl _ | assumption | omega | (simp; done) | (simp; omega)) _ | assumption | refine Step.trans ?_ (by assumption : Step _ _))))).kept (hG5.block b (by first | assumption | omega | (simp; done) | (simp; omega)) (fun e => absurd (HA2.out.lt e.symm).1 (by omega))); have c5 : w5.cell? ⟨b, 11, none⟩ = some (.slice qa qn qc) := cr5.cell 11; have t5 : w5.frozen? ⟨b, 11, none⟩ = false := cr5.frozen 11; have s5 : ∀ j, w5.cell? ⟨wr.heap.size, j, none⟩ = _ := fun j => grown_cell hG5 (by first | assumption | omega | (simp; done) | (simp; omega)) (fun e => absurd (HA2.out.lt e).2 (Nat.lt_irrefl _)) j; have HC5 := Lib.hid cr5; have HA5 := Lib.hid hA5; have HT5 := Lib.hid (Turn.grown (HT2.out.then (by (repeat (first | exact Step.refl _ | refine Step.alloc ?_ _ | refine Step.drew ?_ | refine Step.drewN ?_ _ | refine Step.setCell ?_ (by first | exact Nat.le_refl _ | assumption | omega | (simp; done) | (simp; omega)) _ | assumption | refine Step.trans ?_ (by assumption : Step _ _))))) hG5 (fun g hg h => absurd (HA2.out.lt hg).1 (by omega))); clear hA5 hG5 cr5
            refine hK.out _ _ ?_ (fun hHeld => ?_)
            · (go_keep)
            clear hK K
            try simp only [Act.put, List.getElem_toArray, List.getElem_cons_succ, List.getElem_cons_zero, List.setIfInBounds_toArray, List.set_cons_zero, List.set_cons_succ]
            refine wpAnyC_take (i := 14) (v := ?_) rfl (by kernel_rfl) (by kernel_rfl) (by kernel_rfl) (by decide) [15, 16] (by kernel_rfl) (fun _ _ _ h => h) (Or.inl ⟨by rfl, ?_⟩) (by assumption) ?_
            rotate_left 1
            · (intro w hSw; (try dsimp only at hSw); go_simp; (try with_reducible rfl))
            try simp only [Act.put, List.getElem_toArray, List.getElem_cons_succ, List.getElem_cons_zero, List.setIfInBounds_toArray, List.set_cons_zero, List.set_cons_succ]
            refine wpAnyC_take (i := 15) (v := ?_) rfl (by kernel_rfl) (by kernel_rfl) (by kernel_rfl) (by decide) [16] (by kernel_rfl) (fun _ _ _ h => h) (Or.inl ⟨by rfl, ?_⟩) (by assumption) ?_
            rotate_left 1
            · (intro w hSw; (try dsimp only at hSw); go_simp; (try with_reducible rfl))
            try simp only [Act.put, List.getElem_toArray, List.getElem_cons_succ, List.getElem_cons_zero, List.setIfInBounds_toArray, List.set_cons_zero, List.set_cons_succ]
            refine wpAnyC_ready (rs := [16]) (by kernel_rfl) (by simp) ?_
            refine AllReadyC.cut rfl (fun K hK => ?_)
            try simp only [List.getElem_toArray, List.getElem_cons_succ, List.getElem_cons_zero]
            go_simp
            refine hK.out _ _ trivial (fun hHeld => ?_)
            clear hK K
            try simp only [Act.put, List.getElem_toArray, List.getElem_cons_succ, List.getElem_cons_zero, List.setIfInBounds_toArray, List.set_cons_zero, List.set_cons_succ]
            have hTrue : True := trivial
            refine wpAnyH_done (by kernel_rfl) ?_ _
            go_wp2
            go_roundw
            case rel => exact ⟨m + 1, _, by go_num, by omega, HC5.out.set 11 _, by rw [← units_snoc]; exact Own.flat (Ty.flat_cells 3) (Own.set (M := (· = b)) (Own.flat (Ty.flat_cells 3) HA5.out) rfl hbr _), Turn.setCell HT5.out (fun _ => rfl) _⟩
            case measure => simp [Go.RowKit.intOf]; omega
          · obtain rfl : m = x.out.writes.length := by omega
            go_upto_region 19 with fail
            have hbx2 := HZX.out.kept ((HT2.out.block (w.heap.size + 1) (by omega) (by omega)).trans (HT.out.block (w.heap.size + 1) (by omega) (by omega)))
            refine wp_region_lit ?_
            refine wpList_load_row rfl 44 (.tmp 3) rfl b rfl _ (ansCells x x.out.err x.out.at_ (.slice ra rn rc) (.slice qa qn qc) (.slice ya x.reply.length yc)) (0, 0) _ HC2.out Try.underlying44 rfl (by kernel_rfl) ?_
            refine wpList_store_row rfl 44 (.tmp 2) (.tmp 98) rfl (w.heap.size + 1) (ansCells x x.out.err x.out.at_ (.slice ra rn rc) (.slice qa qn qc) (.slice ya x.reply.length yc)) rfl rfl _ zs hbx2 (by kernel_rfl) HZS.out ansCells_one ?_
            go_wp2
            refine bodyPost_ret (v := .agg (ansCells x x.out.err x.out.at_ (.slice ra rn rc) (.slice qa qn qc) (.slice ya x.reply.length yc))) (results_cell_row rfl _ _ _ _ _ (0, 0) _ rfl (CellsAt.row hbx2 _) Try.underlying44 rfl (by kernel_rfl)) rfl ⟨_, _, _, _, _, _, _, _, _, rfl, Step.setRow hSr2 (by omega) _⟩
end Go.Proofs.Ythflkfgiclcdiaa
