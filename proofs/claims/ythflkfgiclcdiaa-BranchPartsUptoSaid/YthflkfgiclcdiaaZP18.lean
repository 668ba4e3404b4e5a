/-
  Walk: one operation upon an overlay (do).
  Walk: one operation upon an overlay (do), where it reads.
-/
import Derived.Test.YthflkfgiclcdiaaZB12
import Derived.Test.YthflkfgiclcdiaaZB13
set_option linter.unusedVariables false
set_option linter.unusedSimpArgs false
namespace Go.Proofs.Ythflkfgiclcdiaa
open Go.RowKit Go.Gr Go.Sort
set_option linter.unusedSimpArgs false
/-- What the overlay and its reader turn, and what else (X) is not to be met by what is read. -/
def ovM (X : Nat → Prop) (lb mb : Nat) (va : Value) : Nat → Prop := fun b => X b ∨ b = lb ∨ b = mb ∨ va.ownBlock = some b
/-- Block vb is an overlay (its writes: ws, in the map mb) over the law's reader (block lb) of the pairs P. -/
structure OvAt (X : Nat → Prop) (w : World) (lb vb mb B : Nat) (vp va : Value) (rs : List (List Value)) (P : List DPair) (ws : List DWrite) : Prop where
  ls : LsAt w lb vp va
  own : Own tRaw3 97 w (fun _ => False) B va rs
  hlB : lb < B
  hB : B ≤ w.heap.size
  ov : CellsAt w vb (ovC lb mb) 127
  map : MapR Try.prog 9 DWrite.key wrR w (ovM X lb mb va) mb ws
  prs : (Ty.slice tPair).rep w (ovM X lb mb va) [vp] P
  xs : ∀ b, X b → b < w.heap.size
  vl : vb ≠ lb
  vm : vb ≠ mb
  ml : mb ≠ lb
  av : va.ownBlock ≠ some vb
  am : va.ownBlock ≠ some mb
section
variable {X X' : Nat → Prop} {w w' : World} {lb vb mb B : Nat} {vp va va' : Value} {rs rs' : List (List Value)} {P : List DPair} {ws ws' : List DWrite}
/-- From a world to another: what the row's value may have become. -/
def VaNew (w : World) (va va' : Value) : Prop := va'.ownBlock = va.ownBlock ∨ ∃ b, va'.ownBlock = some b ∧ w.heap.size ≤ b
theorem VaNew.not (h : VaNew w va va') {b : Nat} (hb : b < w.heap.size) (hv : va.ownBlock ≠ some b) : va'.ownBlock ≠ some b := by
  rcases h with h | ⟨c, h, hc⟩
  · rw [h]; exact hv
  · rw [h]; intro e; injection e with e; omega
theorem ovM_new (h : VaNew w va va') {b : Nat} (hb : b < w.heap.size) (hM : ¬ ovM X lb mb va b) : ¬ ovM X lb mb va' b := by
  rintro (e | e | e | e)
  · exact hM (.inl e)
  · exact hM (.inr (.inl e))
  · exact hM (.inr (.inr (.inl e)))
  · exact h.not hb (fun e => hM (.inr (.inr (.inr e)))) e
theorem OvAt.turn (h : OvAt X w lb vb mb B vp va rs P ws) (hL : LsAt w' lb vp va') (hA : Own tRaw3 97 w' (fun _ => False) B va' rs') (hva : VaNew w va va') (hT : Turn (fun b => b = lb ∨ va.ownBlock = some b) w w') : OvAt X w' lb vb mb B vp va' rs' P ws where
  ls := hL
  own := hA
  hlB := h.hlB
  hB := Nat.le_trans h.hB hT.size
  ov := h.ov.kept (hT.block vb h.ov.lt (fun e => e.elim h.vl h.av))
  map := h.map.keep keep_wrR (hT.block mb h.map.lt (fun e => e.elim h.ml h.am)) (fun c h1 h2 => ⟨hT.block c h1 (fun e => h2 (e.elim (fun e => .inr (.inl e)) (fun e => .inr (.inr (.inr e))))), ovM_new hva h1 h2⟩)
  prs := Ty.keep _ h.prs (fun c h1 h2 => ⟨hT.block c h1 (fun e => h2 (e.elim (fun e => .inr (.inl e)) (fun e => .inr (.inr (.inr e))))), ovM_new hva h1 h2⟩)
  xs := fun b hb => Nat.lt_of_lt_of_le (h.xs b hb) hT.size
  vl := h.vl
  vm := h.vm
  ml := h.ml
  av := hva.not h.ov.lt h.av
  am := hva.not h.map.lt h.am
/-- What is not to be met is other blocks now. -/
theorem OvAt.rex (h : OvAt X w lb vb mb B vp va rs P ws) (hs : w.heap.size ≤ w'.heap.size) (hb : ∀ b, b < w.heap.size → ¬ X b → w'.heap[b]? = w.heap[b]?) (h1 : ¬ X lb) (h2 : ¬ X vb) (h3 : ¬ X mb) (h4 : ∀ b, va.ownBlock = some b → ¬ X b) (hX : ∀ b, X' b → b < w'.heap.size) (hX' : ∀ b, b < w.heap.size → X' b → X b) : OvAt X' w' lb vb mb B vp va rs P ws where
  ls := CellsAt.kept h.ls (hb lb (CellsAt.lt h.ls) h1)
  own := Own.flat flat_raw3 (Own.kept (M := X) (Own.flat flat_raw3 h.own) (fun b h1 h2 => hb b h1 h2) (fun g e => hb g (h.own.lt e).2 (h4 g e)))
  hlB := h.hlB
  hB := Nat.le_trans h.hB hs
  ov := h.ov.kept (hb vb h.ov.lt h2)
  map := h.map.keep keep_wrR (hb mb h.map.lt h3) (fun c k1 k2 => ⟨hb c k1 (fun e => k2 (.inl e)), fun e => k2 (e.imp (hX' c k1) id)⟩)
  prs := Ty.keep _ h.prs (fun c k1 k2 => ⟨hb c k1 (fun e => k2 (.inl e)), fun e => k2 (e.imp (hX' c k1) id)⟩)
  xs := hX
  vl := h.vl
  vm := h.vm
  ml := h.ml
  av := h.av
  am := h.am
theorem OvAt.step (h : OvAt X w lb vb mb B vp va rs P ws) (hs : Step w w') : OvAt X w' lb vb mb B vp va rs P ws :=
  h.turn (CellsAt.step h.ls hs) (h.own.step hs) (.inl rfl) (Turn.of hs)
theorem OvAt.put (h : OvAt X w lb vb mb B vp va rs P ws) (hm : MapR Try.prog 9 DWrite.key wrR w' (ovM X lb mb va) mb ws') (hg : w.grownBy w' (some mb)) : OvAt X w' lb vb mb B vp va rs P ws' := by
  have hblk : ∀ c, c < w.heap.size → c ≠ mb → w'.heap[c]? = w.heap[c]? := fun c h1 h2 => hg.block c h1 (fun e => h2 (by simpa using e))
  exact {
    ls := CellsAt.kept h.ls (hblk lb (CellsAt.lt h.ls) h.ml.symm)
    own := Own.flat flat_raw3 (Own.kept (M := fun b => b = mb) (Own.flat flat_raw3 h.own) (fun b h1 h2 => hblk b h1 h2) (fun g e => hblk g (h.own.lt e).2 (fun e2 => h.am (e2 ▸ e))))
    hlB := h.hlB
    hB := Nat.le_trans h.hB hg.size
    ov := h.ov.kept (hblk vb h.ov.lt h.vm)
    map := hm
    prs := Ty.keep _ h.prs (fun c h1 h2 => ⟨hblk c h1 (fun e => h2 (.inr (.inr (.inl e)))), h2⟩)
    xs := fun b hb => Nat.lt_of_lt_of_le (h.xs b hb) hg.size
    vl := h.vl
    vm := h.vm
    ml := h.ml
    av := h.av
    am := h.am }
end
set_option maxRecDepth 100000 in
set_option maxHeartbeats 4000000 in
theorem ovDoPut_ {X : Nat → Prop} {w : World} {lb vb mb B : Nat} {vp va : Value} {rs : List (List Value)} {P : List DPair} {ws : List DWrite} {mo : Int} {kv vv : Value} {key value : List UInt8} (h : OvAt X w lb vb mb B vp va rs P ws) (hk : Ty.bytes.rep w (ovM X lb mb va) [kv] key) (hv : Ty.bytes.rep w (ovM X lb mb va) [vv] value) (hws : ws.length ≤ 999) :
    Calls Try.prog 60 #[.pointer (some ⟨vb, 0, none⟩), .agg #[.int .i64 2, kv, vv, .int .i64 mo]] w fun e w' => e = .returned (.tuple #[.slice none 0 0, .int .i64 0]) ∧
      OvAt X w' lb vb mb B vp va rs P (putK DWrite.key ⟨key, value, false⟩ ws) ∧ Turn (fun b => b = mb) w w' := by
  obtain ⟨ka, kc, rfl, _, _, hkl⟩ := Ty.slice_val hk
  obtain ⟨va', vc, rfl, _⟩ := Ty.slice_val hv
  have hvb := h.ov.lt
  have hmb := h.map.lt
  have hlb := CellsAt.lt h.ls
  have H := Lib.hid h
  have HK := Lib.hid hk
  have HV := Lib.hid hv
  have hvm := h.vm
  clear h hk hv
  go_enter Try.func60, Try.ntmps60
  go_upto_region 4 with fail
  go_cut [6] (fun s6 wx => ∃ (b6 : Nat) (a6 : Option Addr) (c6 : Nat), s6 = .pointer (some ⟨b6, 0, none⟩) ∧ CellsAt wx b6 #[.slice a6 key.length c6, .slice none 0 0, .bool false] 74 ∧ Ty.bytes.rep wx (fun b => b < w.heap.size ∨ b = w.heap.size ∨ b = b6) [.slice a6 key.length c6] key ∧ Step (w.alloc (.cells #[.int .i64 2, .slice ka key.length kc, .slice va' value.length vc, .int .i64 mo] 72)) wx ∧ w.heap.size < b6)
  case first =>
    refine wp_region_held_drew (S := (fun w' => w'.cell? ⟨w.heap.size, 0, none⟩ = some (.int .i64 2) ∧ w'.cell? ⟨w.heap.size, 1, none⟩ = some (.slice ka key.length kc))) (by kernel_rfl) ?_ (fun hHeld => ?_)
    · (go_keep)
    refine wpAnyH_take (i := 0) (v := ?_) rfl (by kernel_rfl) (by kernel_rfl) (by kernel_rfl) (fun _ _ _ h => h) (Or.inl ⟨by rfl, ?_⟩) (by assumption) ?_
    rotate_left 1
    · (intro w hSw; (try dsimp only at hSw); go_simp; (try with_reducible rfl))
    try simp only [Act.put, List.getElem_toArray, List.getElem_cons_succ, List.getElem_cons_zero, List.setIfInBounds_toArray, List.set_cons_zero, List.set_cons_succ]
    refine wpAnyH_take (i := 1) (v := ?_) rfl (by kernel_rfl) (by kernel_rfl) (by kernel_rfl) (fun _ _ _ h => h) (Or.inl ⟨by rfl, ?_⟩) (by assumption) ?_
    rotate_left 1
    · (intro w hSw; (try dsimp only at hSw); go_simp; (try with_reducible rfl))
    try simp only [Act.put, List.getElem_toArray, List.getElem_cons_succ, List.getElem_cons_zero, List.setIfInBounds_toArray, List.set_cons_zero, List.set_cons_succ]
    refine wpAnyH_take (i := 3) (v := ?_) rfl (by kernel_rfl) (by kernel_rfl) (by kernel_rfl) (fun _ _ _ h => h) (Or.inl ⟨by rfl, ?_⟩) (by assumption) ?_
    rotate_left 1
    · (intro w hSw; (try dsimp only at hSw); go_simp; (try with_reducible rfl))
    try simp only [Act.put, List.getElem_toArray, List.getElem_cons_succ, List.getElem_cons_zero, List.setIfInBounds_toArray, List.set_cons_zero, List.set_cons_succ]
    refine wpAnyH_take (i := 4) (v := ?_) rfl (by kernel_rfl) (by kernel_rfl) (by kernel_rfl) (fun _ _ _ h => h) (Or.inl ⟨by rfl, ?_⟩) (by assumption) ?_
    rotate_left 1
    · (intro w hSw; (try dsimp only at hSw); go_simp; (try with_reducible rfl))
    try simp only [Act.put, List.getElem_toArray, List.getElem_cons_succ, List.getElem_cons_zero, List.setIfInBounds_toArray, List.set_cons_zero, List.set_cons_succ]
    refine wpAnyH_take (i := 5) (v := ?_) rfl (by kernel_rfl) (by kernel_rfl) (by kernel_rfl) (fun _ _ _ h => h) (Or.inl ⟨by rfl, ?_⟩) (by assumption) ?_
    rotate_left 1
    · (intro w hSw; (try dsimp only at hSw); go_simp; (try with_reducible rfl))
    try simp only [Act.put, List.getElem_toArray, List.getElem_cons_succ, List.getElem_cons_zero, List.setIfInBounds_toArray, List.set_cons_zero, List.set_cons_succ]
    refine wpAnyH_ready (rs := [2, 7]) (by kernel_rfl) (by simp) ?_
    refine AllReadyH.cons rfl (fun K hK => ?_) (AllReadyH.cons rfl (fun K hK => ?_) AllReadyH.nil)
    · try simp only [List.getElem_toArray, List.getElem_cons_succ, List.getElem_cons_zero]
      go_simp
      first | (go_at_call 59; refine (Clone_ _ (ovM X lb mb va) _ _ (Ty.step _ HK.out (by (repeat (first | exact Step.refl _ | refine Step.alloc ?_ _ | refine Step.drew ?_ | refine Step.drewN ?_ _ | refine Step.setCell ?_ (by first | exact Nat.le_refl _ | assumption | omega | (simp; done) | (simp; omega)) _ | assumption | refine Step.trans ?_ (by assumption : Step _ _)))))).mono ?_; rintro e2 w2 ⟨v2, rfl, hA2, hS2⟩; obtain ⟨b2, m2, rfl⟩ := hA2.val; have s2_0 : ∀ j, w2.cell? ⟨w.heap.size, j, none⟩ = _ := fun j => hS2.cell (by first | assumption | omega | (simp; done) | (simp; omega)) j; have z2_0 : w.heap.size < w2.heap.size := Nat.lt_of_lt_of_le (by first | assumption | omega | (simp; done) | (simp; omega)) hS2.size; have f2_1 : ∀ j, w2.frozen? ⟨w.heap.size + 1, j, none⟩ = _ := fun j => hS2.frozen (by first | assumption | omega | (simp; done) | (simp; omega)) j; have s2_1 : ∀ j, w2.cell? ⟨w.heap.size + 1, j, none⟩ = _ := fun j => hS2.cell (by first | assumption | omega | (simp; done) | (simp; omega)) j; have z2_1 : w.heap.size + 1 < w2.heap.size := Nat.lt_of_lt_of_le (by first | assumption | omega | (simp; done) | (simp; omega)) hS2.size; have HA2 := Lib.hid hA2; clear hA2) | (go_at_call 59; refine (Clone_ _ (ovM X lb mb va) _ _ (Ty.step _ HK.out (by (repeat (first | exact Step.refl _ | refine Step.alloc ?_ _ | refine Step.drew ?_ | refine Step.drewN ?_ _ | refine Step.setCell ?_ (by first | exact Nat.le_refl _ | assumption | omega | (simp; done) | (simp; omega)) _ | assumption | refine Step.trans ?_ (by assumption : Step _ _)))))).mono ?_; rintro e2 w2 ⟨v2, rfl, hA2, hS2⟩; obtain ⟨b2, m2, rfl⟩ := hA2.val; have s2_0 : ∀ j, w2.cell? ⟨w.heap.size, j, none⟩ = _ := fun j => hS2.cell (by first | assumption | omega | (simp; done) | (simp; omega)) j; have z2_0 : w.heap.size < w2.heap.size := Nat.lt_of_lt_of_le (by first | assumption | omega | (simp; done) | (simp; omega)) hS2.size; have HA2 := Lib.hid hA2; clear hA2)
      refine hK.out _ _ ?_ (fun hHeld => ?_)
      · (go_keep)
      clear hK K
      try simp only [Act.put, List.getElem_toArray, List.getElem_cons_succ, List.getElem_cons_zero, List.setIfInBounds_toArray, List.set_cons_zero, List.set_cons_succ]
      refine wpAnyH_take (i := 6) (v := ?_) rfl (by kernel_rfl) (by kernel_rfl) (by kernel_rfl) (fun _ _ _ h => h) (Or.inl ⟨by rfl, ?_⟩) (by assumption) ?_
      rotate_left 1
      · (intro w hSw; (try dsimp only at hSw); go_simp; (try with_reducible rfl))
      try simp only [Act.put, List.getElem_toArray, List.getElem_cons_succ, List.getElem_cons_zero, List.setIfInBounds_toArray, List.set_cons_zero, List.set_cons_succ]
      refine wpAnyH_ready (rs := [7]) (by kernel_rfl) (by simp) ?_
      refine AllReadyH.cons rfl (fun K hK => ?_) AllReadyH.nil
      try simp only [List.getElem_toArray, List.getElem_cons_succ, List.getElem_cons_zero]
      go_simp
      refine hK.out _ _ ?_ (fun hHeld => ?_)
      · (go_keep)
      clear hK K
      try simp only [Act.put, List.getElem_toArray, List.getElem_cons_succ, List.getElem_cons_zero, List.setIfInBounds_toArray, List.set_cons_zero, List.set_cons_succ]
      refine wpAnyH_ready (rs := [8]) (by kernel_rfl) (by simp) ?_
      refine AllReadyH.cons rfl (fun K hK => ?_) AllReadyH.nil
      try simp only [List.getElem_toArray, List.getElem_cons_succ, List.getElem_cons_zero]
      go_simp
      refine hK.out _ _ ?_ (fun hHeld => ?_)
      · (go_keep)
      clear hK K
      try simp only [Act.put, List.getElem_toArray, List.getElem_cons_succ, List.getElem_cons_zero, List.setIfInBounds_toArray, List.set_cons_zero, List.set_cons_succ]
      refine wpAnyH_done (by kernel_rfl) ?_ _
      go_wp2_with fail
      go_meet
      case rel =>
        first
        | exact ⟨w2.heap.size, b2, m2, rfl, CellsAt.new rfl, (Own.alloc (Own.flat (M' := fun b => b < w.heap.size ∨ b = w.heap.size ∨ b = w2.heap.size) Ty.flat_byte HA2.out) _).rep' (fun b hb h => by have h9 := HA2.out.lt hb; simp at h9; omega), by (repeat (first | exact Step.refl _ | refine Step.alloc ?_ _ | refine Step.drew ?_ | refine Step.drewN ?_ _ | refine Step.setCell ?_ (by first | exact Nat.le_refl _ | assumption | omega | (simp; done) | (simp; omega)) _ | assumption | refine Step.trans ?_ (by assumption : Step _ _))), by have := hS2.size; simp at this; omega⟩
        | (have c0 : CellsAt w2 (w.heap.size + 1) #[.slice none 0 0, .slice none 0 0, .bool false] 74 := CellsAt.step (w := World.drew (World.alloc (World.alloc w _) _)) (show CellsAt (World.alloc (World.alloc w _) _) _ _ _ from CellsAt.new (by simp)) hS2
           refine ⟨w.heap.size + 1, b2, m2, rfl, CellsAt.set (CellsAt.set (CellsAt.set c0 0 _) 1 _) 2 _, ?_, by (repeat (first | exact Step.refl _ | refine Step.alloc ?_ _ | refine Step.drew ?_ | refine Step.drewN ?_ _ | refine Step.setCell ?_ (by first | exact Nat.le_refl _ | assumption | omega | (simp; done) | (simp; omega)) _ | assumption | refine Step.trans ?_ (by assumption : Step _ _))), by omega⟩
           have o1 := Own.set (p := ⟨w.heap.size + 1, 0, none⟩) (M := (· = w.heap.size + 1)) (Own.flat Ty.flat_byte HA2.out) rfl (by simp) (Value.slice b2 key.length m2)
           have o2 := Own.set (p := ⟨w.heap.size + 1, 1, none⟩) (M := (· = w.heap.size + 1)) o1 rfl (by simp) (Value.slice none 0 0)
           have o3 := Own.set (p := ⟨w.heap.size + 1, 2, none⟩) (M := (· = w.heap.size + 1)) o2 rfl (by simp) (Value.bool false)
           exact (Own.flat (M' := fun b => b < w.heap.size ∨ b = w.heap.size ∨ b = w.heap.size + 1) Ty.flat_byte o3).rep' (fun b hb h => by have h9 := HA2.out.lt hb; simp at h9; omega))
    · try simp only [List.getElem_toArray, List.getElem_cons_succ, List.getElem_cons_zero]
      go_simp
      refine hK.out _ _ ?_ (fun hHeld => ?_)
      · (go_keep)
      clear hK K
      try simp only [Act.put, List.getElem_toArray, List.getElem_cons_succ, List.getElem_cons_zero, List.setIfInBounds_toArray, List.set_cons_zero, List.set_cons_succ]
      refine wpAnyH_ready (rs := [2]) (by kernel_rfl) (by simp) ?_
      refine AllReadyH.cons rfl (fun K hK => ?_) AllReadyH.nil
      try simp only [List.getElem_toArray, List.getElem_cons_succ, List.getElem_cons_zero]
      go_simp
      first | (go_at_call 59; refine (Clone_ _ (ovM X lb mb va) _ _ (Ty.step _ HK.out (by (repeat (first | exact Step.refl _ | refine Step.alloc ?_ _ | refine Step.drew ?_ | refine Step.drewN ?_ _ | refine Step.setCell ?_ (by first | exact Nat.le_refl _ | assumption | omega | (simp; done) | (simp; omega)) _ | assumption | refine Step.trans ?_ (by assumption : Step _ _)))))).mono ?_; rintro e2 w2 ⟨v2, rfl, hA2, hS2⟩; obtain ⟨b2, m2, rfl⟩ := hA2.val; have s2_0 : ∀ j, w2.cell? ⟨w.heap.size, j, none⟩ = _ := fun j => hS2.cell (by first | assumption | omega | (simp; done) | (simp; omega)) j; have z2_0 : w.heap.size < w2.heap.size := Nat.lt_of_lt_of_le (by first | assumption | omega | (simp; done) | (simp; omega)) hS2.size; have f2_1 : ∀ j, w2.frozen? ⟨w.heap.size + 1, j, none⟩ = _ := fun j => hS2.frozen (by first | assumption | omega | (simp; done) | (simp; omega)) j; have s2_1 : ∀ j, w2.cell? ⟨w.heap.size + 1, j, none⟩ = _ := fun j => hS2.cell (by first | assumption | omega | (simp; done) | (simp; omega)) j; have z2_1 : w.heap.size + 1 < w2.heap.size := Nat.lt_of_lt_of_le (by first | assumption | omega | (simp; done) | (simp; omega)) hS2.size; have HA2 := Lib.hid hA2; clear hA2) | (go_at_call 59; refine (Clone_ _ (ovM X lb mb va) _ _ (Ty.step _ HK.out (by (repeat (first | exact Step.refl _ | refine Step.alloc ?_ _ | refine Step.drew ?_ | refine Step.drewN ?_ _ | refine Step.setCell ?_ (by first | exact Nat.le_refl _ | assumption | omega | (simp; done) | (simp; omega)) _ | assumption | refine Step.trans ?_ (by assumption : Step _ _)))))).mono ?_; rintro e2 w2 ⟨v2, rfl, hA2, hS2⟩; obtain ⟨b2, m2, rfl⟩ := hA2.val; have s2_0 : ∀ j, w2.cell? ⟨w.heap.size, j, none⟩ = _ := fun j => hS2.cell (by first | assumption | omega | (simp; done) | (simp; omega)) j; have z2_0 : w.heap.size < w2.heap.size := Nat.lt_of_lt_of_le (by first | assumption | omega | (simp; done) | (simp; omega)) hS2.size; have HA2 := Lib.hid hA2; clear hA2)
      refine hK.out _ _ ?_ (fun hHeld => ?_)
      · (go_keep)
      clear hK K
      try simp only [Act.put, List.getElem_toArray, List.getElem_cons_succ, List.getElem_cons_zero, List.setIfInBounds_toArray, List.set_cons_zero, List.set_cons_succ]
      refine wpAnyH_take (i := 6) (v := ?_) rfl (by kernel_rfl) (by kernel_rfl) (by kernel_rfl) (fun _ _ _ h => h) (Or.inl ⟨by rfl, ?_⟩) (by assumption) ?_
      rotate_left 1
      · (intro w hSw; (try dsimp only at hSw); go_simp; (try with_reducible rfl))
      try simp only [Act.put, List.getElem_toArray, List.getElem_cons_succ, List.getElem_cons_zero, List.setIfInBounds_toArray, List.set_cons_zero, List.set_cons_succ]
      refine wpAnyH_ready (rs := [8]) (by kernel_rfl) (by simp) ?_
      refine AllReadyH.cons rfl (fun K hK => ?_) AllReadyH.nil
      try simp only [List.getElem_toArray, List.getElem_cons_succ, List.getElem_cons_zero]
      go_simp
      refine hK.out _ _ ?_ (fun hHeld => ?_)
      · (go_keep)
      clear hK K
      try simp only [Act.put, List.getElem_toArray, List.getElem_cons_succ, List.getElem_cons_zero, List.setIfInBounds_toArray, List.set_cons_zero, List.set_cons_succ]
      refine wpAnyH_done (by kernel_rfl) ?_ _
      go_wp2_with fail
      go_meet
      case rel =>
        first
        | exact ⟨w2.heap.size, b2, m2, rfl, CellsAt.new rfl, (Own.alloc (Own.flat (M' := fun b => b < w.heap.size ∨ b = w.heap.size ∨ b = w2.heap.size) Ty.flat_byte HA2.out) _).rep' (fun b hb h => by have h9 := HA2.out.lt hb; simp at h9; omega), by (repeat (first | exact Step.refl _ | refine Step.alloc ?_ _ | refine Step.drew ?_ | refine Step.drewN ?_ _ | refine Step.setCell ?_ (by first | exact Nat.le_refl _ | assumption | omega | (simp; done) | (simp; omega)) _ | assumption | refine Step.trans ?_ (by assumption : Step _ _))), by have := hS2.size; simp at this; omega⟩
        | (have c0 : CellsAt w2 (w.heap.size + 1) #[.slice none 0 0, .slice none 0 0, .bool false] 74 := CellsAt.step (w := World.drew (World.alloc (World.alloc w _) _)) (show CellsAt (World.alloc (World.alloc w _) _) _ _ _ from CellsAt.new (by simp)) hS2
           refine ⟨w.heap.size + 1, b2, m2, rfl, CellsAt.set (CellsAt.set (CellsAt.set c0 0 _) 1 _) 2 _, ?_, by (repeat (first | exact Step.refl _ | refine Step.alloc ?_ _ | refine Step.drew ?_ | refine Step.drewN ?_ _ | refine Step.setCell ?_ (by first | exact Nat.le_refl _ | assumption | omega | (simp; done) | (simp; omega)) _ | assumption | refine Step.trans ?_ (by assumption : Step _ _))), by omega⟩
           have o1 := Own.set (p := ⟨w.heap.size + 1, 0, none⟩) (M := (· = w.heap.size + 1)) (Own.flat Ty.flat_byte HA2.out) rfl (by simp) (Value.slice b2 key.length m2)
           have o2 := Own.set (p := ⟨w.heap.size + 1, 1, none⟩) (M := (· = w.heap.size + 1)) o1 rfl (by simp) (Value.slice none 0 0)
           have o3 := Own.set (p := ⟨w.heap.size + 1, 2, none⟩) (M := (· = w.heap.size + 1)) o2 rfl (by simp) (Value.bool false)
           exact (Own.flat (M' := fun b => b < w.heap.size ∨ b = w.heap.size ∨ b = w.heap.size + 1) Ty.flat_byte o3).rep' (fun b hb h => by have h9 := HA2.out.lt hb; simp at h9; omega))
  case rest =>
    obtain ⟨b6, a6, c6, rfl, hC6, hK6, hS6, hb6⟩ := hcut
    refine open_kk2 (by assumption) ?_
    have hbox := (CellsAt.new (w := w) (cs := #[.int .i64 2, .slice ka key.length kc, .slice va' value.length vc, .int .i64 mo]) (e := 72) rfl).step hS6
    have hSc : Step w wc := ((Step.refl w).alloc _).trans hS6
    have x1 : wc.cell? ⟨w.heap.size, 1, none⟩ = some (.slice ka key.length kc) := hbox.cell 1
    have x2 : wc.cell? ⟨w.heap.size, 2, none⟩ = some (.slice va' value.length vc) := hbox.cell 2
    have q2 : wc.cell? ⟨b6, 2, none⟩ = some (.bool false) := hC6.cell 2
    have q1 : wc.cell? ⟨b6, 1, none⟩ = some (.slice none 0 0) := hC6.cell 1
    have f1 : wc.frozen? ⟨b6, 1, none⟩ = false := hC6.frozen 1
    have hb6l := hC6.lt
    have HC6 := Lib.hid hC6
    have HK6 := Lib.hid hK6
    have HSc := Lib.hid hSc
    have HBX := Lib.hid hbox
    have hzc := hSc.size
    clear hC6 hK6 hS6 hbox
    have HVc := Lib.hid (Ty.step _ HV.out hSc)
    go_upto_region 7 with (go_at_call 59; refine (Clone_ _ (ovM X lb mb va) _ _ (Ty.step _ HVc.out (by (repeat (first | exact Step.refl _ | refine Step.alloc ?_ _ | refine Step.drew ?_ | refine Step.drewN ?_ _ | refine Step.setCell ?_ (by first | exact Nat.le_refl _ | assumption | omega | (simp; done) | (simp; omega)) _ | assumption | refine Step.trans ?_ (by assumption : Step _ _)))))).mono ?_; rintro e8 w8 ⟨v8, rfl, hA8, hS8⟩; obtain ⟨b8, m8, rfl⟩ := hA8.val; have f8_0 : ∀ j, w8.frozen? ⟨b6, j, none⟩ = _ := fun j => hS8.frozen (by first | assumption | omega | (simp; done) | (simp; omega)) j; have s8_0 : ∀ j, w8.cell? ⟨b6, j, none⟩ = _ := fun j => hS8.cell (by first | assumption | omega | (simp; done) | (simp; omega)) j; have z8_0 : b6 < w8.heap.size := Nat.lt_of_lt_of_le (by first | assumption | omega | (simp; done) | (simp; omega)) hS8.size; have s8_1 : ∀ j, w8.cell? ⟨w.heap.size, j, none⟩ = _ := fun j => hS8.cell (by first | assumption | omega | (simp; done) | (simp; omega)) j; have z8_1 : w.heap.size < w8.heap.size := Nat.lt_of_lt_of_le (by first | assumption | omega | (simp; done) | (simp; omega)) hS8.size; have HA8 := Lib.hid hA8; clear hA8)
    refine wp_code (fun wx => CellsAt wx b6 #[.slice a6 key.length c6, .slice b8 value.length m8, .bool false] 74 ∧ Ty.bytes.rep wx (fun b => b < w.heap.size ∨ b = w.heap.size ∨ b = b6) [.slice a6 key.length c6] key ∧ Ty.bytes.rep wx (fun b => b < w.heap.size ∨ b = w.heap.size ∨ b = b6) [.slice b8 value.length m8] value ∧ Step w wx ∧ wx.cell? ⟨w.heap.size, 1, none⟩ = some (.slice ka key.length kc)) ?_ ?_
    · have hne : w.heap.size ≠ b6 := by omega
      refine ⟨CellsAt.set (HC6.out.step hS8) 1 _, Ty.kept _ (Ty.step _ HK6.out hS8) (Kept.setCell _ _ _ (.inr (.inr rfl))), ?_, (HSc.out.trans hS8).setCell (by show w.heap.size ≤ b6; omega) _, (cell_eq (heap_setCell_other _ _ _ _ (show w.heap.size ≠ b6 from hne))).trans ((CellsAt.step HBX.out hS8).cell 1)⟩
      have o1 := Own.set (p := ⟨b6, 1, none⟩) (M := (· = b6)) (Own.flat Ty.flat_byte HA8.out) rfl (by show b6 < _; omega) (Value.slice b8 value.length m8)
      exact (Own.flat (M' := fun b => b < w.heap.size ∨ b = w.heap.size ∨ b = b6) Ty.flat_byte o1).rep' (fun b hb h => by have h9 := HA8.out.lt hb; omega)
    rintro w9 ⟨hC9, hK9, hV9, hS9, hx1⟩
    have HC9 := Lib.hid hC9
    have HK9 := Lib.hid hK9
    have HV9 := Lib.hid hV9
    have HS9 := Lib.hid hS9
    have HX1 := Lib.hid hx1
    clear hC9 hK9 hV9 hS9 hx1 HA8 s8_0 s8_1 f8_0 z8_0 z8_1 hSc
    obtain ⟨a8, ha8⟩ : ∃ a, a = b8 := ⟨_, rfl⟩
    obtain ⟨c8, hc8⟩ : ∃ a, a = m8 := ⟨_, rfl⟩
    subst ha8 hc8
    have h0 : w9.cell? ⟨vb, 1, none⟩ = some (.map (some mb)) := (HS9.out.cell hvb 1).trans (H.out.ov.cell 1)
    have h1 := HX1.out
    have h2 : w9.cell? ⟨b6, 0, none⟩ = some (.slice a6 key.length c6) := HC9.out.cell 0
    have h3 : w9.cell? ⟨b6, 1, none⟩ = some (.slice a8 value.length c8) := HC9.out.cell 1
    have h4 : w9.cell? ⟨b6, 2, none⟩ = some (.bool false) := HC9.out.cell 2
    have hcv := fun (W : World) (hW : Step w W) => conv_str (src := 42) (e := 5) (dst := 9) (Ty.step _ HK.out hW) Try.underlying42 Try.underlying5 Try.underlying9
    have HCV := Lib.hid hcv
    have hcv9 := hcv w9 HS9.out
    have hcvd := hcv w9.drew HS9.out.drew
    have HMP := Lib.hid (H.out.step HS9.out).map
    have hMl : ∀ b, ovM X lb mb va b → b < w.heap.size := fun b h => by
      rcases h with h | h | h | h
      · exact H.out.xs b h
      · omega
      · omega
      · exact (H.out.own.lt h).2
    have hwx : wrR w9 (ovM X lb mb va) (.agg #[.slice a6 key.length c6, .slice a8 value.length c8, .bool false]) ⟨key, value, false⟩ := ⟨_, rfl, _, _, rfl, Ty.less _ HK9.out (fun b _ h => .inl (hMl b h)), Ty.less _ HV9.out (fun b _ h => .inl (hMl b h))⟩
    have HWX := Lib.hid hwx
    have hkm := lim_max hkl
    have hwn : ws.length < maxLen := Nat.lt_of_le_of_lt hws (by decide)
    clear hcv hMl hwx x1 x2 q1 q2 f1
    have hst : Step w w9 := HS9.out
    refine wp_region_cut (S := (fun w' => w'.cell? ⟨vb, 1, none⟩ = some (.map (some mb)) ∧ w'.cell? ⟨w.heap.size, 1, none⟩ = some (.slice ka key.length kc) ∧ w'.cell? ⟨b6, 0, none⟩ = some (.slice a6 key.length c6) ∧ w'.cell? ⟨b6, 1, none⟩ = some (.slice a8 value.length c8) ∧ w'.cell? ⟨b6, 2, none⟩ = some (.bool false) ∧ (convert 42 9 (.slice ka key.length kc)).run Try.prog w' = .ok (encStr key) w')) 8 (by kernel_rfl) ?_ (fun hHeld => ?_)
    · ((exact ⟨by simpa using h0, by simpa using h1, by simpa using h2, by simpa using h3, by simpa using h4, hcvd⟩))
    refine wpAnyC_take (i := 0) (v := ?_) rfl (by kernel_rfl) (by kernel_rfl) (by kernel_rfl) (by decide) [1, 2, 3, 8] (by kernel_rfl) (fun _ _ _ h => h) (Or.inl ⟨by rfl, ?_⟩) (by assumption) ?_
    rotate_left 1
    · (intro w hSw; (try dsimp only at hSw); go_simp; (try with_reducible rfl))
    try simp only [Act.put, List.getElem_toArray, List.getElem_cons_succ, List.getElem_cons_zero, List.setIfInBounds_toArray, List.set_cons_zero, List.set_cons_succ]
    refine wpAnyC_take (i := 1) (v := ?_) rfl (by kernel_rfl) (by kernel_rfl) (by kernel_rfl) (by decide) [2, 3, 8] (by kernel_rfl) (fun _ _ _ h => h) (Or.inl ⟨by rfl, ?_⟩) (by assumption) ?_
    rotate_left 1
    · (intro w hSw; (try dsimp only at hSw); go_simp; (try with_reducible rfl))
    try simp only [Act.put, List.getElem_toArray, List.getElem_cons_succ, List.getElem_cons_zero, List.setIfInBounds_toArray, List.set_cons_zero, List.set_cons_succ]
    refine wpAnyC_take (i := 2) (v := ?_) rfl (by kernel_rfl) (by kernel_rfl) (by kernel_rfl) (by decide) [3, 8] (by kernel_rfl) (fun _ _ _ h => h) (Or.inl ⟨by rfl, ?_⟩) (by assumption) ?_
    rotate_left 1
    · (intro w hSw; (try dsimp only at hSw); go_simp; (try with_reducible rfl))
    try simp only [Act.put, List.getElem_toArray, List.getElem_cons_succ, List.getElem_cons_zero, List.setIfInBounds_toArray, List.set_cons_zero, List.set_cons_succ]
    refine wpAnyC_take (i := 3) (v := ?_) rfl (by kernel_rfl) (by kernel_rfl) (by kernel_rfl) (by decide) [8] (by kernel_rfl) (fun _ _ _ h => h) (Or.inl ⟨by rfl, ?_⟩) (by assumption) ?_
    rotate_left 1
    · (intro w hSw; (try dsimp only at hSw); go_simp; (try with_reducible rfl))
    try simp only [Act.put, List.getElem_toArray, List.getElem_cons_succ, List.getElem_cons_zero, List.setIfInBounds_toArray, List.set_cons_zero, List.set_cons_succ]
    refine wpAnyC_take (i := 4) (v := ?_) rfl (by kernel_rfl) (by kernel_rfl) (by kernel_rfl) (by decide) [5, 6, 8] (by kernel_rfl) (fun _ _ _ h => h) (Or.inl ⟨by rfl, ?_⟩) (by assumption) ?_
    rotate_left 1
    · (intro w hSw; (try dsimp only at hSw); go_simp; (try with_reducible rfl))
    try simp only [Act.put, List.getElem_toArray, List.getElem_cons_succ, List.getElem_cons_zero, List.setIfInBounds_toArray, List.set_cons_zero, List.set_cons_succ]
    refine wpAnyC_take (i := 5) (v := ?_) rfl (by kernel_rfl) (by kernel_rfl) (by kernel_rfl) (by decide) [6, 8] (by kernel_rfl) (fun _ _ _ h => h) (Or.inl ⟨by rfl, ?_⟩) (by assumption) ?_
    rotate_left 1
    · (intro w hSw; (try dsimp only at hSw); go_simp; (try with_reducible rfl))
    try simp only [Act.put, List.getElem_toArray, List.getElem_cons_succ, List.getElem_cons_zero, List.setIfInBounds_toArray, List.set_cons_zero, List.set_cons_succ]
    refine wpAnyC_take (i := 6) (v := ?_) rfl (by kernel_rfl) (by kernel_rfl) (by kernel_rfl) (by decide) [8] (by kernel_rfl) (fun _ _ _ h => h) (Or.inl ⟨by rfl, ?_⟩) (by assumption) ?_
    rotate_left 1
    · (intro w hSw; (try dsimp only at hSw); go_simp; (try with_reducible rfl))
    try simp only [Act.put, List.getElem_toArray, List.getElem_cons_succ, List.getElem_cons_zero, List.setIfInBounds_toArray, List.set_cons_zero, List.set_cons_succ]
    refine wpAnyC_take (i := 7) (v := ?_) rfl (by kernel_rfl) (by kernel_rfl) (by kernel_rfl) (by decide) [8] (by kernel_rfl) (fun _ _ _ h => h) (Or.inl ⟨by rfl, ?_⟩) (by assumption) ?_
    rotate_left 1
    · (intro w hSw; (try dsimp only at hSw); go_simp; (try with_reducible rfl))
    try simp only [Act.put, List.getElem_toArray, List.getElem_cons_succ, List.getElem_cons_zero, List.setIfInBounds_toArray, List.set_cons_zero, List.set_cons_succ]
    refine wpAnyC_ready (rs := [8]) (by kernel_rfl) (by simp) ?_
    refine AllReadyC.cut rfl (fun K hK => ?_)
    try simp only [List.getElem_toArray, List.getElem_cons_succ, List.getElem_cons_zero]
    refine ite_then rfl ?_; refine wp_mapUpdate_R (x := (⟨key, value, false⟩ : DWrite)) keep_wrR (.tmp 31) (.tmp 34) (.tmp 35) rfl (HMP.out.step keep_wrR (by (repeat (first | exact Step.refl _ | refine Step.alloc ?_ _ | refine Step.drew ?_ | refine Step.drewN ?_ _ | refine Step.setCell ?_ (by first | exact Nat.le_refl _ | assumption | omega | (simp; done) | (simp; omega)) _ | assumption | refine Step.trans ?_ (by assumption : Step _ _))))) Try.underlying9 Try.underlying125 hwn hkm (keep_wrR.keep HWX.out (fun c h1 h2 => ⟨rfl, h2⟩)) (.inr (.inr (.inl rfl))) rfl rfl rfl ?_; intro w10 hm10 hg10; have HM10 := Lib.hid hm10; clear hm10
    refine hK.out _ _ trivial (fun hHeld => ?_)
    clear hK K
    try simp only [Act.put, List.getElem_toArray, List.getElem_cons_succ, List.getElem_cons_zero, List.setIfInBounds_toArray, List.set_cons_zero, List.set_cons_succ]
    have hTrue : True := trivial
    refine wpAnyH_done (by kernel_rfl) ?_ _
    have hSWc : Step w w9 := HS9.out
    go_wp2
    go_ret2
    exact ⟨rfl, OvAt.put (H.out.step (by (repeat (first | exact Step.refl _ | refine Step.alloc ?_ _ | refine Step.drew ?_ | refine Step.drewN ?_ _ | refine Step.setCell ?_ (by first | exact Nat.le_refl _ | assumption | omega | (simp; done) | (simp; omega)) _ | assumption | refine Step.trans ?_ (by assumption : Step _ _))))) HM10.out hg10, (Turn.of (by (repeat (first | exact Step.refl _ | refine Step.alloc ?_ _ | refine Step.drew ?_ | refine Step.drewN ?_ _ | refine Step.setCell ?_ (by first | exact Nat.le_refl _ | assumption | omega | (simp; done) | (simp; omega)) _ | assumption | refine Step.trans ?_ (by assumption : Step _ _))))).grown hg10 (fun q e _ => by simpa using e.symm)⟩
set_option maxRecDepth 100000 in
set_option maxHeartbeats 4000000 in
theorem ovDoDel_ {X : Nat → Prop} {w : World} {lb vb mb B : Nat} {vp va : Value} {rs : List (List Value)} {P : List DPair} {ws : List DWrite} {mo : Int} {kv vv : Value} {key value : List UInt8} (h : OvAt X w lb vb mb B vp va rs P ws) (hk : Ty.bytes.rep w (ovM X lb mb va) [kv] key) (hv : Ty.bytes.rep w (ovM X lb mb va) [vv] value) (hws : ws.length ≤ 999) :
    Calls Try.prog 60 #[.pointer (some ⟨vb, 0, none⟩), .agg #[.int .i64 3, kv, vv, .int .i64 mo]] w fun e w' => e = .returned (.tuple #[.slice none 0 0, .int .i64 0]) ∧
      OvAt X w' lb vb mb B vp va rs P (putK DWrite.key ⟨key, [], true⟩ ws) ∧ Turn (fun b => b = mb) w w' := by
  obtain ⟨ka, kc, rfl, _, _, hkl⟩ := Ty.slice_val hk
  obtain ⟨va', vc, rfl, _⟩ := Ty.slice_val hv
  have hvb := h.ov.lt
  have hmb := h.map.lt
  have hlb := CellsAt.lt h.ls
  have H := Lib.hid h
  have HK := Lib.hid hk
  have HV := Lib.hid hv
  have hvm := h.vm
  clear h hk hv
  go_enter Try.func60, Try.ntmps60
  go_upto_region 4 with fail
  go_cut [6] (fun s6 wx => ∃ (b6 : Nat) (a6 : Option Addr) (c6 : Nat), s6 = .pointer (some ⟨b6, 0, none⟩) ∧ CellsAt wx b6 #[.slice a6 key.length c6, .slice none 0 0, .bool true] 74 ∧ Ty.bytes.rep wx (fun b => b < w.heap.size ∨ b = w.heap.size ∨ b = b6) [.slice a6 key.length c6] key ∧ Step (w.alloc (.cells #[.int .i64 3, .slice ka key.length kc, .slice va' value.length vc, .int .i64 mo] 72)) wx ∧ w.heap.size < b6)
  case first =>
    refine wp_region_held_drew (S := (fun w' => w'.cell? ⟨w.heap.size, 0, none⟩ = some (.int .i64 3) ∧ w'.cell? ⟨w.heap.size, 1, none⟩ = some (.slice ka key.length kc))) (by kernel_rfl) ?_ (fun hHeld => ?_)
    · (go_keep)
    refine wpAnyH_take (i := 0) (v := ?_) rfl (by kernel_rfl) (by kernel_rfl) (by kernel_rfl) (fun _ _ _ h => h) (Or.inl ⟨by rfl, ?_⟩) (by assumption) ?_
    rotate_left 1
    · (intro w hSw; (try dsimp only at hSw); go_simp; (try with_reducible rfl))
    try simp only [Act.put, List.getElem_toArray, List.getElem_cons_succ, List.getElem_cons_zero, List.setIfInBounds_toArray, List.set_cons_zero, List.set_cons_succ]
    refine wpAnyH_take (i := 1) (v := ?_) rfl (by kernel_rfl) (by kernel_rfl) (by kernel_rfl) (fun _ _ _ h => h) (Or.inl ⟨by rfl, ?_⟩) (by assumption) ?_
    rotate_left 1
    · (intro w hSw; (try dsimp only at hSw); go_simp; (try with_reducible rfl))
    try simp only [Act.put, List.getElem_toArray, List.getElem_cons_succ, List.getElem_cons_zero, List.setIfInBounds_toArray, List.set_cons_zero, List.set_cons_succ]
    refine wpAnyH_take (i := 3) (v := ?_) rfl (by kernel_rfl) (by kernel_rfl) (by kernel_rfl) (fun _ _ _ h => h) (Or.inl ⟨by rfl, ?_⟩) (by assumption) ?_
    rotate_left 1
    · (intro w hSw; (try dsimp only at hSw); go_simp; (try with_reducible rfl))
    try simp only [Act.put, List.getElem_toArray, List.getElem_cons_succ, List.getElem_cons_zero, List.setIfInBounds_toArray, List.set_cons_zero, List.set_cons_succ]
    refine wpAnyH_take (i := 4) (v := ?_) rfl (by kernel_rfl) (by kernel_rfl) (by kernel_rfl) (fun _ _ _ h => h) (Or.inl ⟨by rfl, ?_⟩) (by assumption) ?_
    rotate_left 1
    · (intro w hSw; (try dsimp only at hSw); go_simp; (try with_reducible rfl))
    try simp only [Act.put, List.getElem_toArray, List.getElem_cons_succ, List.getElem_cons_zero, List.setIfInBounds_toArray, List.set_cons_zero, List.set_cons_succ]
    refine wpAnyH_take (i := 5) (v := ?_) rfl (by kernel_rfl) (by kernel_rfl) (by kernel_rfl) (fun _ _ _ h => h) (Or.inl ⟨by rfl, ?_⟩) (by assumption) ?_
    rotate_left 1
    · (intro w hSw; (try dsimp only at hSw); go_simp; (try with_reducible rfl))
    try simp only [Act.put, List.getElem_toArray, List.getElem_cons_succ, List.getElem_cons_zero, List.setIfInBounds_toArray, List.set_cons_zero, List.set_cons_succ]
    refine wpAnyH_ready (rs := [2, 7]) (by kernel_rfl) (by simp) ?_
    refine AllReadyH.cons rfl (fun K hK => ?_) (AllReadyH.cons rfl (fun K hK => ?_) AllReadyH.nil)
    · try simp only [List.getElem_toArray, List.getElem_cons_succ, List.getElem_cons_zero]
      go_simp
      first | (go_at_call 59; refine (Clone_ _ (ovM X lb mb va) _ _ (Ty.step _ HK.out (by (repeat (first | exact Step.refl _ | refine Step.alloc ?_ _ | refine Step.drew ?_ | refine Step.drewN ?_ _ | refine Step.setCell ?_ (by first | exact Nat.le_refl _ | assumption | omega | (simp; done) | (simp; omega)) _ | assumption | refine Step.trans ?_ (by assumption : Step _ _)))))).mono ?_; rintro e2 w2 ⟨v2, rfl, hA2, hS2⟩; obtain ⟨b2, m2, rfl⟩ := hA2.val; have s2_0 : ∀ j, w2.cell? ⟨w.heap.size, j, none⟩ = _ := fun j => hS2.cell (by first | assumption | omega | (simp; done) | (simp; omega)) j; have z2_0 : w.heap.size < w2.heap.size := Nat.lt_of_lt_of_le (by first | assumption | omega | (simp; done) | (simp; omega)) hS2.size; have f2_1 : ∀ j, w2.frozen? ⟨w.heap.size + 1, j, none⟩ = _ := fun j => hS2.frozen (by first | assumption | omega | (simp; done) | (simp; omega)) j; have s2_1 : ∀ j, w2.cell? ⟨w.heap.size + 1, j, none⟩ = _ := fun j => hS2.cell (by first | assumption | omega | (simp; done) | (simp; omega)) j; have z2_1 : w.heap.size + 1 < w2.heap.size := Nat.lt_of_lt_of_le (by first | assumption | omega | (simp; done) | (simp; omega)) hS2.size; have HA2 := Lib.hid hA2; clear hA2) | (go_at_call 59; refine (Clone_ _ (ovM X lb mb va) _ _ (Ty.step _ HK.out (by (repeat (first | exact Step.refl _ | refine Step.alloc ?_ _ | refine Step.drew ?_ | refine Step.drewN ?_ _ | refine Step.setCell ?_ (by first | exact Nat.le_refl _ | assumption | omega | (simp; done) | (simp; omega)) _ | assumption | refine Step.trans ?_ (by assumption : Step _ _)))))).mono ?_; rintro e2 w2 ⟨v2, rfl, hA2, hS2⟩; obtain ⟨b2, m2, rfl⟩ := hA2.val; have s2_0 : ∀ j, w2.cell? ⟨w.heap.size, j, none⟩ = _ := fun j => hS2.cell (by first | assumption | omega | (simp; done) | (simp; omega)) j; have z2_0 : w.heap.size < w2.heap.size := Nat.lt_of_lt_of_le (by first | assumption | omega | (simp; done) | (simp; omega)) hS2.size; have HA2 := Lib.hid hA2; clear hA2)
      refine hK.out _ _ ?_ (fun hHeld => ?_)
      · (go_keep)
      clear hK K
      try simp only [Act.put, List.getElem_toArray, List.getElem_cons_succ, List.getElem_cons_zero, List.setIfInBounds_toArray, List.set_cons_zero, List.set_cons_succ]
      refine wpAnyH_take (i := 6) (v := ?_) rfl (by kernel_rfl) (by kernel_rfl) (by kernel_rfl) (fun _ _ _ h => h) (Or.inl ⟨by rfl, ?_⟩) (by assumption) ?_
      rotate_left 1
      · (intro w hSw; (try dsimp only at hSw); go_simp; (try with_reducible rfl))
      try simp only [Act.put, List.getElem_toArray, List.getElem_cons_succ, List.getElem_cons_zero, List.setIfInBounds_toArray, List.set_cons_zero, List.set_cons_succ]
      refine wpAnyH_ready (rs := [7]) (by kernel_rfl) (by simp) ?_
      refine AllReadyH.cons rfl (fun K hK => ?_) AllReadyH.nil
      try simp only [List.getElem_toArray, List.getElem_cons_succ, List.getElem_cons_zero]
      go_simp
      refine hK.out _ _ ?_ (fun hHeld => ?_)
      · (go_keep)
      clear hK K
      try simp only [Act.put, List.getElem_toArray, List.getElem_cons_succ, List.getElem_cons_zero, List.setIfInBounds_toArray, List.set_cons_zero, List.set_cons_succ]
      refine wpAnyH_ready (rs := [8]) (by kernel_rfl) (by simp) ?_
      refine AllReadyH.cons rfl (fun K hK => ?_) AllReadyH.nil
      try simp only [List.getElem_toArray, List.getElem_cons_succ, List.getElem_cons_zero]
      go_simp
      refine hK.out _ _ ?_ (fun hHeld => ?_)
      · (go_keep)
      clear hK K
      try simp only [Act.put, List.getElem_toArray, List.getElem_cons_succ, List.getElem_cons_zero, List.setIfInBounds_toArray, List.set_cons_zero, List.set_cons_succ]
      refine wpAnyH_done (by kernel_rfl) ?_ _
      go_wp2_with fail
      go_meet
      case rel =>
        first
        | exact ⟨w2.heap.size, b2, m2, rfl, CellsAt.new rfl, (Own.alloc (Own.flat (M' := fun b => b < w.heap.size ∨ b = w.heap.size ∨ b = w2.heap.size) Ty.flat_byte HA2.out) _).rep' (fun b hb h => by have h9 := HA2.out.lt hb; simp at h9; omega), by (repeat (first | exact Step.refl _ | refine Step.alloc ?_ _ | refine Step.drew ?_ | refine Step.drewN ?_ _ | refine Step.setCell ?_ (by first | exact Nat.le_refl _ | assumption | omega | (simp; done) | (simp; omega)) _ | assumption | refine Step.trans ?_ (by assumption : Step _ _))), by have := hS2.size; simp at this; omega⟩
        | (have c0 : CellsAt w2 (w.heap.size + 1) #[.slice none 0 0, .slice none 0 0, .bool false] 74 := CellsAt.step (w := World.drew (World.alloc (World.alloc w _) _)) (show CellsAt (World.alloc (World.alloc w _) _) _ _ _ from CellsAt.new (by simp)) hS2
           refine ⟨w.heap.size + 1, b2, m2, rfl, CellsAt.set (CellsAt.set (CellsAt.set c0 0 _) 1 _) 2 _, ?_, by (repeat (first | exact Step.refl _ | refine Step.alloc ?_ _ | refine Step.drew ?_ | refine Step.drewN ?_ _ | refine Step.setCell ?_ (by first | exact Nat.le_refl _ | assumption | omega | (simp; done) | (simp; omega)) _ | assumption | refine Step.trans ?_ (by assumption : Step _ _))), by omega⟩
           have o1 := Own.set (p := ⟨w.heap.size + 1, 0, none⟩) (M := (· = w.heap.size + 1)) (Own.flat Ty.flat_byte HA2.out) rfl (by simp) (Value.slice b2 key.length m2)
           have o2 := Own.set (p := ⟨w.heap.size + 1, 1, none⟩) (M := (· = w.heap.size + 1)) o1 rfl (by simp) (Value.slice none 0 0)
           have o3 := Own.set (p := ⟨w.heap.size + 1, 2, none⟩) (M := (· = w.heap.size + 1)) o2 rfl (by simp) (Value.bool true)
           exact (Own.flat (M' := fun b => b < w.heap.size ∨ b = w.heap.size ∨ b = w.heap.size + 1) Ty.flat_byte o3).rep' (fun b hb h => by have h9 := HA2.out.lt hb; simp at h9; omega))
    · try simp only [List.getElem_toArray, List.getElem_cons_succ, List.getElem_cons_zero]
      go_simp
      refine hK.out _ _ ?_ (fun hHeld => ?_)
      · (go_keep)
      clear hK K
      try simp only [Act.put, List.getElem_toArray, List.getElem_cons_succ, List.getElem_cons_zero, List.setIfInBounds_toArray, List.set_cons_zero, List.set_cons_succ]
      refine wpAnyH_ready (rs := [2]) (by kernel_rfl) (by simp) ?_
      refine AllReadyH.cons rfl (fun K hK => ?_) AllReadyH.nil
      try simp only [List.getElem_toArray, List.getElem_cons_succ, List.getElem_cons_zero]
      go_simp
      first | (go_at_call 59; refine (Clone_ _ (ovM X lb mb va) _ _ (Ty.step _ HK.out (by (repeat (first | exact Step.refl _ | refine Step.alloc ?_ _ | refine Step.drew ?_ | refine Step.drewN ?_ _ | refine Step.setCell ?_ (by first | exact Nat.le_refl _ | assumption | omega | (simp; done) | (simp; omega)) _ | assumption | refine Step.trans ?_ (by assumption : Step _ _)))))).mono ?_; rintro e2 w2 ⟨v2, rfl, hA2, hS2⟩; obtain ⟨b2, m2, rfl⟩ := hA2.val; have s2_0 : ∀ j, w2.cell? ⟨w.heap.size, j, none⟩ = _ := fun j => hS2.cell (by first | assumption | omega | (simp; done) | (simp; omega)) j; have z2_0 : w.heap.size < w2.heap.size := Nat.lt_of_lt_of_le (by first | assumption | omega | (simp; done) | (simp; omega)) hS2.size; have f2_1 : ∀ j, w2.frozen? ⟨w.heap.size + 1, j, none⟩ = _ := fun j => hS2.frozen (by first | assumption | omega | (simp; done) | (simp; omega)) j; have s2_1 : ∀ j, w2.cell? ⟨w.heap.size + 1, j, none⟩ = _ := fun j => hS2.cell (by first | assumption | omega | (simp; done) | (simp; omega)) j; have z2_1 : w.heap.size + 1 < w2.heap.size := Nat.lt_of_lt_of_le (by first | assumption | omega | (simp; done) | (simp; omega)) hS2.size; have HA2 := Lib.hid hA2; clear hA2) | (go_at_call 59; refine (Clone_ _ (ovM X lb mb va) _ _ (Ty.step _ HK.out (by (repeat (first | exact Step.refl _ | refine Step.alloc ?_ _ | refine Step.drew ?_ | refine Step.drewN ?_ _ | refine Step.setCell ?_ (by first | exact Nat.le_refl _ | assumption | omega | (simp; done) | (simp; omega)) _ | assumption | refine Step.trans ?_ (by assumption : Step _ _)))))).mono ?_; rintro e2 w2 ⟨v2, rfl, hA2, hS2⟩; obtain ⟨b2, m2, rfl⟩ := hA2.val; have s2_0 : ∀ j, w2.cell? ⟨w.heap.size, j, none⟩ = _ := fun j => hS2.cell (by first | assumption | omega | (simp; done) | (simp; omega)) j; have z2_0 : w.heap.size < w2.heap.size := Nat.lt_of_lt_of_le (by first | assumption | omega | (simp; done) | (simp; omega)) hS2.size; have HA2 := Lib.hid hA2; clear hA2)
      refine hK.out _ _ ?_ (fun hHeld => ?_)
      · (go_keep)
      clear hK K
      try simp only [Act.put, List.getElem_toArray, List.getElem_cons_succ, List.getElem_cons_zero, List.setIfInBounds_toArray, List.set_cons_zero, List.set_cons_succ]
      refine wpAnyH_take (i := 6) (v := ?_) rfl (by kernel_rfl) (by kernel_rfl) (by kernel_rfl) (fun _ _ _ h => h) (Or.inl ⟨by rfl, ?_⟩) (by assumption) ?_
      rotate_left 1
      · (intro w hSw; (try dsimp only at hSw); go_simp; (try with_reducible rfl))
      try simp only [Act.put, List.getElem_toArray, List.getElem_cons_succ, List.getElem_cons_zero, List.setIfInBounds_toArray, List.set_cons_zero, List.set_cons_succ]
      refine wpAnyH_ready (rs := [8]) (by kernel_rfl) (by simp) ?_
      refine AllReadyH.cons rfl (fun K hK => ?_) AllReadyH.nil
      try simp only [List.getElem_toArray, List.getElem_cons_succ, List.getElem_cons_zero]
      go_simp
      refine hK.out _ _ ?_ (fun hHeld => ?_)
      · (go_keep)
      clear hK K
      try simp only [Act.put, List.getElem_toArray, List.getElem_cons_succ, List.getElem_cons_zero, List.setIfInBounds_toArray, List.set_cons_zero, List.set_cons_succ]
      refine wpAnyH_done (by kernel_rfl) ?_ _
      go_wp2_with fail
      go_meet
      case rel =>
        first
        | exact ⟨w2.heap.size, b2, m2, rfl, CellsAt.new rfl, (Own.alloc (Own.flat (M' := fun b => b < w.heap.size ∨ b = w.heap.size ∨ b = w2.heap.size) Ty.flat_byte HA2.out) _).rep' (fun b hb h => by have h9 := HA2.out.lt hb; simp at h9; omega), by (repeat (first | exact Step.refl _ | refine Step.alloc ?_ _ | refine Step.drew ?_ | refine Step.drewN ?_ _ | refine Step.setCell ?_ (by first | exact Nat.le_refl _ | assumption | omega | (simp; done) | (simp; omega)) _ | assumption | refine Step.trans ?_ (by assumption : Step _ _))), by have := hS2.size; simp at this; omega⟩
        | (have c0 : CellsAt w2 (w.heap.size + 1) #[.slice none 0 0, .slice none 0 0, .bool false] 74 := CellsAt.step (w := World.drew (World.alloc (World.alloc w _) _)) (show CellsAt (World.alloc (World.alloc w _) _) _ _ _ from CellsAt.new (by simp)) hS2
           refine ⟨w.heap.size + 1, b2, m2, rfl, CellsAt.set (CellsAt.set (CellsAt.set c0 0 _) 1 _) 2 _, ?_, by (repeat (first | exact Step.refl _ | refine Step.alloc ?_ _ | refine Step.drew ?_ | refine Step.drewN ?_ _ | refine Step.setCell ?_ (by first | exact Nat.le_refl _ | assumption | omega | (simp; done) | (simp; omega)) _ | assumption | refine Step.trans ?_ (by assumption : Step _ _))), by omega⟩
           have o1 := Own.set (p := ⟨w.heap.size + 1, 0, none⟩) (M := (· = w.heap.size + 1)) (Own.flat Ty.flat_byte HA2.out) rfl (by simp) (Value.slice b2 key.length m2)
           have o2 := Own.set (p := ⟨w.heap.size + 1, 1, none⟩) (M := (· = w.heap.size + 1)) o1 rfl (by simp) (Value.slice none 0 0)
           have o3 := Own.set (p := ⟨w.heap.size + 1, 2, none⟩) (M := (· = w.heap.size + 1)) o2 rfl (by simp) (Value.bool true)
           exact (Own.flat (M' := fun b => b < w.heap.size ∨ b = w.heap.size ∨ b = w.heap.size + 1) Ty.flat_byte o3).rep' (fun b hb h => by have h9 := HA2.out.lt hb; simp at h9; omega))
  case rest =>
    obtain ⟨b6, a6, c6, rfl, hC6, hK6, hS6, hb6⟩ := hcut
    refine open_kk2 (by assumption) ?_
    have hbox := (CellsAt.new (w := w) (cs := #[.int .i64 3, .slice ka key.length kc, .slice va' value.length vc, .int .i64 mo]) (e := 72) rfl).step hS6
    have hSc : Step w wc := ((Step.refl w).alloc _).trans hS6
    have x1 : wc.cell? ⟨w.heap.size, 1, none⟩ = some (.slice ka key.length kc) := hbox.cell 1
    have x2 : wc.cell? ⟨w.heap.size, 2, none⟩ = some (.slice va' value.length vc) := hbox.cell 2
    have q2 : wc.cell? ⟨b6, 2, none⟩ = some (.bool true) := hC6.cell 2
    have q1 : wc.cell? ⟨b6, 1, none⟩ = some (.slice none 0 0) := hC6.cell 1
    have f1 : wc.frozen? ⟨b6, 1, none⟩ = false := hC6.frozen 1
    have hb6l := hC6.lt
    have HC6 := Lib.hid hC6
    have HK6 := Lib.hid hK6
    have HSc := Lib.hid hSc
    have HBX := Lib.hid hbox
    have hzc := hSc.size
    clear hC6 hK6 hS6 hbox
    go_upto_region 7 with fail
    have HC9 := HC6
    have HK9 := HK6
    have HS9 := HSc
    have HX1 := Lib.hid x1
    have HV9 : Hid (Ty.bytes.rep wc (fun b => b < w.heap.size ∨ b = w.heap.size ∨ b = b6) [.slice none 0 0] []) := Lib.hid nil_rep
    obtain ⟨w9, hw9⟩ : ∃ x, x = wc := ⟨_, rfl⟩
    subst hw9
    obtain ⟨a8, ha8⟩ : ∃ a : Option Addr, a = none := ⟨_, rfl⟩
    obtain ⟨c8, hc8⟩ : ∃ a : Nat, a = 0 := ⟨_, rfl⟩
    clear hSc
    have h0 : w9.cell? ⟨vb, 1, none⟩ = some (.map (some mb)) := (HS9.out.cell hvb 1).trans (H.out.ov.cell 1)
    have h1 := HX1.out
    have h2 : w9.cell? ⟨b6, 0, none⟩ = some (.slice a6 key.length c6) := HC9.out.cell 0
    have h3 : w9.cell? ⟨b6, 1, none⟩ = some (.slice none 0 0) := HC9.out.cell 1
    have h4 : w9.cell? ⟨b6, 2, none⟩ = some (.bool true) := HC9.out.cell 2
    have hcv := fun (W : World) (hW : Step w W) => conv_str (src := 42) (e := 5) (dst := 9) (Ty.step _ HK.out hW) Try.underlying42 Try.underlying5 Try.underlying9
    have HCV := Lib.hid hcv
    have hcv9 := hcv w9 HS9.out
    have hcvd := hcv w9.drew HS9.out.drew
    have HMP := Lib.hid (H.out.step HS9.out).map
    have hMl : ∀ b, ovM X lb mb va b → b < w.heap.size := fun b h => by
      rcases h with h | h | h | h
      · exact H.out.xs b h
      · omega
      · omega
      · exact (H.out.own.lt h).2
    have hwx : wrR w9 (ovM X lb mb va) (.agg #[.slice a6 key.length c6, .slice none 0 0, .bool true]) ⟨key, [], true⟩ := ⟨_, rfl, _, _, rfl, Ty.less _ HK9.out (fun b _ h => .inl (hMl b h)), Ty.less _ HV9.out (fun b _ h => .inl (hMl b h))⟩
    have HWX := Lib.hid hwx
    have hkm := lim_max hkl
    have hwn : ws.length < maxLen := Nat.lt_of_le_of_lt hws (by decide)
    clear hcv hMl hwx x1 x2 q1 q2 f1
    have hst : Step w w9 := HS9.out
    refine wp_region_cut (S := (fun w' => w'.cell? ⟨vb, 1, none⟩ = some (.map (some mb)) ∧ w'.cell? ⟨w.heap.size, 1, none⟩ = some (.slice ka key.length kc) ∧ w'.cell? ⟨b6, 0, none⟩ = some (.slice a6 key.length c6) ∧ w'.cell? ⟨b6, 1, none⟩ = some (.slice none 0 0) ∧ w'.cell? ⟨b6, 2, none⟩ = some (.bool true) ∧ (convert 42 9 (.slice ka key.length kc)).run Try.prog w' = .ok (encStr key) w')) 8 (by kernel_rfl) ?_ (fun hHeld => ?_)
    · ((exact ⟨by simpa using h0, by simpa using h1, by simpa using h2, by simpa using h3, by simpa using h4, hcvd⟩))
    refine wpAnyC_take (i := 0) (v := ?_) rfl (by kernel_rfl) (by kernel_rfl) (by kernel_rfl) (by decide) [1, 2, 3, 8] (by kernel_rfl) (fun _ _ _ h => h) (Or.inl ⟨by rfl, ?_⟩) (by assumption) ?_
    rotate_left 1
    · (intro w hSw; (try dsimp only at hSw); go_simp; (try with_reducible rfl))
    try simp only [Act.put, List.getElem_toArray, List.getElem_cons_succ, List.getElem_cons_zero, List.setIfInBounds_toArray, List.set_cons_zero, List.set_cons_succ]
    refine wpAnyC_take (i := 1) (v := ?_) rfl (by kernel_rfl) (by kernel_rfl) (by kernel_rfl) (by decide) [2, 3, 8] (by kernel_rfl) (fun _ _ _ h => h) (Or.inl ⟨by rfl, ?_⟩) (by assumption) ?_
    rotate_left 1
    · (intro w hSw; (try dsimp only at hSw); go_simp; (try with_reducible rfl))
    try simp only [Act.put, List.getElem_toArray, List.getElem_cons_succ, List.getElem_cons_zero, List.setIfInBounds_toArray, List.set_cons_zero, List.set_cons_succ]
    refine wpAnyC_take (i := 2) (v := ?_) rfl (by kernel_rfl) (by kernel_rfl) (by kernel_rfl) (by decide) [3, 8] (by kernel_rfl) (fun _ _ _ h => h) (Or.inl ⟨by rfl, ?_⟩) (by assumption) ?_
    rotate_left 1
    · (intro w hSw; (try dsimp only at hSw); go_simp; (try with_reducible rfl))
    try simp only [Act.put, List.getElem_toArray, List.getElem_cons_succ, List.getElem_cons_zero, List.setIfInBounds_toArray, List.set_cons_zero, List.set_cons_succ]
    refine wpAnyC_take (i := 3) (v := ?_) rfl (by kernel_rfl) (by kernel_rfl) (by kernel_rfl) (by decide) [8] (by kernel_rfl) (fun _ _ _ h => h) (Or.inl ⟨by rfl, ?_⟩) (by assumption) ?_
    rotate_left 1
    · (intro w hSw; (try dsimp only at hSw); go_simp; (try with_reducible rfl))
    try simp only [Act.put, List.getElem_toArray, List.getElem_cons_succ, List.getElem_cons_zero, List.setIfInBounds_toArray, List.set_cons_zero, List.set_cons_succ]
    refine wpAnyC_take (i := 4) (v := ?_) rfl (by kernel_rfl) (by kernel_rfl) (by kernel_rfl) (by decide) [5, 6, 8] (by kernel_rfl) (fun _ _ _ h => h) (Or.inl ⟨by rfl, ?_⟩) (by assumption) ?_
    rotate_left 1
    · (intro w hSw; (try dsimp only at hSw); go_simp; (try with_reducible rfl))
    try simp only [Act.put, List.getElem_toArray, List.getElem_cons_succ, List.getElem_cons_zero, List.setIfInBounds_toArray, List.set_cons_zero, List.set_cons_succ]
    refine wpAnyC_take (i := 5) (v := ?_) rfl (by kernel_rfl) (by kernel_rfl) (by kernel_rfl) (by decide) [6, 8] (by kernel_rfl) (fun _ _ _ h => h) (Or.inl ⟨by rfl, ?_⟩) (by assumption) ?_
    rotate_left 1
    · (intro w hSw; (try dsimp only at hSw); go_simp; (try with_reducible rfl))
    try simp only [Act.put, List.getElem_toArray, List.getElem_cons_succ, List.getElem_cons_zero, List.setIfInBounds_toArray, List.set_cons_zero, List.set_cons_succ]
    refine wpAnyC_take (i := 6) (v := ?_) rfl (by kernel_rfl) (by kernel_rfl) (by kernel_rfl) (by decide) [8] (by kernel_rfl) (fun _ _ _ h => h) (Or.inl ⟨by rfl, ?_⟩) (by assumption) ?_
    rotate_left 1
    · (intro w hSw; (try dsimp only at hSw); go_simp; (try with_reducible rfl))
    try simp only [Act.put, List.getElem_toArray, List.getElem_cons_succ, List.getElem_cons_zero, List.setIfInBounds_toArray, List.set_cons_zero, List.set_cons_succ]
    refine wpAnyC_take (i := 7) (v := ?_) rfl (by kernel_rfl) (by kernel_rfl) (by kernel_rfl) (by decide) [8] (by kernel_rfl) (fun _ _ _ h => h) (Or.inl ⟨by rfl, ?_⟩) (by assumption) ?_
    rotate_left 1
    · (intro w hSw; (try dsimp only at hSw); go_simp; (try with_reducible rfl))
    try simp only [Act.put, List.getElem_toArray, List.getElem_cons_succ, List.getElem_cons_zero, List.setIfInBounds_toArray, List.set_cons_zero, List.set_cons_succ]
    refine wpAnyC_ready (rs := [8]) (by kernel_rfl) (by simp) ?_
    refine AllReadyC.cut rfl (fun K hK => ?_)
    try simp only [List.getElem_toArray, List.getElem_cons_succ, List.getElem_cons_zero]
    refine ite_then rfl ?_; refine wp_mapUpdate_R (x := (⟨key, [], true⟩ : DWrite)) keep_wrR (.tmp 31) (.tmp 34) (.tmp 35) rfl (HMP.out.step keep_wrR (by (repeat (first | exact Step.refl _ | refine Step.alloc ?_ _ | refine Step.drew ?_ | refine Step.drewN ?_ _ | refine Step.setCell ?_ (by first | exact Nat.le_refl _ | assumption | omega | (simp; done) | (simp; omega)) _ | assumption | refine Step.trans ?_ (by assumption : Step _ _))))) Try.underlying9 Try.underlying125 hwn hkm (keep_wrR.keep HWX.out (fun c h1 h2 => ⟨rfl, h2⟩)) (.inr (.inr (.inl rfl))) rfl rfl rfl ?_; intro w10 hm10 hg10; have HM10 := Lib.hid hm10; clear hm10
    refine hK.out _ _ trivial (fun hHeld => ?_)
    clear hK K
    try simp only [Act.put, List.getElem_toArray, List.getElem_cons_succ, List.getElem_cons_zero, List.setIfInBounds_toArray, List.set_cons_zero, List.set_cons_succ]
    have hTrue : True := trivial
    refine wpAnyH_done (by kernel_rfl) ?_ _
    have hSWc : Step w w9 := HS9.out
    go_wp2
    go_ret2
    exact ⟨rfl, OvAt.put (H.out.step (by (repeat (first | exact Step.refl _ | refine Step.alloc ?_ _ | refine Step.drew ?_ | refine Step.drewN ?_ _ | refine Step.setCell ?_ (by first | exact Nat.le_refl _ | assumption | omega | (simp; done) | (simp; omega)) _ | assumption | refine Step.trans ?_ (by assumption : Step _ _))))) HM10.out hg10, (Turn.of (by (repeat (first | exact Step.refl _ | refine Step.alloc ?_ _ | refine Step.drew ?_ | refine Step.drewN ?_ _ | refine Step.setCell ?_ (by first | exact Nat.le_refl _ | assumption | omega | (simp; done) | (simp; omega)) _ | assumption | refine Step.trans ?_ (by assumption : Step _ _))))).grown hg10 (fun q e _ => by simpa using e.symm)⟩
end Go.Proofs.Ythflkfgiclcdiaa

namespace Go.Proofs.Ythflkfgiclcdiaa
open Go.RowKit Go.Gr Go.Sort
set_option linter.unusedSimpArgs false
set_option linter.unnecessarySimpa false
theorem one_rep {w : World} {M : Nat → Prop} {k : Nat} {x : UInt8} (h : w.cell? ⟨k, 0, none⟩ = some (.int .u8 (x.toNat : Int))) (hM : ¬ M k) : Ty.bytes.rep w M [.slice (some ⟨k, 0, none⟩) 1 1] [x] := by
  refine ⟨_, _, rfl, by simp, by simp [maxLen], by simp [lim_eq], fun _ => ⟨k, 0, rfl, lt_of_cell h, hM, fun i hi => ⟨[.int .u8 (x.toNat : Int)], ?_, fun j u hu => ?_⟩⟩⟩
  · have : i = 0 := by simpa using hi
    subst this
    rfl
  · have hi0 : i = 0 := by simpa using hi
    subst hi0
    rcases j with _ | j
    · simp only [List.getElem?_cons_zero, Option.some.injEq] at hu
      subst hu
      simpa using h
    · simp at hu
section
variable {X : Nat → Prop} {w : World} {lb vb mb B : Nat} {vp va : Value} {rs : List (List Value)} {P : List DPair} {ws : List DWrite} {mo : Int} {kv vv : Value} {key value : List UInt8}
/-- What a read leaves. -/
def OvRead (X : Nat → Prop) (w : World) (lb vb mb B : Nat) (vp va : Value) (rs : List (List Value)) (P : List DPair) (ws : List DWrite) (w' : World) (va' : Value) : Prop :=
  (∃ rs', OvAt X w' lb vb mb B vp va' rs' P ws ∧ rs'.length ≤ rs.length + 1) ∧ VaNew w va va' ∧ Turn (fun b => b = lb ∨ va.ownBlock = some b) w w'
theorem OvRead.of {W w' : World} {va' v' : Value} {rs' : List (List Value)} {L : List DPair} (h : OvAt X w lb vb mb B vp va rs P ws) (hS : Step w W)
    (h1 : LsAt w' lb vp va') (h2 : Own tRaw3 97 w' (fun _ => False) B va' rs') (h3 : rs'.length ≤ rs.length + 1) (h4 : va'.ownBlock = va.ownBlock ∨ ∃ b, va'.ownBlock = some b ∧ W.heap.size ≤ b)
    (h5 : Own tPair 95 w' (fun b => b < W.heap.size ∨ va'.ownBlock = some b) W.heap.size v' L) (h6 : Turn (fun b => b = lb ∨ va.ownBlock = some b) W w') :
    OvRead X w lb vb mb B vp va rs P ws w' va' ∧ Own tPair 95 w' (fun b => b < w.heap.size ∨ va'.ownBlock = some b) w.heap.size v' L := by
  have hz := hS.size
  refine ⟨⟨⟨rs', (h.step hS).turn h1 h2 h4 h6, h3⟩, h4.imp id (fun ⟨b, e, hb⟩ => ⟨b, e, by omega⟩), (Turn.of hS).trans h6⟩, Own.base (Own.less h5 (fun b _ hb => hb.imp (fun h => by omega) id)) hz⟩
set_option maxRecDepth 100000 in
set_option maxHeartbeats 4000000 in
theorem ovDoScan_ {most : Nat} (h : OvAt X w lb vb mb B vp va rs P ws) (hk : Ty.bytes.rep w (ovM X lb mb va) [kv] key) (hv : Ty.bytes.rep w (ovM X lb mb va) [vv] value) (hws : ws.length ≤ 1000) (hwk : ∀ x ∈ ws, x.key.length ≤ 1000) (hrs : rs.length ≤ 999) (hP : RisP P) (hPl : P.length ≤ 1000) (h1 : 1 ≤ most) (h2 : most ≤ 1000) :
    Calls Try.prog 60 #[.pointer (some ⟨vb, 0, none⟩), .agg #[.int .i64 4, kv, vv, .int .i64 (most : Int)]] w fun e w' => ∃ v' va', e = .returned (.tuple #[v', .int .i64 0]) ∧ OvRead X w lb vb mb B vp va rs P ws w' va' ∧
      Own tPair 95 w' (fun b => b < w.heap.size ∨ va'.ownBlock = some b) w.heap.size v' (scanB (overB P ws) key value most) := by
  obtain ⟨ka, kc, rfl, _⟩ := Ty.slice_val hk
  obtain ⟨va', vc, rfl, _⟩ := Ty.slice_val hv
  have HSC := Lib.hid (fun (W : World) (hS : Step w W) => ovScan_ (CellsAt.step h.ls hS) (h.own.step hS) h.hlB (Nat.le_trans h.hB hS.size) hrs (h.step hS).ov (h.step hS).map hws hwk (h.step hS).prs hP hPl (Ty.step _ hk hS) (Ty.step _ hv hS) (.inr (.inl rfl)) (fun b h => .inr (.inr (.inr h))) h.vl h.av h.ml h.am h1 h2)
  have H := Lib.hid h
  clear h hk hv hwk hP
  go_enter Try.func60, Try.ntmps60
  go_wp2_with (go_at_call 93; refine (HSC.out _ (by (repeat (first | exact Step.refl _ | refine Step.alloc ?_ _ | refine Step.drew ?_ | refine Step.drewN ?_ _ | refine Step.setCell ?_ (by first | exact Nat.le_refl _ | assumption | omega | (simp; done) | (simp; omega)) _ | assumption | refine Step.trans ?_ (by assumption : Step _ _))))).mono ?_; rintro e w2 ⟨v2, va2, rs2, rfl, hL2, hA2, hn2, hv2, hR2, hT2⟩; obtain ⟨q1, q2⟩ := OvRead.of H.out (by (repeat (first | exact Step.refl _ | refine Step.alloc ?_ _ | refine Step.drew ?_ | refine Step.drewN ?_ _ | refine Step.setCell ?_ (by first | exact Nat.le_refl _ | assumption | omega | (simp; done) | (simp; omega)) _ | assumption | refine Step.trans ?_ (by assumption : Step _ _)))) hL2 hA2 hn2 hv2 hR2 hT2; have HQ1 := Lib.hid q1; have HQ2 := Lib.hid q2; clear hL2 hA2 hn2 hv2 hR2 hT2 q1 q2)
  go_ret2
  exact ⟨_, _, rfl, HQ1.out, HQ2.out⟩
/-- What a reading operation comes to, by what stands at its key. -/
def readB (kd : Int) (value : List UInt8) (ws : List DWrite) : Option DPair → Option (List DPair × List DWrite)
  | none => if kd = 1 ∨ kd = 6 then some ([], ws) else none
  | some p => if kd = 1 then some ([p], ws) else if kd = 6 then none else if p.value = value then some ([], ws) else none
theorem doB_read {kd : Int} (hkd : kd = 1 ∨ kd = 5 ∨ kd = 6) : doB P ws ⟨kd, key, value, mo⟩ = readB kd value ws (getK DPair.key (overB P ws) key) := by
  unfold doB
  cases hg : getK DPair.key (overB P ws) key with
  | none => rcases hkd with rfl | rfl | rfl <;> simp [readB]
  | some p => rcases hkd with rfl | rfl | rfl <;> simp [readB]
/-- How it ends. -/
def ReadEnd (w w' : World) (va' : Value) (ws : List DWrite) (e : Ending) : Option (List DPair × List DWrite) → Prop
  | none => e = .returned (.tuple #[.slice none 0 0, .int .i64 12])
  | some y => ∃ v', e = .returned (.tuple #[v', .int .i64 0]) ∧ Own tPair 95 w' (fun b => b < w.heap.size ∨ va'.ownBlock = some b) w.heap.size v' y.1 ∧ y.2 = ws
set_option maxRecDepth 100000 in
set_option maxHeartbeats 8000000 in
theorem ovDoRead_ {kd : Int} (hkd : kd = 1 ∨ kd = 5 ∨ kd = 6) (h : OvAt X w lb vb mb B vp va rs P ws) (hk : Ty.bytes.rep w (ovM X lb mb va) [kv] key) (hv : Ty.bytes.rep w (ovM X lb mb va) [vv] value) (hkl : key.length ≤ 64) (hws : ws.length ≤ 999) (hwk : ∀ x ∈ ws, x.key.length ≤ 1000) (hrs : rs.length ≤ 999) (hP : RisP P) (hPl : P.length ≤ 1000) :
    Calls Try.prog 60 #[.pointer (some ⟨vb, 0, none⟩), .agg #[.int .i64 kd, kv, vv, .int .i64 mo]] w fun e w' => ∃ va', OvRead X w lb vb mb B vp va rs P ws w' va' ∧
      ReadEnd w w' va' ws e (doB P ws ⟨kd, key, value, mo⟩) := by
  obtain ⟨ka, kc, rfl, _⟩ := Ty.slice_val hk
  obtain ⟨xa, vc, rfl, _⟩ := Ty.slice_val hv
  have HSC := Lib.hid (fun (W : World) (hS : Step w W) (tv : Value) (ht : Ty.bytes.rep W (ovM X lb mb va) [tv] (key ++ [0])) => ovScan_ (CellsAt.step h.ls hS) (h.own.step hS) h.hlB (Nat.le_trans h.hB hS.size) hrs (h.step hS).ov (h.step hS).map (by omega) hwk (h.step hS).prs hP hPl (Ty.step _ hk hS) ht (.inr (.inl rfl)) (fun b h => .inr (.inr (.inr h))) h.vl h.av h.ml h.am (Nat.le_refl 1) (by omega))
  have hG : scanB (overB P ws) key (key ++ [0]) 1 = (getK DPair.key (overB P ws) key).toList := scanB_one (hP.over ws) key
  obtain ⟨G, hGG⟩ : ∃ G, G = getK DPair.key (overB P ws) key := ⟨_, rfl⟩
  rw [doB_read hkd, ← hGG]
  rw [← hGG] at hG
  have HG := Lib.hid hG
  have hMl : ∀ b, ovM X lb mb va b → b < w.heap.size := fun b hb => by
    rcases hb with hb | hb | hb | hb
    · exact h.xs b hb
    · have := CellsAt.lt h.ls; omega
    · have := h.map.lt; omega
    · exact (h.own.lt hb).2
  have HML := Lib.hid hMl
  have H := Lib.hid h
  have HK := Lib.hid hk
  have HV := Lib.hid hv
  have hn2 : (kd == 2) = false := by rcases hkd with rfl | rfl | rfl <;> rfl
  have hn3 : (kd == 3) = false := by rcases hkd with rfl | rfl | rfl <;> rfl
  have hn4 : (kd == 4) = false := by rcases hkd with rfl | rfl | rfl <;> rfl
  have HKD := Lib.hid hkd
  clear h hk hv hwk hP hG hGG hMl hkd
  have hlim : key.length + 1 ≤ lim := by rw [lim_eq]; omega
  go_enter Try.func60, Try.ntmps60
  go_upto_region 11 with fail
  clear hn2 hn3 hn4
  go_cut [7, 8] (fun s7 s8 wx => ∃ v' va', s7 = v' ∧ s8 = .int .i64 0 ∧ OvRead X w lb vb mb B vp va rs P ws wx va' ∧ Own tPair 95 wx (fun b => b < w.heap.size ∨ va'.ownBlock = some b) w.heap.size v' G.toList ∧ CellsAt wx w.heap.size #[.int .i64 kd, .slice ka key.length kc, .slice xa value.length vc, .int .i64 mo] 72)
  case first =>
    refine wp_region_held_drew (S := (fun w' => w'.cell? ⟨w.heap.size, 1, none⟩ = some (.slice ka key.length kc))) (by kernel_rfl) ?_ (fun hHeld => ?_)
    · (go_keep)
    refine wpAnyH_take (i := 0) (v := ?_) rfl (by kernel_rfl) (by kernel_rfl) (by kernel_rfl) (fun _ _ _ h => h) (Or.inl ⟨by rfl, ?_⟩) (by assumption) ?_
    rotate_left 1
    · (intro w hSw; (try dsimp only at hSw); go_simp; (try with_reducible rfl))
    try simp only [Act.put, List.getElem_toArray, List.getElem_cons_succ, List.getElem_cons_zero, List.setIfInBounds_toArray, List.set_cons_zero, List.set_cons_succ]
    refine wpAnyH_take (i := 1) (v := ?_) rfl (by kernel_rfl) (by kernel_rfl) (by kernel_rfl) (fun _ _ _ h => h) (Or.inl ⟨by rfl, ?_⟩) (by assumption) ?_
    rotate_left 1
    · (intro w hSw; (try dsimp only at hSw); go_simp; (try with_reducible rfl))
    try simp only [Act.put, List.getElem_toArray, List.getElem_cons_succ, List.getElem_cons_zero, List.setIfInBounds_toArray, List.set_cons_zero, List.set_cons_succ]
    refine wpAnyH_take (i := 2) (v := ?_) rfl (by kernel_rfl) (by kernel_rfl) (by kernel_rfl) (fun _ _ _ h => h) (Or.inl ⟨by rfl, ?_⟩) (by assumption) ?_
    rotate_left 1
    · (intro w hSw; (try dsimp only at hSw); go_simp; (try with_reducible rfl))
    try simp only [Act.put, List.getElem_toArray, List.getElem_cons_succ, List.getElem_cons_zero, List.setIfInBounds_toArray, List.set_cons_zero, List.set_cons_succ]
    refine wpAnyH_take (i := 3) (v := ?_) rfl (by kernel_rfl) (by kernel_rfl) (by kernel_rfl) (fun _ _ _ h => h) (Or.inl ⟨by rfl, ?_⟩) (by assumption) ?_
    rotate_left 1
    · (intro w hSw; (try dsimp only at hSw); go_simp; (try with_reducible rfl))
    try simp only [Act.put, List.getElem_toArray, List.getElem_cons_succ, List.getElem_cons_zero, List.setIfInBounds_toArray, List.set_cons_zero, List.set_cons_succ]
    refine wpAnyH_take (i := 4) (v := ?_) rfl (by kernel_rfl) (by kernel_rfl) (by kernel_rfl) (fun _ _ _ h => h) (Or.inl ⟨by rfl, ?_⟩) (by assumption) ?_
    rotate_left 1
    · (intro w hSw; (try dsimp only at hSw); go_simp; (try with_reducible rfl))
    try simp only [Act.put, List.getElem_toArray, List.getElem_cons_succ, List.getElem_cons_zero, List.setIfInBounds_toArray, List.set_cons_zero, List.set_cons_succ]
    refine wpAnyH_ready (rs := [5, 6]) (by kernel_rfl) (by simp) ?_
    refine AllReadyH.cons rfl (fun K hK => ?_) (AllReadyH.cons rfl (fun K hK => ?_) AllReadyH.nil)
    · try simp only [List.getElem_toArray, List.getElem_cons_succ, List.getElem_cons_zero]
      go_simp
      first | (go_at_call 59; refine (Clone_ _ (ovM X lb mb va) _ _ (Ty.step _ HK.out (by (repeat (first | exact Step.refl _ | refine Step.alloc ?_ _ | refine Step.drew ?_ | refine Step.drewN ?_ _ | refine Step.setCell ?_ (by first | exact Nat.le_refl _ | assumption | omega | (simp; done) | (simp; omega)) _ | assumption | refine Step.trans ?_ (by assumption : Step _ _)))))).mono ?_; rintro e2 w2 ⟨v2, rfl, hA2, hS2⟩; obtain ⟨b2, m2, rfl⟩ := hA2.val; have s2_0 : ∀ j, w2.cell? ⟨w.heap.size, j, none⟩ = _ := fun j => hS2.cell (by first | assumption | omega | (simp; done) | (simp; omega)) j; have z2_0 : w.heap.size < w2.heap.size := Nat.lt_of_lt_of_le (by first | assumption | omega | (simp; done) | (simp; omega)) hS2.size; have s2_1 : ∀ j, w2.cell? ⟨w.heap.size + 1, j, none⟩ = _ := fun j => hS2.cell (by first | assumption | omega | (simp; done) | (simp; omega)) j; have z2_1 : w.heap.size + 1 < w2.heap.size := Nat.lt_of_lt_of_le (by first | assumption | omega | (simp; done) | (simp; omega)) hS2.size; have HA2 := Lib.hid hA2; clear hA2) | (go_at_call 59; refine (Clone_ _ (ovM X lb mb va) _ _ (Ty.step _ HK.out (by (repeat (first | exact Step.refl _ | refine Step.alloc ?_ _ | refine Step.drew ?_ | refine Step.drewN ?_ _ | refine Step.setCell ?_ (by first | exact Nat.le_refl _ | assumption | omega | (simp; done) | (simp; omega)) _ | assumption | refine Step.trans ?_ (by assumption : Step _ _)))))).mono ?_; rintro e2 w2 ⟨v2, rfl, hA2, hS2⟩; obtain ⟨b2, m2, rfl⟩ := hA2.val; have s2_0 : ∀ j, w2.cell? ⟨w.heap.size, j, none⟩ = _ := fun j => hS2.cell (by first | assumption | omega | (simp; done) | (simp; omega)) j; have z2_0 : w.heap.size < w2.heap.size := Nat.lt_of_lt_of_le (by first | assumption | omega | (simp; done) | (simp; omega)) hS2.size; have HA2 := Lib.hid hA2; clear hA2)
      refine hK.out _ _ ?_ (fun hHeld => ?_)
      · (go_keep)
      clear hK K
      try simp only [Act.put, List.getElem_toArray, List.getElem_cons_succ, List.getElem_cons_zero, List.setIfInBounds_toArray, List.set_cons_zero, List.set_cons_succ]
      refine wpAnyH_ready (rs := [6]) (by kernel_rfl) (by simp) ?_
      refine AllReadyH.cons rfl (fun K hK => ?_) AllReadyH.nil
      try simp only [List.getElem_toArray, List.getElem_cons_succ, List.getElem_cons_zero]
      go_simp
      refine hK.out _ _ ?_ (fun hHeld => ?_)
      · (go_keep)
      clear hK K
      try simp only [Act.put, List.getElem_toArray, List.getElem_cons_succ, List.getElem_cons_zero, List.setIfInBounds_toArray, List.set_cons_zero, List.set_cons_succ]
      refine wpAnyH_ready (rs := [7]) (by kernel_rfl) (by simp) ?_
      refine AllReadyH.cons rfl (fun K hK => ?_) AllReadyH.nil
      try simp only [List.getElem_toArray, List.getElem_cons_succ, List.getElem_cons_zero]
      refine ite_then rfl ?_; (first | (refine wp_append_gen (ys := [0]) (.tmp 54) (.tmp 55) rfl stBytes (Own.step HA2.out (by (repeat (first | exact Step.refl _ | refine Step.alloc ?_ _ | refine Step.drew ?_ | refine Step.drewN ?_ _ | refine Step.setCell ?_ (by first | exact Nat.le_refl _ | assumption | omega | (simp; done) | (simp; omega)) _ | assumption | refine Step.trans ?_ (by assumption : Step _ _))))) (Src.flat Ty.flat_byte (one_rep (x := 0) (M := fun _ => False) (by simpa using s2_1 0) id)) (by simpa using hlim) (Step.size (by (repeat (first | exact Step.refl _ | refine Step.alloc ?_ _ | refine Step.drew ?_ | refine Step.drewN ?_ _ | refine Step.setCell ?_ (by first | exact Nat.le_refl _ | assumption | omega | (simp; done) | (simp; omega)) _ | assumption | refine Step.trans ?_ (by assumption : Step _ _))))) rfl rfl ?_) | (refine wp_append_gen (ys := [0]) (.tmp 54) (.tmp 55) rfl stBytes (Own.step HA2.out (by (repeat (first | exact Step.refl _ | refine Step.alloc ?_ _ | refine Step.drew ?_ | refine Step.drewN ?_ _ | refine Step.setCell ?_ (by first | exact Nat.le_refl _ | assumption | omega | (simp; done) | (simp; omega)) _ | assumption | refine Step.trans ?_ (by assumption : Step _ _))))) (Src.flat Ty.flat_byte (one_rep (x := 0) (M := fun _ => False) (by simp) id)) (by simpa using hlim) (Step.size (by (repeat (first | exact Step.refl _ | refine Step.alloc ?_ _ | refine Step.drew ?_ | refine Step.drewN ?_ _ | refine Step.setCell ?_ (by first | exact Nat.le_refl _ | assumption | omega | (simp; done) | (simp; omega)) _ | assumption | refine Step.trans ?_ (by assumption : Step _ _))))) rfl rfl ?_)); intro v3 w3 hA3 hG3 _; have hS3 := Own.grown (w0 := w.alloc (.cells #[.int .i64 kd, .slice ka key.length kc, .slice xa value.length vc, .int .i64 mo] 72)) (Own.base (Own.step HA2.out (by (repeat (first | exact Step.refl _ | refine Step.alloc ?_ _ | refine Step.drew ?_ | refine Step.drewN ?_ _ | refine Step.setCell ?_ (by first | exact Nat.le_refl _ | assumption | omega | (simp; done) | (simp; omega)) _ | assumption | refine Step.trans ?_ (by assumption : Step _ _))))) (Step.size (by (repeat (first | exact Step.refl _ | refine Step.alloc ?_ _ | refine Step.drew ?_ | refine Step.drewN ?_ _ | refine Step.setCell ?_ (by first | exact Nat.le_refl _ | assumption | omega | (simp; done) | (simp; omega)) _ | assumption | refine Step.trans ?_ (by assumption : Step _ _)))))) (by (repeat (first | exact Step.refl _ | refine Step.alloc ?_ _ | refine Step.drew ?_ | refine Step.drewN ?_ _ | refine Step.setCell ?_ (by first | exact Nat.le_refl _ | assumption | omega | (simp; done) | (simp; omega)) _ | assumption | refine Step.trans ?_ (by assumption : Step _ _)))) hG3; have s3 : ∀ j, w3.cell? ⟨w.heap.size, j, none⟩ = _ := fun j => hS3.cell (by simp) j; have HT3 := Lib.hid (fun (W : World) (hW : Step w3 W) => (Own.flat (M' := ovM X lb mb va) Ty.flat_byte (hA3.step hW)).rep' (fun b hb h => (by have h8 := HML.out b h; have h9 := (hA3.lt hb).1; (try simp at h9); omega))); clear hA3
      refine hK.out _ _ ?_ (fun hHeld => ?_)
      · (go_keep)
      clear hK K
      try simp only [Act.put, List.getElem_toArray, List.getElem_cons_succ, List.getElem_cons_zero, List.setIfInBounds_toArray, List.set_cons_zero, List.set_cons_succ]
      refine wpAnyH_ready (rs := [8]) (by kernel_rfl) (by simp) ?_
      refine AllReadyH.cons rfl (fun K hK => ?_) AllReadyH.nil
      try simp only [List.getElem_toArray, List.getElem_cons_succ, List.getElem_cons_zero]
      go_simp
      (go_at_call 93; refine (HSC.out _ (by (repeat (first | exact Step.refl _ | refine Step.alloc ?_ _ | refine Step.drew ?_ | refine Step.drewN ?_ _ | refine Step.setCell ?_ (by first | exact Nat.le_refl _ | assumption | omega | (simp; done) | (simp; omega)) _ | assumption | refine Step.trans ?_ (by assumption : Step _ _)))) _ (HT3.out _ (by (repeat (first | exact Step.refl _ | refine Step.alloc ?_ _ | refine Step.drew ?_ | refine Step.drewN ?_ _ | refine Step.setCell ?_ (by first | exact Nat.le_refl _ | assumption | omega | (simp; done) | (simp; omega)) _ | assumption | refine Step.trans ?_ (by assumption : Step _ _)))))).mono ?_; rintro e w4 ⟨v4, va2, rs2, rfl, hL4, hA4, hn4, hv4, hR4, hT4⟩; obtain ⟨q1, q2⟩ := OvRead.of H.out (by (repeat (first | exact Step.refl _ | refine Step.alloc ?_ _ | refine Step.drew ?_ | refine Step.drewN ?_ _ | refine Step.setCell ?_ (by first | exact Nat.le_refl _ | assumption | omega | (simp; done) | (simp; omega)) _ | assumption | refine Step.trans ?_ (by assumption : Step _ _)))) hL4 hA4 hn4 hv4 hR4 hT4; have HQ1 := Lib.hid q1; have HQ2 := Lib.hid (HG.out ▸ q2); have hb4 := hT4.block w.heap.size (by have h9 := hS3.size; (try simp at h9); (try simp); omega) (fun h => absurd (HML.out w.heap.size (h.elim (fun h => .inr (.inl h)) (fun h => .inr (.inr (.inr h))))) (Nat.lt_irrefl _)); have HBX4 : Hid (CellsAt w4 w.heap.size #[.int .i64 kd, .slice ka key.length kc, .slice xa value.length vc, .int .i64 mo] 72) := Lib.hid (CellsAt.kept (CellsAt.step (CellsAt.new (w := w) rfl) (by (repeat (first | exact Step.refl _ | refine Step.alloc ?_ _ | refine Step.drew ?_ | refine Step.drewN ?_ _ | refine Step.setCell ?_ (by first | exact Nat.le_refl _ | assumption | omega | (simp; done) | (simp; omega)) _ | assumption | refine Step.trans ?_ (by assumption : Step _ _))))) hb4); have s4 : ∀ j, w4.cell? ⟨w.heap.size, j, none⟩ = _ := fun j => HBX4.out.cell j; clear hL4 hA4 hn4 hv4 hR4 hT4 q1 q2 hb4)
      refine hK.out _ _ ?_ (fun hHeld => ?_)
      · (go_keep)
      clear hK K
      try simp only [Act.put, List.getElem_toArray, List.getElem_cons_succ, List.getElem_cons_zero, List.setIfInBounds_toArray, List.set_cons_zero, List.set_cons_succ]
      refine wpAnyH_take (i := 9) (v := ?_) rfl (by kernel_rfl) (by kernel_rfl) (by kernel_rfl) (fun _ _ _ h => h) (Or.inl ⟨by rfl, ?_⟩) (by assumption) ?_
      rotate_left 1
      · (intro w hSw; (try dsimp only at hSw); go_simp; (try with_reducible rfl))
      try simp only [Act.put, List.getElem_toArray, List.getElem_cons_succ, List.getElem_cons_zero, List.setIfInBounds_toArray, List.set_cons_zero, List.set_cons_succ]
      refine wpAnyH_take (i := 10) (v := ?_) rfl (by kernel_rfl) (by kernel_rfl) (by kernel_rfl) (fun _ _ _ h => h) (Or.inl ⟨by rfl, ?_⟩) (by assumption) ?_
      rotate_left 1
      · (intro w hSw; (try dsimp only at hSw); go_simp; (try with_reducible rfl))
      try simp only [Act.put, List.getElem_toArray, List.getElem_cons_succ, List.getElem_cons_zero, List.setIfInBounds_toArray, List.set_cons_zero, List.set_cons_succ]
      refine wpAnyH_take (i := 11) (v := ?_) rfl (by kernel_rfl) (by kernel_rfl) (by kernel_rfl) (fun _ _ _ h => h) (Or.inl ⟨by rfl, ?_⟩) (by assumption) ?_
      rotate_left 1
      · (intro w hSw; (try dsimp only at hSw); go_simp; (try with_reducible rfl))
      try simp only [Act.put, List.getElem_toArray, List.getElem_cons_succ, List.getElem_cons_zero, List.setIfInBounds_toArray, List.set_cons_zero, List.set_cons_succ]
      refine wpAnyH_take (i := 12) (v := ?_) rfl (by kernel_rfl) (by kernel_rfl) (by kernel_rfl) (fun _ _ _ h => h) (Or.inl ⟨by rfl, ?_⟩) (by assumption) ?_
      rotate_left 1
      · (intro w hSw; (try dsimp only at hSw); go_simp; (try with_reducible rfl))
      try simp only [Act.put, List.getElem_toArray, List.getElem_cons_succ, List.getElem_cons_zero, List.setIfInBounds_toArray, List.set_cons_zero, List.set_cons_succ]
      refine wpAnyH_take (i := 13) (v := ?_) rfl (by kernel_rfl) (by kernel_rfl) (by kernel_rfl) (fun _ _ _ h => h) (Or.inl ⟨by rfl, ?_⟩) (by assumption) ?_
      rotate_left 1
      · (intro w hSw; (try dsimp only at hSw); go_simp; (try with_reducible rfl))
      try simp only [Act.put, List.getElem_toArray, List.getElem_cons_succ, List.getElem_cons_zero, List.setIfInBounds_toArray, List.set_cons_zero, List.set_cons_succ]
      refine wpAnyH_done (by kernel_rfl) ?_ _
      go_wp2_with fail
      go_meet
      case rel => exact ⟨_, _, rfl, rfl, HQ1.out, HQ2.out, HBX4.out⟩
    · try simp only [List.getElem_toArray, List.getElem_cons_succ, List.getElem_cons_zero]
      go_simp
      refine hK.out _ _ ?_ (fun hHeld => ?_)
      · (go_keep)
      clear hK K
      try simp only [Act.put, List.getElem_toArray, List.getElem_cons_succ, List.getElem_cons_zero, List.setIfInBounds_toArray, List.set_cons_zero, List.set_cons_succ]
      refine wpAnyH_ready (rs := [5]) (by kernel_rfl) (by simp) ?_
      refine AllReadyH.cons rfl (fun K hK => ?_) AllReadyH.nil
      try simp only [List.getElem_toArray, List.getElem_cons_succ, List.getElem_cons_zero]
      go_simp
      first | (go_at_call 59; refine (Clone_ _ (ovM X lb mb va) _ _ (Ty.step _ HK.out (by (repeat (first | exact Step.refl _ | refine Step.alloc ?_ _ | refine Step.drew ?_ | refine Step.drewN ?_ _ | refine Step.setCell ?_ (by first | exact Nat.le_refl _ | assumption | omega | (simp; done) | (simp; omega)) _ | assumption | refine Step.trans ?_ (by assumption : Step _ _)))))).mono ?_; rintro e2 w2 ⟨v2, rfl, hA2, hS2⟩; obtain ⟨b2, m2, rfl⟩ := hA2.val; have s2_0 : ∀ j, w2.cell? ⟨w.heap.size, j, none⟩ = _ := fun j => hS2.cell (by first | assumption | omega | (simp; done) | (simp; omega)) j; have z2_0 : w.heap.size < w2.heap.size := Nat.lt_of_lt_of_le (by first | assumption | omega | (simp; done) | (simp; omega)) hS2.size; have s2_1 : ∀ j, w2.cell? ⟨w.heap.size + 1, j, none⟩ = _ := fun j => hS2.cell (by first | assumption | omega | (simp; done) | (simp; omega)) j; have z2_1 : w.heap.size + 1 < w2.heap.size := Nat.lt_of_lt_of_le (by first | assumption | omega | (simp; done) | (simp; omega)) hS2.size; have HA2 := Lib.hid hA2; clear hA2) | (go_at_call 59; refine (Clone_ _ (ovM X lb mb va) _ _ (Ty.step _ HK.out (by (repeat (first | exact Step.refl _ | refine Step.alloc ?_ _ | refine Step.drew ?_ | refine Step.drewN ?_ _ | refine Step.setCell ?_ (by first | exact Nat.le_refl _ | assumption | omega | (simp; done) | (simp; omega)) _ | assumption | refine Step.trans ?_ (by assumption : Step _ _)))))).mono ?_; rintro e2 w2 ⟨v2, rfl, hA2, hS2⟩; obtain ⟨b2, m2, rfl⟩ := hA2.val; have s2_0 : ∀ j, w2.cell? ⟨w.heap.size, j, none⟩ = _ := fun j => hS2.cell (by first | assumption | omega | (simp; done) | (simp; omega)) j; have z2_0 : w.heap.size < w2.heap.size := Nat.lt_of_lt_of_le (by first | assumption | omega | (simp; done) | (simp; omega)) hS2.size; have HA2 := Lib.hid hA2; clear hA2)
      refine hK.out _ _ ?_ (fun hHeld => ?_)
      · (go_keep)
      clear hK K
      try simp only [Act.put, List.getElem_toArray, List.getElem_cons_succ, List.getElem_cons_zero, List.setIfInBounds_toArray, List.set_cons_zero, List.set_cons_succ]
      refine wpAnyH_ready (rs := [7]) (by kernel_rfl) (by simp) ?_
      refine AllReadyH.cons rfl (fun K hK => ?_) AllReadyH.nil
      try simp only [List.getElem_toArray, List.getElem_cons_succ, List.getElem_cons_zero]
      refine ite_then rfl ?_; (first | (refine wp_append_gen (ys := [0]) (.tmp 54) (.tmp 55) rfl stBytes (Own.step HA2.out (by (repeat (first | exact Step.refl _ | refine Step.alloc ?_ _ | refine Step.drew ?_ | refine Step.drewN ?_ _ | refine Step.setCell ?_ (by first | exact Nat.le_refl _ | assumption | omega | (simp; done) | (simp; omega)) _ | assumption | refine Step.trans ?_ (by assumption : Step _ _))))) (Src.flat Ty.flat_byte (one_rep (x := 0) (M := fun _ => False) (by simpa using s2_1 0) id)) (by simpa using hlim) (Step.size (by (repeat (first | exact Step.refl _ | refine Step.alloc ?_ _ | refine Step.drew ?_ | refine Step.drewN ?_ _ | refine Step.setCell ?_ (by first | exact Nat.le_refl _ | assumption | omega | (simp; done) | (simp; omega)) _ | assumption | refine Step.trans ?_ (by assumption : Step _ _))))) rfl rfl ?_) | (refine wp_append_gen (ys := [0]) (.tmp 54) (.tmp 55) rfl stBytes (Own.step HA2.out (by (repeat (first | exact Step.refl _ | refine Step.alloc ?_ _ | refine Step.drew ?_ | refine Step.drewN ?_ _ | refine Step.setCell ?_ (by first | exact Nat.le_refl _ | assumption | omega | (simp; done) | (simp; omega)) _ | assumption | refine Step.trans ?_ (by assumption : Step _ _))))) (Src.flat Ty.flat_byte (one_rep (x := 0) (M := fun _ => False) (by simp) id)) (by simpa using hlim) (Step.size (by (repeat (first | exact Step.refl _ | refine Step.alloc ?_ _ | refine Step.drew ?_ | refine Step.drewN ?_ _ | refine Step.setCell ?_ (by first | exact Nat.le_refl _ | assumption | omega | (simp; done) | (simp; omega)) _ | assumption | refine Step.trans ?_ (by assumption : Step _ _))))) rfl rfl ?_)); intro v3 w3 hA3 hG3 _; have hS3 := Own.grown (w0 := w.alloc (.cells #[.int .i64 kd, .slice ka key.length kc, .slice xa value.length vc, .int .i64 mo] 72)) (Own.base (Own.step HA2.out (by (repeat (first | exact Step.refl _ | refine Step.alloc ?_ _ | refine Step.drew ?_ | refine Step.drewN ?_ _ | refine Step.setCell ?_ (by first | exact Nat.le_refl _ | assumption | omega | (simp; done) | (simp; omega)) _ | assumption | refine Step.trans ?_ (by assumption : Step _ _))))) (Step.size (by (repeat (first | exact Step.refl _ | refine Step.alloc ?_ _ | refine Step.drew ?_ | refine Step.drewN ?_ _ | refine Step.setCell ?_ (by first | exact Nat.le_refl _ | assumption | omega | (simp; done) | (simp; omega)) _ | assumption | refine Step.trans ?_ (by assumption : Step _ _)))))) (by (repeat (first | exact Step.refl _ | refine Step.alloc ?_ _ | refine Step.drew ?_ | refine Step.drewN ?_ _ | refine Step.setCell ?_ (by first | exact Nat.le_refl _ | assumption | omega | (simp; done) | (simp; omega)) _ | assumption | refine Step.trans ?_ (by assumption : Step _ _)))) hG3; have s3 : ∀ j, w3.cell? ⟨w.heap.size, j, none⟩ = _ := fun j => hS3.cell (by simp) j; have HT3 := Lib.hid (fun (W : World) (hW : Step w3 W) => (Own.flat (M' := ovM X lb mb va) Ty.flat_byte (hA3.step hW)).rep' (fun b hb h => (by have h8 := HML.out b h; have h9 := (hA3.lt hb).1; (try simp at h9); omega))); clear hA3
      refine hK.out _ _ ?_ (fun hHeld => ?_)
      · (go_keep)
      clear hK K
      try simp only [Act.put, List.getElem_toArray, List.getElem_cons_succ, List.getElem_cons_zero, List.setIfInBounds_toArray, List.set_cons_zero, List.set_cons_succ]
      refine wpAnyH_ready (rs := [8]) (by kernel_rfl) (by simp) ?_
      refine AllReadyH.cons rfl (fun K hK => ?_) AllReadyH.nil
      try simp only [List.getElem_toArray, List.getElem_cons_succ, List.getElem_cons_zero]
      go_simp
      (go_at_call 93; refine (HSC.out _ (by (repeat (first | exact Step.refl _ | refine Step.alloc ?_ _ | refine Step.drew ?_ | refine Step.drewN ?_ _ | refine Step.setCell ?_ (by first | exact Nat.le_refl _ | assumption | omega | (simp; done) | (simp; omega)) _ | assumption | refine Step.trans ?_ (by assumption : Step _ _)))) _ (HT3.out _ (by (repeat (first | exact Step.refl _ | refine Step.alloc ?_ _ | refine Step.drew ?_ | refine Step.drewN ?_ _ | refine Step.setCell ?_ (by first | exact Nat.le_refl _ | assumption | omega | (simp; done) | (simp; omega)) _ | assumption | refine Step.trans ?_ (by assumption : Step _ _)))))).mono ?_; rintro e w4 ⟨v4, va2, rs2, rfl, hL4, hA4, hn4, hv4, hR4, hT4⟩; obtain ⟨q1, q2⟩ := OvRead.of H.out (by (repeat (first | exact Step.refl _ | refine Step.alloc ?_ _ | refine Step.drew ?_ | refine Step.drewN ?_ _ | refine Step.setCell ?_ (by first | exact Nat.le_refl _ | assumption | omega | (simp; done) | (simp; omega)) _ | assumption | refine Step.trans ?_ (by assumption : Step _ _)))) hL4 hA4 hn4 hv4 hR4 hT4; have HQ1 := Lib.hid q1; have HQ2 := Lib.hid (HG.out ▸ q2); have hb4 := hT4.block w.heap.size (by have h9 := hS3.size; (try simp at h9); (try simp); omega) (fun h => absurd (HML.out w.heap.size (h.elim (fun h => .inr (.inl h)) (fun h => .inr (.inr (.inr h))))) (Nat.lt_irrefl _)); have HBX4 : Hid (CellsAt w4 w.heap.size #[.int .i64 kd, .slice ka key.length kc, .slice xa value.length vc, .int .i64 mo] 72) := Lib.hid (CellsAt.kept (CellsAt.step (CellsAt.new (w := w) rfl) (by (repeat (first | exact Step.refl _ | refine Step.alloc ?_ _ | refine Step.drew ?_ | refine Step.drewN ?_ _ | refine Step.setCell ?_ (by first | exact Nat.le_refl _ | assumption | omega | (simp; done) | (simp; omega)) _ | assumption | refine Step.trans ?_ (by assumption : Step _ _))))) hb4); have s4 : ∀ j, w4.cell? ⟨w.heap.size, j, none⟩ = _ := fun j => HBX4.out.cell j; clear hL4 hA4 hn4 hv4 hR4 hT4 q1 q2 hb4)
      refine hK.out _ _ ?_ (fun hHeld => ?_)
      · (go_keep)
      clear hK K
      try simp only [Act.put, List.getElem_toArray, List.getElem_cons_succ, List.getElem_cons_zero, List.setIfInBounds_toArray, List.set_cons_zero, List.set_cons_succ]
      refine wpAnyH_take (i := 9) (v := ?_) rfl (by kernel_rfl) (by kernel_rfl) (by kernel_rfl) (fun _ _ _ h => h) (Or.inl ⟨by rfl, ?_⟩) (by assumption) ?_
      rotate_left 1
      · (intro w hSw; (try dsimp only at hSw); go_simp; (try with_reducible rfl))
      try simp only [Act.put, List.getElem_toArray, List.getElem_cons_succ, List.getElem_cons_zero, List.setIfInBounds_toArray, List.set_cons_zero, List.set_cons_succ]
      refine wpAnyH_take (i := 10) (v := ?_) rfl (by kernel_rfl) (by kernel_rfl) (by kernel_rfl) (fun _ _ _ h => h) (Or.inl ⟨by rfl, ?_⟩) (by assumption) ?_
      rotate_left 1
      · (intro w hSw; (try dsimp only at hSw); go_simp; (try with_reducible rfl))
      try simp only [Act.put, List.getElem_toArray, List.getElem_cons_succ, List.getElem_cons_zero, List.setIfInBounds_toArray, List.set_cons_zero, List.set_cons_succ]
      refine wpAnyH_take (i := 11) (v := ?_) rfl (by kernel_rfl) (by kernel_rfl) (by kernel_rfl) (fun _ _ _ h => h) (Or.inl ⟨by rfl, ?_⟩) (by assumption) ?_
      rotate_left 1
      · (intro w hSw; (try dsimp only at hSw); go_simp; (try with_reducible rfl))
      try simp only [Act.put, List.getElem_toArray, List.getElem_cons_succ, List.getElem_cons_zero, List.setIfInBounds_toArray, List.set_cons_zero, List.set_cons_succ]
      refine wpAnyH_take (i := 12) (v := ?_) rfl (by kernel_rfl) (by kernel_rfl) (by kernel_rfl) (fun _ _ _ h => h) (Or.inl ⟨by rfl, ?_⟩) (by assumption) ?_
      rotate_left 1
      · (intro w hSw; (try dsimp only at hSw); go_simp; (try with_reducible rfl))
      try simp only [Act.put, List.getElem_toArray, List.getElem_cons_succ, List.getElem_cons_zero, List.setIfInBounds_toArray, List.set_cons_zero, List.set_cons_succ]
      refine wpAnyH_take (i := 13) (v := ?_) rfl (by kernel_rfl) (by kernel_rfl) (by kernel_rfl) (fun _ _ _ h => h) (Or.inl ⟨by rfl, ?_⟩) (by assumption) ?_
      rotate_left 1
      · (intro w hSw; (try dsimp only at hSw); go_simp; (try with_reducible rfl))
      try simp only [Act.put, List.getElem_toArray, List.getElem_cons_succ, List.getElem_cons_zero, List.setIfInBounds_toArray, List.set_cons_zero, List.set_cons_succ]
      refine wpAnyH_done (by kernel_rfl) ?_ _
      go_wp2_with fail
      go_meet
      case rel => exact ⟨_, _, rfl, rfl, HQ1.out, HQ2.out, HBX4.out⟩
  case rest =>
    obtain ⟨v7, va2, rfl, rfl, hQ1, hQ2, hBX⟩ := hcut
    refine open_kk2 (by assumption) ?_
    obtain ⟨a7, n7, c7, rfl, HN7⟩ := hQ2.valN
    have x0 : wc.cell? ⟨w.heap.size, 0, none⟩ = some (.int .i64 kd) := hBX.cell 0
    have x2 : wc.cell? ⟨w.heap.size, 2, none⟩ = some (.slice xa value.length vc) := hBX.cell 2
    have HVc := Lib.hid (fun (W : World) (hW : Step wc W) => Ty.step _ (Ty.keep (M' := fun _ => False) _ HV.out (fun b h1 h2 => ⟨hQ1.2.2.block b h1 (fun e => h2 (e.elim (fun e => .inr (.inl e)) (fun e => .inr (.inr (.inr e))))), fun h => h⟩)) hW)
    have HQ1 := Lib.hid hQ1
    have HQ2 := Lib.hid hQ2
    have HRL := Lib.hid ((Own.less (M' := fun _ => False) hQ2 (fun _ _ h => h.elim)).rep' (fun _ _ h => h))
    clear hQ1 hQ2 hBX HSC HK
    cases G with
    | none =>
      obtain rfl : n7 = 0 := HN7.out
      rcases HKD.out with rfl | rfl | rfl
      · have HRD := Lib.hid (show readB 1 value ws none = some ([], ws) by simp [readB])
        go_wp2
        go_ret2
        exact ⟨va2, HQ1.out, by rw [HRD.out]; exact ⟨_, rfl, HQ2.out, rfl⟩⟩
      · have HRD := Lib.hid (show readB 5 value ws none = none by simp [readB])
        go_upto_region 14 with fail
        go_quiet (fail)
        go_wp2
        go_ret2
        exact ⟨va2, ⟨HQ1.out.1.elim fun rs' h => ⟨rs', h.1.step (by (repeat (first | exact Step.refl _ | refine Step.alloc ?_ _ | refine Step.drew ?_ | refine Step.drewN ?_ _ | refine Step.setCell ?_ (by first | exact Nat.le_refl _ | assumption | omega | (simp; done) | (simp; omega)) _ | assumption | refine Step.trans ?_ (by assumption : Step _ _)))), h.2⟩, HQ1.out.2.1, HQ1.out.2.2.then (by (repeat (first | exact Step.refl _ | refine Step.alloc ?_ _ | refine Step.drew ?_ | refine Step.drewN ?_ _ | refine Step.setCell ?_ (by first | exact Nat.le_refl _ | assumption | omega | (simp; done) | (simp; omega)) _ | assumption | refine Step.trans ?_ (by assumption : Step _ _))))⟩, by rw [HRD.out]; rfl⟩
      · have HRD := Lib.hid (show readB 6 value ws none = some ([], ws) by simp [readB])
        go_upto_region 14 with fail
        go_quiet (fail)
        go_wp2
        go_ret2
        exact ⟨va2, ⟨HQ1.out.1.elim fun rs' h => ⟨rs', h.1.step (by (repeat (first | exact Step.refl _ | refine Step.alloc ?_ _ | refine Step.drew ?_ | refine Step.drewN ?_ _ | refine Step.setCell ?_ (by first | exact Nat.le_refl _ | assumption | omega | (simp; done) | (simp; omega)) _ | assumption | refine Step.trans ?_ (by assumption : Step _ _)))), h.2⟩, HQ1.out.2.1, HQ1.out.2.2.then (by (repeat (first | exact Step.refl _ | refine Step.alloc ?_ _ | refine Step.drew ?_ | refine Step.drewN ?_ _ | refine Step.setCell ?_ (by first | exact Nat.le_refl _ | assumption | omega | (simp; done) | (simp; omega)) _ | assumption | refine Step.trans ?_ (by assumption : Step _ _))))⟩, by rw [HRD.out]; exact ⟨_, rfl, Own.nil, rfl⟩⟩
    | some p =>
      obtain rfl : n7 = 1 := HN7.out
      have hlt : 0 < (Option.some p).toList.length := by simp
      obtain ⟨pb, po, pes, rfl, phb, _, pu, pcu⟩ := Ty.slice_at HRL.out hlt
      obtain ⟨pc0, pc1, rfl, ph0, ph1⟩ := pu
      simp only [Option.toList_some, List.getElem_cons_zero] at ph0 ph1
      obtain ⟨pa1, pn1, rfl, _⟩ := Ty.slice_val ph1
      have pq1 := pcu 1 _ rfl
      simp only [Nat.zero_mul, Nat.add_zero] at pq1
      rcases HKD.out with rfl | rfl | rfl
      · have HRD := Lib.hid (show readB 1 value ws (some p) = some ([p], ws) by simp [readB])
        go_wp2
        go_ret2
        exact ⟨va2, HQ1.out, by rw [HRD.out]; exact ⟨_, rfl, HQ2.out, rfl⟩⟩
      · have hEQ := Lib.hid (fun (W : World) (hW : Step wc W) => bytesEqual_ (Ty.step _ ph1 hW) (HVc.out W hW))
        by_cases hpv : p.value = value
        · have hd : decide (p.value = value) = true := decide_eq_true hpv
          have HRD := Lib.hid (show readB 5 value ws (some p) = some ([], ws) by simp [readB, hpv])
          rw [hd] at hEQ
          clear hpv hd pcu
          go_upto_region 14 with fail
          go_quiet ((go_at_call 94; exact Calls.quiet_of_same (hEQ.out _ (by (repeat (first | exact Step.refl _ | refine Step.alloc ?_ _ | refine Step.drew ?_ | refine Step.drewN ?_ _ | refine Step.setCell ?_ (by first | exact Nat.le_refl _ | assumption | omega | (simp; done) | (simp; omega)) _ | assumption | refine Step.trans ?_ (by assumption : Step _ _)))))))
          go_wp2
          go_ret2
          exact ⟨va2, ⟨HQ1.out.1.elim fun rs' h => ⟨rs', h.1.step (by (repeat (first | exact Step.refl _ | refine Step.alloc ?_ _ | refine Step.drew ?_ | refine Step.drewN ?_ _ | refine Step.setCell ?_ (by first | exact Nat.le_refl _ | assumption | omega | (simp; done) | (simp; omega)) _ | assumption | refine Step.trans ?_ (by assumption : Step _ _)))), h.2⟩, HQ1.out.2.1, HQ1.out.2.2.then (by (repeat (first | exact Step.refl _ | refine Step.alloc ?_ _ | refine Step.drew ?_ | refine Step.drewN ?_ _ | refine Step.setCell ?_ (by first | exact Nat.le_refl _ | assumption | omega | (simp; done) | (simp; omega)) _ | assumption | refine Step.trans ?_ (by assumption : Step _ _))))⟩, by rw [HRD.out]; exact ⟨_, rfl, Own.nil, rfl⟩⟩
        · have hd : decide (p.value = value) = false := decide_eq_false hpv
          have HRD := Lib.hid (show readB 5 value ws (some p) = none by simp [readB, hpv])
          rw [hd] at hEQ
          clear hpv hd pcu
          go_upto_region 14 with fail
          go_quiet ((go_at_call 94; exact Calls.quiet_of_same (hEQ.out _ (by (repeat (first | exact Step.refl _ | refine Step.alloc ?_ _ | refine Step.drew ?_ | refine Step.drewN ?_ _ | refine Step.setCell ?_ (by first | exact Nat.le_refl _ | assumption | omega | (simp; done) | (simp; omega)) _ | assumption | refine Step.trans ?_ (by assumption : Step _ _)))))))
          go_wp2
          go_ret2
          exact ⟨va2, ⟨HQ1.out.1.elim fun rs' h => ⟨rs', h.1.step (by (repeat (first | exact Step.refl _ | refine Step.alloc ?_ _ | refine Step.drew ?_ | refine Step.drewN ?_ _ | refine Step.setCell ?_ (by first | exact Nat.le_refl _ | assumption | omega | (simp; done) | (simp; omega)) _ | assumption | refine Step.trans ?_ (by assumption : Step _ _)))), h.2⟩, HQ1.out.2.1, HQ1.out.2.2.then (by (repeat (first | exact Step.refl _ | refine Step.alloc ?_ _ | refine Step.drew ?_ | refine Step.drewN ?_ _ | refine Step.setCell ?_ (by first | exact Nat.le_refl _ | assumption | omega | (simp; done) | (simp; omega)) _ | assumption | refine Step.trans ?_ (by assumption : Step _ _))))⟩, by rw [HRD.out]; rfl⟩
      · have HRD := Lib.hid (show readB 6 value ws (some p) = none by simp [readB])
        clear pcu
        go_upto_region 14 with fail
        go_quiet (fail)
        go_wp2
        go_ret2
        exact ⟨va2, ⟨HQ1.out.1.elim fun rs' h => ⟨rs', h.1.step (by (repeat (first | exact Step.refl _ | refine Step.alloc ?_ _ | refine Step.drew ?_ | refine Step.drewN ?_ _ | refine Step.setCell ?_ (by first | exact Nat.le_refl _ | assumption | omega | (simp; done) | (simp; omega)) _ | assumption | refine Step.trans ?_ (by assumption : Step _ _)))), h.2⟩, HQ1.out.2.1, HQ1.out.2.2.then (by (repeat (first | exact Step.refl _ | refine Step.alloc ?_ _ | refine Step.drew ?_ | refine Step.drewN ?_ _ | refine Step.setCell ?_ (by first | exact Nat.le_refl _ | assumption | omega | (simp; done) | (simp; omega)) _ | assumption | refine Step.trans ?_ (by assumption : Step _ _))))⟩, by rw [HRD.out]; rfl⟩
end
end Go.Proofs.Ythflkfgiclcdiaa
