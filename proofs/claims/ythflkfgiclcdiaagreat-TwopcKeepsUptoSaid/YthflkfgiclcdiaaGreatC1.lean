/-
  A coordinator in memory ('CoordRep'); New.
-/
import Derived.Test.YthflkfgiclcdiaaGreatW7
import Derived.Test.YthflkfgiclcdiaaGreatW12
import Derived.Test.YthflkfgiclcdiaaGreatMaps
import Derived.Deep.DeepCutAuto
namespace Go.Proofs.YthflkfgiclcdiaaGreat
open Go.RowKit Go.Gr Go.Maps
set_option linter.unusedSimpArgs false
structure DCoord where
  txn : DTxn
  ops : List DOp
  parts : List DPart
  outs : Option (List (Int × DOutcome))
  phase : Int
  wants : Int
  out : Option (List (Int × DAsk))
  shards : List Int
  commit : Bool
  reply : List UInt8
  certain : Bool
  age : Int
  patience : Int
def _root_.Go.Gr.DTxn.Ok (x : DTxn) : Prop := x.boot < 18446744073709551616 ∧ x.session < 18446744073709551616 ∧ x.seq < 18446744073709551616
abbrev tyInt : TypeId := 3
/-- A map value: nil, or a block with just these entries. -/
def MapV {α : Type} (E : Ty α) (w : World) (M : Nat → Prop) (v : Value) (o : Option (List (Int × α))) : Prop :=
  match o with
  | none => v = .map none
  | some l => ∃ b, v = .map (some b) ∧ MapT Tryz.prog 3 E w M b l ∧ M b ∧ l.length ≤ 1048576 ∧ ∀ p ∈ l, I64 p.1
def mapBlock : Value → Option Nat
  | .map r => r
  | _ => none
theorem MapV.val {α : Type} {E : Ty α} {w : World} {M : Nat → Prop} {v : Value} {o : Option (List (Int × α))} (h : MapV E w M v o) : v = .map (mapBlock v) := by
  rcases o with _ | l
  · obtain rfl : v = .map none := h
    rfl
  · obtain ⟨b, rfl, _⟩ := h
    rfl
theorem MapV.keep {α : Type} {E : Ty α} {w w' : World} {M M' : Nat → Prop} {v : Value} {o : Option (List (Int × α))} (h : MapV E w M v o) (hb : ∀ b, mapBlock v = some b → w'.heap[b]? = w.heap[b]? ∧ M' b) (hk : ∀ c, c < w.heap.size → ¬ M c → w'.heap[c]? = w.heap[c]? ∧ ¬ M' c) : MapV E w' M' v o := by
  rcases o with _ | l
  · exact h
  · obtain ⟨b, rfl, hm, _, hl⟩ := h
    exact ⟨b, rfl, hm.keep (hb b rfl).1 hk, (hb b rfl).2, hl⟩
/-- What the coordinator's own data must not meet: what is older than B, its own block, its maps. -/
def coM (B cb : Nat) (mo mu : Value) : Nat → Prop := fun b => b < B ∨ b = cb ∨ mapBlock mo = some b ∨ mapBlock mu = some b
/-- Block cb is a coordinator; all that it holds is of block B on. -/
structure CoordIn (w : World) (B cb : Nat) (c : DCoord) (vo vp mo mu vs vr : Value) : Prop where
  cells : CoordAt w cb (coordCells c.txn vo vp mo c.phase c.wants mu vs c.commit vr c.certain c.age c.patience)
  base : B ≤ cb
  txn : c.txn.Ok
  ops : (Ty.slice tOp).rep w (coM B cb mo mu) [vo] c.ops
  parts : (Ty.slice tPart).rep w (coM B cb mo mu) [vp] c.parts
  shards : (Ty.slice Ty.int).rep w (coM B cb mo mu) [vs] c.shards
  reply : Ty.bytes.rep w (coM B cb mo mu) [vr] c.reply
  outs : MapV tOutcome w (coM B cb mo mu) mo c.outs
  out : MapV tAsk w (coM B cb mo mu) mu c.out
  omo : ∀ b, mapBlock mo = some b → B ≤ b
  omu : ∀ b, mapBlock mu = some b → B ≤ b
  apart : ∀ b, mapBlock mo = some b → mapBlock mu ≠ some b
  few : c.shards.length ≤ 1048576
  patience : I64 c.patience
def CoordRep (w : World) (B cb : Nat) (c : DCoord) : Prop := ∃ vo vp mo mu vs vr, CoordIn w B cb c vo vp mo mu vs vr
theorem CoordIn.lt {w : World} {B cb : Nat} {c : DCoord} {vo vp mo mu vs vr : Value} (h : CoordIn w B cb c vo vp mo mu vs vr) : cb < w.heap.size := h.cells.lt
theorem MapV.lt {α : Type} {E : Ty α} {w : World} {M : Nat → Prop} {v : Value} {o : Option (List (Int × α))} (h : MapV E w M v o) {b : Nat} (hb : mapBlock v = some b) : b < w.heap.size := by
  rcases o with _ | l
  · obtain rfl : v = .map none := h
    simp [mapBlock] at hb
  · obtain ⟨b', rfl, hm, _⟩ := h
    obtain rfl : b' = b := by simpa [mapBlock] using hb
    exact hm.lt
theorem CoordIn.keep {w w' : World} {B cb : Nat} {c : DCoord} {vo vp mo mu vs vr : Value} (h : CoordIn w B cb c vo vp mo mu vs vr) (hk : ∀ b, b < w.heap.size → B ≤ b → w'.heap[b]? = w.heap[b]?) : CoordIn w' B cb c vo vp mo mu vs vr := by
  have hK : Kept (coM B cb mo mu) w w' := fun b h1 h2 => hk b h1 (Nat.le_of_not_lt fun h3 => h2 (.inl h3))
  refine ⟨(hk cb h.lt h.base).trans h.cells, h.base, h.txn, Ty.kept _ h.ops hK, Ty.kept _ h.parts hK, Ty.kept _ h.shards hK, Ty.kept _ h.reply hK, ?_, ?_, h.omo, h.omu, h.apart, h.few, h.patience⟩
  · exact h.outs.keep (fun b hb => ⟨hk b (h.outs.lt hb) (h.omo b hb), .inr (.inr (.inl hb))⟩) fun c h1 h2 => ⟨hK c h1 h2, h2⟩
  · exact h.out.keep (fun b hb => ⟨hk b (h.out.lt hb) (h.omu b hb), .inr (.inr (.inr hb))⟩) fun c h1 h2 => ⟨hK c h1 h2, h2⟩
theorem CoordRep.step {w w' : World} {B cb : Nat} {c : DCoord} (h : CoordRep w B cb c) (hb : Step w w') : CoordRep w' B cb c := by
  obtain ⟨vo, vp, mo, mu, vs, vr, h⟩ := h
  exact ⟨vo, vp, mo, mu, vs, vr, h.keep fun b h1 _ => hb.heap h1⟩
theorem CoordAt.new {w : World} {k : Nat} {cs : Array Value} (h : k = w.heap.size) : CoordAt (w.alloc (.cells cs 125)) k cs := heap_alloc_at h
theorem CoordAt.set {w : World} {cb : Nat} {cs : Array Value} (h : CoordAt w cb cs) (i : Nat) (u : Value) : CoordAt (w.setCell ⟨cb, i, none⟩ u) cb (cs.setIfInBounds i u) := heap_setCell_same w cb i cs _ u h
theorem CoordAt.kept {w w' : World} {cb : Nat} {cs : Array Value} (h : CoordAt w cb cs) (hb : w'.heap[cb]? = w.heap[cb]?) : CoordAt w' cb cs := hb.trans h
theorem CoordAt.step {w w' : World} {cb : Nat} {cs : Array Value} (h : CoordAt w cb cs) (hb : Step w w') : CoordAt w' cb cs := h.kept (hb.heap h.lt)
/-- A coordinator's patience. -/
def patB (p : Int) : Int := if 1 < p then p else 1
theorem mapM_lt {B cb mb n : Nat} (h1 : B ≤ n) (h2 : cb < n) (h3 : mb < n) : ∀ b, coM B cb (.map (some mb)) (.map none) b → b < n := by
  rintro b (h | h | h | h)
  · omega
  · omega
  · have : mb = b := by simpa [mapBlock] using h
    omega
  · simp [mapBlock] at h
set_option maxRecDepth 100000 in
set_option maxHeartbeats 4000000 in
theorem New_ (w : World) (M : Nat → Prop) (x : DTxn) (v1 v2 : Value) (sp : List (List UInt8)) (xs : List DOp) (p : Int) (hx : x.Ok) (h1 : (Ty.slice Ty.bytes).rep w M [v1] sp) (h2 : (Ty.slice tOp).rep w M [v2] xs) (hsp : sp.length < 1048576) (hxs : xs.length < 1048576) (hp : I64 p) :
    Calls Tryz.prog 9 #[.agg #[.int .u64 (x.boot : Int), .int .u64 (x.session : Int), .int .u64 (x.seq : Int)], v1, v2, .int .i64 p] w fun e w' => ∃ cb, e = .returned (.pointer (some ⟨cb, 0, none⟩)) ∧
      CoordRep w' w.heap.size cb ⟨x, xs, partsB sp xs (sp.length + 1), some [], 0, 0, none, (partsB sp xs (sp.length + 1)).map (·.shard), false, [], false, 0, patB p⟩ ∧ Step w w' := by
  obtain ⟨a1, c1, rfl, _⟩ := Ty.slice_val h1
  obtain ⟨a2, c2, rfl, _⟩ := Ty.slice_val h2
  have H1 := Lib.hid h1
  have H2 := Lib.hid h2
  have HX := Lib.hid hx
  have HP := Lib.hid hp
  clear h1 h2 hx hp
  have hmm := @run_makeMap Tryz.prog
  have hmx : (if 1 < p then p else 1) = patB p := rfl
  go_enter Tryz.func9, Tryz.ntmps9
  go_upto_region 1 with fail
  go_cut [9] (fun s9 wx => ∃ (cb mb : Nat) (vo : Value), s9 = .pointer (some ⟨cb, 0, none⟩) ∧ w.heap.size ≤ cb ∧ CoordAt wx cb (coordCells x vo (.slice none 0 0) (.map (some mb)) 0 0 (.map none) (.slice none 0 0) false (.slice none 0 0) false 0 (patB p)) ∧
    (Ty.slice tOp).rep wx (coM w.heap.size cb (.map (some mb)) (.map none)) [vo] xs ∧ wx.heap[mb]? = some (.map #[] 0) ∧ w.heap.size ≤ mb ∧ Step w wx)
  case first =>
    refine wp_region_held_drew (S := (fun w' => w'.cell? ⟨w.heap.size, 0, none⟩ = some (.int .u64 (x.boot : Int)) ∧ w'.cell? ⟨w.heap.size, 1, none⟩ = some (.int .u64 (x.session : Int)) ∧ w'.cell? ⟨w.heap.size, 2, none⟩ = some (.int .u64 (x.seq : Int)))) (by kernel_rfl) ?_ (fun hHeld => ?_)
    · (go_keep)
    refine wpAnyH_take (i := 0) (v := ?_) rfl (by kernel_rfl) (by kernel_rfl) (by kernel_rfl) (fun _ _ _ h => h) (Or.inl ⟨by rfl, ?_⟩) (by assumption) ?_
    rotate_left 1
    · (intro w hSw; (try dsimp only at hSw); go_simp; (try with_reducible rfl))
    try simp only [Act.put, List.getElem_toArray, List.getElem_cons_succ, List.getElem_cons_zero, List.setIfInBounds_toArray, List.set_cons_zero, List.set_cons_succ]
    refine wpAnyH_take (i := 1) (v := ?_) rfl (by kernel_rfl) (by kernel_rfl) (by kernel_rfl) (fun _ _ _ h => h) (Or.inl ⟨by rfl, ?_⟩) (by assumption) ?_
    rotate_left 1
    · (intro w hSw; (try dsimp only at hSw); go_simp; (try with_reducible rfl))
    try simp only [Act.put, List.getElem_toArray, List.getElem_cons_succ, List.getElem_cons_zero, List.setIfInBounds_toArray, List.set_cons_zero, List.set_cons_succ]
    refine wpAnyH_take (i := 3) (v := ?_) rfl (by kernel_rfl) (by kernel_rfl) (by kernel_rfl) (fun _ _ _ h => h) (Or.inl ⟨by rfl, ?_⟩) (by assumption) ?_
    rotate_left 1
    · (intro w hSw; (try dsimp only at hSw); go_simp; (try with_reducible rfl))
    try simp only [Act.put, List.getElem_toArray, List.getElem_cons_succ, List.getElem_cons_zero, List.setIfInBounds_toArray, List.set_cons_zero, List.set_cons_succ]
    refine wpAnyH_take (i := 4) (v := ?_) rfl (by kernel_rfl) (by kernel_rfl) (by kernel_rfl) (fun _ _ _ h => h) (Or.inl ⟨by rfl, ?_⟩) (by assumption) ?_
    rotate_left 1
    · (intro w hSw; (try dsimp only at hSw); go_simp; (try with_reducible rfl))
    try simp only [Act.put, List.getElem_toArray, List.getElem_cons_succ, List.getElem_cons_zero, List.setIfInBounds_toArray, List.set_cons_zero, List.set_cons_succ]
    refine wpAnyH_ready (rs := [2, 5]) (by kernel_rfl) (by simp) ?_
    refine AllReadyH.cons rfl (fun K hK => ?_) (AllReadyH.cons rfl (fun K hK => ?_) AllReadyH.nil)
    · try simp only [List.getElem_toArray, List.getElem_cons_succ, List.getElem_cons_zero]
      go_simp
      (go_at_call 43; refine (twin_ _ _ _ _ (by refine Ty.step _ (Hid.out (by assumption)) ?_; (repeat (first | exact Step.refl _ | refine Step.alloc ?_ _ | refine Step.drew ?_ | refine Step.drewN ?_ _ | refine Step.setCell ?_ (by first | exact Nat.le_refl _ | assumption | omega | (simp; done) | (simp; omega)) _ | assumption | refine Step.trans ?_ (by assumption : Step _ _))))).mono ?_; rintro e2 w2 ⟨v2, rfl, hA2, hS2⟩; obtain ⟨b2, m2, rfl⟩ := hA2.val; have s2_0 : ∀ j, w2.cell? ⟨w.heap.size, j, none⟩ = _ := fun j => hS2.cell (by first | assumption | omega | (simp; done) | (simp; omega)) j; have z2_0 : w.heap.size < w2.heap.size := Nat.lt_of_lt_of_le (by first | assumption | omega | (simp; done) | (simp; omega)) hS2.size; have HA2 := Lib.hid hA2; clear hA2)
      refine hK.out _ _ ?_ (fun hHeld => ?_)
      · (go_keep)
      clear hK K
      try simp only [Act.put, List.getElem_toArray, List.getElem_cons_succ, List.getElem_cons_zero, List.setIfInBounds_toArray, List.set_cons_zero, List.set_cons_succ]
      refine wpAnyH_ready (rs := [5]) (by kernel_rfl) (by simp) ?_
      refine AllReadyH.cons rfl (fun K hK => ?_) AllReadyH.nil
      try simp only [List.getElem_toArray, List.getElem_cons_succ, List.getElem_cons_zero]
      go_simp
      refine hK.out _ _ ?_ (fun hHeld => ?_)
      · (go_keep)
      clear hK K
      try simp only [Act.put, List.getElem_toArray, List.getElem_cons_succ, List.getElem_cons_zero, List.setIfInBounds_toArray, List.set_cons_zero, List.set_cons_succ]
      refine wpAnyH_take (i := 6) (v := ?_) rfl (by kernel_rfl) (by kernel_rfl) (by kernel_rfl) (fun _ _ _ h => h) (Or.inl ⟨by rfl, ?_⟩) (by assumption) ?_
      rotate_left 1
      · (intro w hSw; (try dsimp only at hSw); go_simp; (try with_reducible rfl))
      try simp only [Act.put, List.getElem_toArray, List.getElem_cons_succ, List.getElem_cons_zero, List.setIfInBounds_toArray, List.set_cons_zero, List.set_cons_succ]
      refine wpAnyH_ready (rs := [7]) (by kernel_rfl) (by simp) ?_
      refine AllReadyH.cons rfl (fun K hK => ?_) AllReadyH.nil
      try simp only [List.getElem_toArray, List.getElem_cons_succ, List.getElem_cons_zero]
      go_simp
      refine hK.out _ _ ?_ (fun hHeld => ?_)
      · (go_keep)
      clear hK K
      try simp only [Act.put, List.getElem_toArray, List.getElem_cons_succ, List.getElem_cons_zero, List.setIfInBounds_toArray, List.set_cons_zero, List.set_cons_succ]
      refine wpAnyH_take (i := 8) (v := ?_) rfl (by kernel_rfl) (by kernel_rfl) (by kernel_rfl) (fun _ _ _ h => h) (Or.inl ⟨by rfl, ?_⟩) (by assumption) ?_
      rotate_left 1
      · (intro w hSw; (try dsimp only at hSw); go_simp; (try with_reducible rfl))
      try simp only [Act.put, List.getElem_toArray, List.getElem_cons_succ, List.getElem_cons_zero, List.setIfInBounds_toArray, List.set_cons_zero, List.set_cons_succ]
      refine wpAnyH_done (by kernel_rfl) ?_ _
      go_wp2_with fail
      go_meet
      case rel =>
        have z2 := hS2.size
        (try simp only [World.size_alloc, World.size_drew] at z2)
        have z3 := HA2.out
        (try simp only [World.size_alloc, World.size_drew] at z3)
        refine ⟨_, _, _, rfl, by first | omega | (simp; omega), CoordAt.new (by first | rfl | simp), Ty.step _ (Own.rep' (z3.less ?_) ?_) (by (repeat (first | exact Step.refl _ | refine Step.alloc ?_ _ | refine Step.drew ?_ | refine Step.drewN ?_ _ | refine Step.setCell ?_ (by first | exact Nat.le_refl _ | assumption | omega | (simp; done) | (simp; omega)) _ | assumption | refine Step.trans ?_ (by assumption : Step _ _)))), ?_, by first | omega | (simp; omega), by (repeat (first | exact Step.refl _ | refine Step.alloc ?_ _ | refine Step.drew ?_ | refine Step.drewN ?_ _ | refine Step.setCell ?_ (by first | exact Nat.le_refl _ | assumption | omega | (simp; done) | (simp; omega)) _ | assumption | refine Step.trans ?_ (by assumption : Step _ _)))⟩
        · rintro b hb (h | h | h | h)
          · omega
          · omega
          · have := Option.some.inj h; omega
          · simp [mapBlock] at h
        · intro b hb hM
          have z4 := z3.lt hb
          rcases hM with h | h | h | h
          · omega
          · omega
          · have := Option.some.inj h; omega
          · simp [mapBlock] at h
        · first
          | exact (Below.heap_alloc _ _ _ (by simp)).trans (heap_alloc_at rfl)
          | exact (Step.heap (by (repeat (first | exact Step.refl _ | refine Step.alloc ?_ _ | refine Step.drew ?_ | refine Step.drewN ?_ _ | refine Step.setCell ?_ (by first | exact Nat.le_refl _ | assumption | omega | (simp; done) | (simp; omega)) _ | assumption | refine Step.trans ?_ (by assumption : Step _ _))) : Step ((w.alloc _).alloc (Obj.map #[] 0)) _) (by simp)).trans (heap_alloc_at (by simp))
    · try simp only [List.getElem_toArray, List.getElem_cons_succ, List.getElem_cons_zero]
      go_simp
      refine hK.out _ _ ?_ (fun hHeld => ?_)
      · (go_keep)
      clear hK K
      try simp only [Act.put, List.getElem_toArray, List.getElem_cons_succ, List.getElem_cons_zero, List.setIfInBounds_toArray, List.set_cons_zero, List.set_cons_succ]
      refine wpAnyH_ready (rs := [2]) (by kernel_rfl) (by simp) ?_
      refine AllReadyH.cons rfl (fun K hK => ?_) AllReadyH.nil
      try simp only [List.getElem_toArray, List.getElem_cons_succ, List.getElem_cons_zero]
      go_simp
      (go_at_call 43; refine (twin_ _ _ _ _ (by refine Ty.step _ (Hid.out (by assumption)) ?_; (repeat (first | exact Step.refl _ | refine Step.alloc ?_ _ | refine Step.drew ?_ | refine Step.drewN ?_ _ | refine Step.setCell ?_ (by first | exact Nat.le_refl _ | assumption | omega | (simp; done) | (simp; omega)) _ | assumption | refine Step.trans ?_ (by assumption : Step _ _))))).mono ?_; rintro e2 w2 ⟨v2, rfl, hA2, hS2⟩; obtain ⟨b2, m2, rfl⟩ := hA2.val; have s2_0 : ∀ j, w2.cell? ⟨w.heap.size, j, none⟩ = _ := fun j => hS2.cell (by first | assumption | omega | (simp; done) | (simp; omega)) j; have z2_0 : w.heap.size < w2.heap.size := Nat.lt_of_lt_of_le (by first | assumption | omega | (simp; done) | (simp; omega)) hS2.size; have HA2 := Lib.hid hA2; clear hA2)
      refine hK.out _ _ ?_ (fun hHeld => ?_)
      · (go_keep)
      clear hK K
      try simp only [Act.put, List.getElem_toArray, List.getElem_cons_succ, List.getElem_cons_zero, List.setIfInBounds_toArray, List.set_cons_zero, List.set_cons_succ]
      refine wpAnyH_take (i := 6) (v := ?_) rfl (by kernel_rfl) (by kernel_rfl) (by kernel_rfl) (fun _ _ _ h => h) (Or.inl ⟨by rfl, ?_⟩) (by assumption) ?_
      rotate_left 1
      · (intro w hSw; (try dsimp only at hSw); go_simp; (try with_reducible rfl))
      try simp only [Act.put, List.getElem_toArray, List.getElem_cons_succ, List.getElem_cons_zero, List.setIfInBounds_toArray, List.set_cons_zero, List.set_cons_succ]
      refine wpAnyH_ready (rs := [7]) (by kernel_rfl) (by simp) ?_
      refine AllReadyH.cons rfl (fun K hK => ?_) AllReadyH.nil
      try simp only [List.getElem_toArray, List.getElem_cons_succ, List.getElem_cons_zero]
      go_simp
      refine hK.out _ _ ?_ (fun hHeld => ?_)
      · (go_keep)
      clear hK K
      try simp only [Act.put, List.getElem_toArray, List.getElem_cons_succ, List.getElem_cons_zero, List.setIfInBounds_toArray, List.set_cons_zero, List.set_cons_succ]
      refine wpAnyH_take (i := 8) (v := ?_) rfl (by kernel_rfl) (by kernel_rfl) (by kernel_rfl) (fun _ _ _ h => h) (Or.inl ⟨by rfl, ?_⟩) (by assumption) ?_
      rotate_left 1
      · (intro w hSw; (try dsimp only at hSw); go_simp; (try with_reducible rfl))
      try simp only [Act.put, List.getElem_toArray, List.getElem_cons_succ, List.getElem_cons_zero, List.setIfInBounds_toArray, List.set_cons_zero, List.set_cons_succ]
      refine wpAnyH_done (by kernel_rfl) ?_ _
      go_wp2_with fail
      go_meet
      case rel =>
        have z2 := hS2.size
        (try simp only [World.size_alloc, World.size_drew] at z2)
        have z3 := HA2.out
        (try simp only [World.size_alloc, World.size_drew] at z3)
        refine ⟨_, _, _, rfl, by first | omega | (simp; omega), CoordAt.new (by first | rfl | simp), Ty.step _ (Own.rep' (z3.less ?_) ?_) (by (repeat (first | exact Step.refl _ | refine Step.alloc ?_ _ | refine Step.drew ?_ | refine Step.drewN ?_ _ | refine Step.setCell ?_ (by first | exact Nat.le_refl _ | assumption | omega | (simp; done) | (simp; omega)) _ | assumption | refine Step.trans ?_ (by assumption : Step _ _)))), ?_, by first | omega | (simp; omega), by (repeat (first | exact Step.refl _ | refine Step.alloc ?_ _ | refine Step.drew ?_ | refine Step.drewN ?_ _ | refine Step.setCell ?_ (by first | exact Nat.le_refl _ | assumption | omega | (simp; done) | (simp; omega)) _ | assumption | refine Step.trans ?_ (by assumption : Step _ _)))⟩
        · rintro b hb (h | h | h | h)
          · omega
          · omega
          · have := Option.some.inj h; omega
          · simp [mapBlock] at h
        · intro b hb hM
          have z4 := z3.lt hb
          rcases hM with h | h | h | h
          · omega
          · omega
          · have := Option.some.inj h; omega
          · simp [mapBlock] at h
        · first
          | exact (Below.heap_alloc _ _ _ (by simp)).trans (heap_alloc_at rfl)
          | exact (Step.heap (by (repeat (first | exact Step.refl _ | refine Step.alloc ?_ _ | refine Step.drew ?_ | refine Step.drewN ?_ _ | refine Step.setCell ?_ (by first | exact Nat.le_refl _ | assumption | omega | (simp; done) | (simp; omega)) _ | assumption | refine Step.trans ?_ (by assumption : Step _ _))) : Step ((w.alloc _).alloc (Obj.map #[] 0)) _) (by simp)).trans (heap_alloc_at (by simp))
  case rest =>
    obtain ⟨cb, mb, vo, rfl, hcb, hC, hO, hmb, hmB, hS⟩ := hcut
    have hcl := hC.lt
    have hml : mb < wc.heap.size := (Array.getElem?_eq_some_iff.1 hmb).1
    have hne : mb ≠ cb := fun e => by subst e; rw [hC] at hmb; cases hmb
    have HC := Lib.hid hC
    have HO := Lib.hid hO
    have Hmb := Lib.hid hmb
    have Hne := Lib.hid hne
    clear hC hO hmb hne
    go_upto_region 3 with (go_at_call 34; refine (Parts_ _ M _ _ sp xs (by refine Ty.step _ (Hid.out (by assumption)) ?_; (repeat (first | exact Step.refl _ | refine Step.alloc ?_ _ | refine Step.drew ?_ | refine Step.drewN ?_ _ | refine Step.setCell ?_ (by first | exact Nat.le_refl _ | assumption | omega | (simp; done) | (simp; omega)) _ | assumption | refine Step.trans ?_ (by assumption : Step _ _)))) (by refine Ty.step _ (Hid.out (by assumption)) ?_; (repeat (first | exact Step.refl _ | refine Step.alloc ?_ _ | refine Step.drew ?_ | refine Step.drewN ?_ _ | refine Step.setCell ?_ (by first | exact Nat.le_refl _ | assumption | omega | (simp; done) | (simp; omega)) _ | assumption | refine Step.trans ?_ (by assumption : Step _ _)))) hsp hxs).mono ?_; rintro e w3 ⟨v3, rfl, hA3, hS3⟩; obtain ⟨a4, c4, rfl⟩ := hA3.val; have c30 := HC.out.step hS3; have p3 : w3.cell? ⟨cb, 4, none⟩ = some (.slice none 0 0) := c30.cell 4; have f3 : w3.frozen? ⟨cb, 4, none⟩ = false := c30.frozen _; have HA3 := Lib.hid hA3; have C30 := Lib.hid c30; clear hA3 c30)
    refine wp_code (fun wl => CoordAt wl cb (coordCells x vo (.slice a4 (partsB sp xs (sp.length + 1)).length c4) (.map (some mb)) 0 0 (.map none) (.slice none 0 0) false (.slice none 0 0) false 0 (patB p)) ∧ (Ty.slice tOp).rep wl (coM w.heap.size cb (.map (some mb)) (.map none)) [vo] xs ∧
      (Ty.slice tPart).rep wl (coM w.heap.size cb (.map (some mb)) (.map none)) [.slice a4 (partsB sp xs (sp.length + 1)).length c4] (partsB sp xs (sp.length + 1)) ∧ wl.heap[mb]? = some (.map #[] 0) ∧ Step w wl) ?_ ?_
    · refine ⟨C30.out.set 4 _, ?_, ?_, ?_, by (repeat (first | exact Step.refl _ | refine Step.alloc ?_ _ | refine Step.drew ?_ | refine Step.drewN ?_ _ | refine Step.setCell ?_ (by first | exact Nat.le_refl _ | assumption | omega | (simp; done) | (simp; omega)) _ | assumption | refine Step.trans ?_ (by assumption : Step _ _)))⟩
      · exact Ty.kept _ (Ty.step _ HO.out hS3) (Kept.setCell _ _ _ (.inr (.inl rfl)))
      · exact Ty.kept _ (HA3.out.fresh (mapM_lt (by have := hS.size; omega) hcl hml)) (Kept.setCell _ _ _ (.inr (.inl rfl)))
      · exact (Below.heap_setCell _ _ _ _ Hne.out).trans ((hS3.heap hml).trans Hmb.out)
    rintro wl ⟨hC, hO, hT, hmb, hS'⟩
    have hcl' := hC.lt
    have p4 : wl.cell? ⟨cb, 4, none⟩ = some (.slice a4 (partsB sp xs (sp.length + 1)).length c4) := hC.cell 4
    have HC := Lib.hid hC
    have HO := Lib.hid hO
    have HT := Lib.hid hT
    have Hmb := Lib.hid hmb
    have HSL := Lib.hid hS'
    have Hpl : Hid ((partsB sp xs (sp.length + 1)).length ≤ sp.length + 1) := Lib.hid partsB_le
    have hpl := Hpl.out
    clear hC hO hT hmb hS' hS3 HA3 p3 f3 C30
    go_wp2
    go_loopw [31] (fun i w' => ∃ (k : Nat) (vs : Value), i = .int .i64 k ∧ k ≤ (partsB sp xs (sp.length + 1)).length ∧ CoordAt w' cb (coordCells x vo (.slice a4 (partsB sp xs (sp.length + 1)).length c4) (.map (some mb)) 0 0 (.map none) vs false (.slice none 0 0) false 0 (patB p)) ∧
      Own Ty.int 3 w' (fun _ => False) wl.heap.size vs (((partsB sp xs (sp.length + 1)).map (·.shard)).take k) ∧ Turn (· = cb) wl w') (fun i _ => (partsB sp xs (sp.length + 1)).length - (Go.RowKit.intOf i).toNat)
    case atStart => exact ⟨0, _, rfl, by omega, HC.out, Own.nil, Turn.refl _ _⟩
    case round =>
      obtain ⟨k, vs, rfl, hk, hC, hA, hB⟩ := hrel
      have hsz := hB.size
      have HTr := Lib.hid (Ty.kept _ HT.out (hB.kept.mono (fun b hb => Or.inr (Or.inl hb))))
      obtain ⟨sa, sc, rfl⟩ := hA.val
      have HCr := Lib.hid hC
      have HAr := Lib.hid hA
      have HBr := Lib.hid hB
      have p9 : wr.cell? ⟨cb, 9, none⟩ = some (.slice sa (((partsB sp xs (sp.length + 1)).map (·.shard)).take k).length sc) := hC.cell 9
      have f9 : wr.frozen? ⟨cb, 9, none⟩ = false := hC.frozen _
      clear hC hA hB
      by_cases hlt : k < (partsB sp xs (sp.length + 1)).length
      · have nP : Hid (∀ g, (Value.slice sa (((partsB sp xs (sp.length + 1)).map (·.shard)).take k).length sc).ownBlock = some g → g ≠ cb) := Lib.hid (fun g hg e => absurd (HAr.out.lt hg).1 (by omega))
        have htk : Hid (((partsB sp xs (sp.length + 1)).map (·.shard)).take (k + 1) = ((partsB sp xs (sp.length + 1)).map (·.shard)).take k ++ [(partsB sp xs (sp.length + 1))[k].shard]) := Lib.hid (by rw [List.take_succ_eq_append_getElem (by simpa using hlt)]; simp)
        have hln : Hid ((((partsB sp xs (sp.length + 1)).map (·.shard)).take k).length ≤ k) := Lib.hid (by rw [List.length_take]; omega)
        obtain ⟨ob, oo, oes, rfl, ohb, _, ou, ocu⟩ := Ty.slice_at HTr.out hlt
        obtain ⟨oc1, oc2, rfl, oh0, oh1, oh2⟩ := ou
        have oq0 := (Step.cell (w' := wr) (by (repeat (first | exact Step.refl _ | refine Step.alloc ?_ _ | refine Step.drew ?_ | refine Step.drewN ?_ _ | refine Step.setCell ?_ (by first | exact Nat.le_refl _ | assumption | omega | (simp; done) | (simp; omega)) _ | assumption | refine Step.trans ?_ (by assumption : Step _ _)))) ohb _).trans (ocu 0 _ rfl)
        have oq1 := (Step.cell (w' := wr) (by (repeat (first | exact Step.refl _ | refine Step.alloc ?_ _ | refine Step.drew ?_ | refine Step.drewN ?_ _ | refine Step.setCell ?_ (by first | exact Nat.le_refl _ | assumption | omega | (simp; done) | (simp; omega)) _ | assumption | refine Step.trans ?_ (by assumption : Step _ _)))) ohb _).trans (ocu 1 _ rfl)
        have oq2 := (Step.cell (w' := wr) (by (repeat (first | exact Step.refl _ | refine Step.alloc ?_ _ | refine Step.drew ?_ | refine Step.drewN ?_ _ | refine Step.setCell ?_ (by first | exact Nat.le_refl _ | assumption | omega | (simp; done) | (simp; omega)) _ | assumption | refine Step.trans ?_ (by assumption : Step _ _)))) ohb _).trans (ocu 2 _ rfl)
        simp only [show tPart.n = 3 from rfl, Nat.add_zero] at oq0 oq1 oq2
        obtain ⟨oa1, on1, rfl, _⟩ := Ty.slice_val oh1
        obtain ⟨oa2, on2, rfl, _⟩ := Ty.slice_val oh2
        have oH0 := Lib.hid oh0
        have oH1 := Lib.hid oh1
        have oH2 := Lib.hid oh2
        clear ocu oh0 oh1 oh2
        generalize hcap : (((partsB sp xs (sp.length + 1)).map (·.shard)).take k).length = n at *
        have Hcap := Lib.hid hcap
        clear hcap
        go_wp2
        refine wp_region_cut (S := (fun w' => w'.cell? ⟨cb, 9, none⟩ = some (.slice sa n sc) ∧ w'.cell? ⟨wr.heap.size, 0, none⟩ = some (.int .i64 (partsB sp xs (sp.length + 1))[k].shard))) 11 (by kernel_rfl) ?_ (fun hHeld => ?_)
        · (go_keep)
        refine wpAnyC_take (i := 0) (v := ?_) rfl (by kernel_rfl) (by kernel_rfl) (by kernel_rfl) (by decide) [9, 10, 11] (by kernel_rfl) (fun _ _ _ h => h) (Or.inl ⟨by rfl, ?_⟩) (by assumption) ?_
        rotate_left 1
        · (intro w hSw; (try dsimp only at hSw); go_simp; (try with_reducible rfl))
        try simp only [Act.put, List.getElem_toArray, List.getElem_cons_succ, List.getElem_cons_zero, List.setIfInBounds_toArray, List.set_cons_zero, List.set_cons_succ]
        refine wpAnyC_take (i := 1) (v := ?_) rfl (by kernel_rfl) (by kernel_rfl) (by kernel_rfl) (by decide) [2, 3, 4, 8, 9, 10, 11] (by kernel_rfl) (fun _ _ _ h => h) (Or.inl ⟨by rfl, ?_⟩) (by assumption) ?_
        rotate_left 1
        · (intro w hSw; (try dsimp only at hSw); go_simp; (try with_reducible rfl))
        try simp only [Act.put, List.getElem_toArray, List.getElem_cons_succ, List.getElem_cons_zero, List.setIfInBounds_toArray, List.set_cons_zero, List.set_cons_succ]
        refine wpAnyC_take (i := 2) (v := ?_) rfl (by kernel_rfl) (by kernel_rfl) (by kernel_rfl) (by decide) [3, 4, 8, 9, 10, 11] (by kernel_rfl) (fun _ _ _ h => h) (Or.inl ⟨by rfl, ?_⟩) (by assumption) ?_
        rotate_left 1
        · (intro w hSw; (try dsimp only at hSw); go_simp; (try with_reducible rfl))
        try simp only [Act.put, List.getElem_toArray, List.getElem_cons_succ, List.getElem_cons_zero, List.setIfInBounds_toArray, List.set_cons_zero, List.set_cons_succ]
        refine wpAnyC_take (i := 3) (v := ?_) rfl (by kernel_rfl) (by kernel_rfl) (by kernel_rfl) (by decide) [4, 8, 9, 10, 11] (by kernel_rfl) (fun _ _ _ h => h) (Or.inl ⟨by rfl, ?_⟩) (by assumption) ?_
        rotate_left 1
        · (intro w hSw; (try dsimp only at hSw); go_simp; (try with_reducible rfl))
        try simp only [Act.put, List.getElem_toArray, List.getElem_cons_succ, List.getElem_cons_zero, List.setIfInBounds_toArray, List.set_cons_zero, List.set_cons_succ]
        refine wpAnyC_take (i := 4) (v := ?_) rfl (by kernel_rfl) (by kernel_rfl) (by kernel_rfl) (by decide) [8, 9, 10, 11] (by kernel_rfl) (fun _ _ _ h => h) (Or.inl ⟨by rfl, ?_⟩) (by assumption) ?_
        rotate_left 1
        · (intro w hSw; (try dsimp only at hSw); go_simp; (try with_reducible rfl))
        try simp only [Act.put, List.getElem_toArray, List.getElem_cons_succ, List.getElem_cons_zero, List.setIfInBounds_toArray, List.set_cons_zero, List.set_cons_succ]
        refine wpAnyC_take (i := 5) (v := ?_) rfl (by kernel_rfl) (by kernel_rfl) (by kernel_rfl) (by decide) [6, 7, 8, 9, 10, 11] (by kernel_rfl) (fun _ _ _ h => h) (Or.inl ⟨by rfl, ?_⟩) (by assumption) ?_
        rotate_left 1
        · (intro w hSw; (try dsimp only at hSw); go_simp; (try with_reducible rfl))
        try simp only [Act.put, List.getElem_toArray, List.getElem_cons_succ, List.getElem_cons_zero, List.setIfInBounds_toArray, List.set_cons_zero, List.set_cons_succ]
        refine wpAnyC_take (i := 6) (v := ?_) rfl (by kernel_rfl) (by kernel_rfl) (by kernel_rfl) (by decide) [7, 8, 9, 10, 11] (by kernel_rfl) (fun _ _ _ h => h) (Or.inl ⟨by rfl, ?_⟩) (by assumption) ?_
        rotate_left 1
        · (intro w hSw; (try dsimp only at hSw); go_simp; (try with_reducible rfl))
        try simp only [Act.put, List.getElem_toArray, List.getElem_cons_succ, List.getElem_cons_zero, List.setIfInBounds_toArray, List.set_cons_zero, List.set_cons_succ]
        refine wpAnyC_ready (rs := [7]) (by kernel_rfl) (by simp) ?_
        refine AllReadyC.cons rfl (by decide) (fun K hK => ?_) AllReadyC.nil
        try simp only [List.getElem_toArray, List.getElem_cons_succ, List.getElem_cons_zero]
        go_simp
        refine hK.out _ _ ?_ (fun hHeld => ?_)
        · (go_keep)
        clear hK K
        try simp only [Act.put, List.getElem_toArray, List.getElem_cons_succ, List.getElem_cons_zero, List.setIfInBounds_toArray, List.set_cons_zero, List.set_cons_succ]
        refine wpAnyC_ready (rs := [8]) (by kernel_rfl) (by simp) ?_
        refine AllReadyC.cons rfl (by decide) (fun K hK => ?_) AllReadyC.nil
        try simp only [List.getElem_toArray, List.getElem_cons_succ, List.getElem_cons_zero]
        refine ite_then rfl ?_; refine wp_append_gen (E := Ty.int) (B := wl.heap.size) (M := fun _ => False) (ys := [(partsB sp xs (sp.length + 1))[k].shard]) (.tmp 39) (.tmp 42) rfl stInts (Own.step HAr.out (by (repeat (first | exact Step.refl _ | refine Step.alloc ?_ _ | refine Step.drew ?_ | refine Step.drewN ?_ _ | refine Step.setCell ?_ (by first | exact Nat.le_refl _ | assumption | omega | (simp; done) | (simp; omega)) _ | assumption | refine Step.trans ?_ (by assumption : Step _ _))))) ?_ ?_ (by first | assumption | omega | (simp; done) | (simp; omega)) rfl rfl ?_; (first | exact Src.drew (Src.oneAt (E := Ty.int) (by simp) ⟨rfl, oH0.out⟩) | exact Src.oneAt (E := Ty.int) (by simp) ⟨rfl, oH0.out⟩); exact (by rw [Hcap.out, lim_eq]; exact Nat.le_trans (Nat.succ_le_succ hln.out) (by omega)); intro v4 w4 hA4 hG4 _; obtain ⟨b4, m4, rfl⟩ := hA4.val; have hC4 := (HCr.out.step (by (repeat (first | exact Step.refl _ | refine Step.alloc ?_ _ | refine Step.drew ?_ | refine Step.drewN ?_ _ | refine Step.setCell ?_ (by first | exact Nat.le_refl _ | assumption | omega | (simp; done) | (simp; omega)) _ | assumption | refine Step.trans ?_ (by assumption : Step _ _))))).kept (hG4.block cb (by first | assumption | omega | (simp; done) | (simp; omega)) (fun e => nP.out _ e.symm rfl)); have c4 : w4.cell? ⟨cb, 9, none⟩ = some (.slice sa n sc) := hC4.cell 9; have t4 : w4.frozen? ⟨cb, 9, none⟩ = false := hC4.frozen _; have HC4 := Lib.hid hC4; have HA4 := Lib.hid hA4; have HT4 := Lib.hid (Turn.grown (HBr.out.then (by (repeat (first | exact Step.refl _ | refine Step.alloc ?_ _ | refine Step.drew ?_ | refine Step.drewN ?_ _ | refine Step.setCell ?_ (by first | exact Nat.le_refl _ | assumption | omega | (simp; done) | (simp; omega)) _ | assumption | refine Step.trans ?_ (by assumption : Step _ _))))) hG4 (fun g hg h => absurd (HAr.out.lt hg).1 (by omega))); have s4 : ∀ j, w4.cell? ⟨wr.heap.size, j, none⟩ = _ := fun j => grown_cell hG4 (by first | assumption | omega | (simp; done) | (simp; omega)) (fun e => absurd (HAr.out.lt e).2 (Nat.lt_irrefl _)) j; clear hA4 hC4
        refine hK.out _ _ ?_ (fun hHeld => ?_)
        · (go_keep)
        clear hK K
        try simp only [Act.put, List.getElem_toArray, List.getElem_cons_succ, List.getElem_cons_zero, List.setIfInBounds_toArray, List.set_cons_zero, List.set_cons_succ]
        refine wpAnyC_take (i := 9) (v := ?_) rfl (by kernel_rfl) (by kernel_rfl) (by kernel_rfl) (by decide) [10, 11] (by kernel_rfl) (fun _ _ _ h => h) (Or.inl ⟨by rfl, ?_⟩) (by assumption) ?_
        rotate_left 1
        · (intro w hSw; (try dsimp only at hSw); go_simp; (try with_reducible rfl))
        try simp only [Act.put, List.getElem_toArray, List.getElem_cons_succ, List.getElem_cons_zero, List.setIfInBounds_toArray, List.set_cons_zero, List.set_cons_succ]
        refine wpAnyC_take (i := 10) (v := ?_) rfl (by kernel_rfl) (by kernel_rfl) (by kernel_rfl) (by decide) [11] (by kernel_rfl) (fun _ _ _ h => h) (Or.inl ⟨by rfl, ?_⟩) (by assumption) ?_
        rotate_left 1
        · (intro w hSw; (try dsimp only at hSw); go_simp; (try with_reducible rfl))
        try simp only [Act.put, List.getElem_toArray, List.getElem_cons_succ, List.getElem_cons_zero, List.setIfInBounds_toArray, List.set_cons_zero, List.set_cons_succ]
        refine wpAnyC_ready (rs := [11]) (by kernel_rfl) (by simp) ?_
        refine AllReadyC.cut rfl (fun K hK => ?_)
        try simp only [List.getElem_toArray, List.getElem_cons_succ, List.getElem_cons_zero]
        go_simp
        refine hK.out _ _ trivial (fun hHeld => ?_)
        clear hK K
        try simp only [Act.put, List.getElem_toArray, List.getElem_cons_succ, List.getElem_cons_zero, List.setIfInBounds_toArray, List.set_cons_zero, List.set_cons_succ]
        have hTrue : True := trivial
        refine wpAnyH_done (by kernel_rfl) ?_ _
        go_wp2
        go_roundw
        case rel =>
          refine ⟨k + 1, _, by go_num, by omega, HC4.out.set 9 _, ?_, Turn.setCell HT4.out (fun _ => rfl) _⟩
          rw [htk.out]
          exact Own.flat (E := Ty.int) Ty.flat_int (Own.set (M := (· = cb)) (Own.flat (E := Ty.int) Ty.flat_int (Own.relen HA4.out (by have := Hcap.out; simp at this ⊢; omega))) rfl (by show cb < wl.heap.size; omega) _)
        case measure => simp [Go.RowKit.intOf]; omega
      · obtain rfl : k = (partsB sp xs (sp.length + 1)).length := by omega
        go_wp2
        go_ret
        refine ⟨cb, rfl, ⟨vo, _, _, _, _, _, ⟨HCr.out, hcb, HX.out, ?_, HTr.out, ?_, ?_, ?_, rfl, ?_, ?_, ?_, ?_, ?_⟩⟩, ?_⟩
        · exact Ty.kept _ HO.out (HBr.out.kept.mono (fun b hb => Or.inr (Or.inl hb)))
        · have := HAr.out
          rw [show ((partsB sp xs (sp.length + 1)).map (·.shard)).take (partsB sp xs (sp.length + 1)).length = (partsB sp xs (sp.length + 1)).map (·.shard) from List.take_of_length_le (by simp)] at this ⊢
          refine Own.rep' (Own.flat (E := Ty.int) Ty.flat_int this) (fun b hb hM => ?_)
          have h1 := (this.lt hb).1
          have h2 := mapM_lt (n := wl.heap.size) (by have := HSL.out.size; omega) hcl' (Array.getElem?_eq_some_iff.1 Hmb.out).1 b hM
          omega
        · exact ⟨none, 0, rfl, by simp, by simp [maxLen], by simp [lim], fun h => by simp at h⟩
        · exact ⟨mb, rfl, MapT.empty ((HBr.out.block mb (Array.getElem?_eq_some_iff.1 Hmb.out).1 Hne.out).trans Hmb.out), .inr (.inr (.inl rfl)), by simp, by simp⟩
        · intro b hb
          obtain rfl : mb = b := by simpa [mapBlock] using hb
          exact hmB
        · intro b hb
          simp [mapBlock] at hb
        · intro b _ hb
          simp [mapBlock] at hb
        · simp
          omega
        · show I64 (patB p)
          have := HP.out
          unfold patB I64 at *
          split <;> omega
        · exact Turn.step HSL.out HBr.out (fun b hb => by subst hb; exact hcb)
end Go.Proofs.YthflkfgiclcdiaaGreat
