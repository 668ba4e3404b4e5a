/-
  Walk: the law's own reader (Scan of a list).
-/
import Derived.Test.YthflkfgiclcdiaaZP9
import Derived.Test.YthflkfgiclcdiaaZW20
import Derived.Test.YthflkfgiclcdiaaZCut
set_option linter.unusedVariables false
set_option linter.unusedSimpArgs false
namespace Go.Proofs.Ythflkfgiclcdiaa
open Go.RowKit Go.Gr
set_option linter.unusedSimpArgs false
/-- Three cells, whatever they are. -/
def tRaw3 : Ty (List Value) where
  n := 3
  rep := fun _ _ cs x => cs = x ∧ x.length = 3 ∧ ∀ u ∈ x, u.oneCell' = true
  len := fun h => by rw [h.1]; exact h.2.1
  one := fun h u hu => by rw [h.1] at hu; exact h.2.2 u hu
  keep := fun h _ => h
theorem flat_raw3 : tRaw3.Flat := fun h => h
theorem stRaw3 : SliceTy Try.prog 63 97 tRaw3.n := .mk' (z := .agg #[.slice none 0 0, .slice none 0 0, .bool false]) (by_ := 56) Try.underlying63 (by kernel_rfl) rfl (by decide) (by omega)
/-- Block lb is the law's list, which answers no error. -/
def LsAt (w : World) (lb : Nat) (vp va : Value) : Prop := CellsAt w lb #[vp, va, .int .i64 0] 65
set_option maxRecDepth 100000 in
set_option maxHeartbeats 4000000 in
theorem lScan_ {w : World} {M : Nat → Prop} {lb B : Nat} {vp va fv tv : Value} {rs : List (List Value)} {P : List DPair} {lo hi : List UInt8} {most : Nat} (hL : LsAt w lb vp va) (hA : Own tRaw3 97 w (fun _ => False) B va rs) (hlB : lb < B) (hB : B ≤ w.heap.size) (hrs : rs.length ≤ 1000)
    (h : (Ty.slice tPair).rep w M [vp] P) (hf : Ty.bytes.rep w M [fv] lo) (ht : Ty.bytes.rep w M [tv] hi) (hMl : M lb) (hMa : ∀ b, va.ownBlock = some b → M b) (h1 : 1 ≤ most) (h2 : most ≤ 1000000) :
    Calls Try.prog 196 #[.pointer (some ⟨lb, 0, none⟩), fv, tv, .int .i64 (most : Int)] w fun e w' => ∃ v' va' rs', e = .returned (.tuple #[v', .int .i64 0]) ∧ LsAt w' lb vp va' ∧ Own tRaw3 97 w' (fun _ => False) B va' rs' ∧ rs'.length = rs.length + 1 ∧
      (va'.ownBlock = va.ownBlock ∨ ∃ b, va'.ownBlock = some b ∧ w.heap.size ≤ b) ∧ Own tPair 95 w' (fun b => b < w.heap.size ∨ va'.ownBlock = some b) w.heap.size v' (scanB P lo hi most) ∧ Turn (fun b => b = lb ∨ va.ownBlock = some b) w w' := by
  obtain ⟨pa, pc, rfl, _⟩ := Ty.slice_val h
  obtain ⟨fa, fc, rfl, _⟩ := Ty.slice_val hf
  obtain ⟨ta, tc, rfl, _⟩ := Ty.slice_val ht
  obtain ⟨ra, rn, rc, rfl, HRN⟩ := hA.valN
  have hlb := CellsAt.lt hL
  have p1 : w.cell? ⟨lb, 1, none⟩ = some (.slice ra rn rc) := CellsAt.cell hL 1
  have f1 : w.frozen? ⟨lb, 1, none⟩ = false := CellsAt.frozen hL 1
  have HL := Lib.hid hL
  have HA := Lib.hid hA
  have H := Lib.hid h
  have HF := Lib.hid hf
  have HT := Lib.hid ht
  have hlim4 : rs.length + 1 ≤ lim := by rw [lim_eq]; omega
  clear hL hA h hf ht
  go_enter Try.func196, Try.ntmps196
  go_upto_region 1 with fail
  refine wp_region_cut (S := (fun w' => w'.cell? ⟨lb, 1, none⟩ = some (.slice ra rn rc))) 14 (by kernel_rfl) ?_ (fun hHeld => ?_)
  · (go_keep)
  refine wpAnyC_take (i := 0) (v := ?_) rfl (by kernel_rfl) (by kernel_rfl) (by kernel_rfl) (by decide) [12, 13, 14] (by kernel_rfl) (fun _ _ _ h => h) (Or.inl ⟨by rfl, ?_⟩) (by assumption) ?_
  rotate_left 1
  · (intro w hSw; (try dsimp only at hSw); go_simp; (try with_reducible rfl))
  try simp only [Act.put, List.getElem_toArray, List.getElem_cons_succ, List.getElem_cons_zero, List.setIfInBounds_toArray, List.set_cons_zero, List.set_cons_succ]
  refine wpAnyC_take (i := 1) (v := ?_) rfl (by kernel_rfl) (by kernel_rfl) (by kernel_rfl) (by decide) [2, 3, 4, 11, 12, 13, 14] (by kernel_rfl) (fun _ _ _ h => h) (Or.inl ⟨by rfl, ?_⟩) (by assumption) ?_
  rotate_left 1
  · (intro w hSw; (try dsimp only at hSw); go_simp; (try with_reducible rfl))
  try simp only [Act.put, List.getElem_toArray, List.getElem_cons_succ, List.getElem_cons_zero, List.setIfInBounds_toArray, List.set_cons_zero, List.set_cons_succ]
  refine wpAnyC_take (i := 2) (v := ?_) rfl (by kernel_rfl) (by kernel_rfl) (by kernel_rfl) (by decide) [3, 4, 11, 12, 13, 14] (by kernel_rfl) (fun _ _ _ h => h) (Or.inl ⟨by rfl, ?_⟩) (by assumption) ?_
  rotate_left 1
  · (intro w hSw; (try dsimp only at hSw); go_simp; (try with_reducible rfl))
  try simp only [Act.put, List.getElem_toArray, List.getElem_cons_succ, List.getElem_cons_zero, List.setIfInBounds_toArray, List.set_cons_zero, List.set_cons_succ]
  refine wpAnyC_take (i := 3) (v := ?_) rfl (by kernel_rfl) (by kernel_rfl) (by kernel_rfl) (by decide) [4, 11, 12, 13, 14] (by kernel_rfl) (fun _ _ _ h => h) (Or.inl ⟨by rfl, ?_⟩) (by assumption) ?_
  rotate_left 1
  · (intro w hSw; (try dsimp only at hSw); go_simp; (try with_reducible rfl))
  try simp only [Act.put, List.getElem_toArray, List.getElem_cons_succ, List.getElem_cons_zero, List.setIfInBounds_toArray, List.set_cons_zero, List.set_cons_succ]
  refine wpAnyC_take (i := 4) (v := ?_) rfl (by kernel_rfl) (by kernel_rfl) (by kernel_rfl) (by decide) [11, 12, 13, 14] (by kernel_rfl) (fun _ _ _ h => h) (Or.inl ⟨by rfl, ?_⟩) (by assumption) ?_
  rotate_left 1
  · (intro w hSw; (try dsimp only at hSw); go_simp; (try with_reducible rfl))
  try simp only [Act.put, List.getElem_toArray, List.getElem_cons_succ, List.getElem_cons_zero, List.setIfInBounds_toArray, List.set_cons_zero, List.set_cons_succ]
  refine wpAnyC_take (i := 5) (v := ?_) rfl (by kernel_rfl) (by kernel_rfl) (by kernel_rfl) (by decide) [6, 8, 9, 10, 11, 12, 13, 14] (by kernel_rfl) (fun _ _ _ h => h) (Or.inl ⟨by rfl, ?_⟩) (by assumption) ?_
  rotate_left 1
  · (intro w hSw; (try dsimp only at hSw); go_simp; (try with_reducible rfl))
  try simp only [Act.put, List.getElem_toArray, List.getElem_cons_succ, List.getElem_cons_zero, List.setIfInBounds_toArray, List.set_cons_zero, List.set_cons_succ]
  refine wpAnyC_take (i := 7) (v := ?_) rfl (by kernel_rfl) (by kernel_rfl) (by kernel_rfl) (by decide) [8, 9, 10, 11, 12, 13, 14] (by kernel_rfl) (fun _ _ _ h => h) (Or.inl ⟨by rfl, ?_⟩) (by assumption) ?_
  rotate_left 1
  · (intro w hSw; (try dsimp only at hSw); go_simp; (try with_reducible rfl))
  try simp only [Act.put, List.getElem_toArray, List.getElem_cons_succ, List.getElem_cons_zero, List.setIfInBounds_toArray, List.set_cons_zero, List.set_cons_succ]
  refine wpAnyC_ready (rs := [6]) (by kernel_rfl) (by simp) ?_
  refine AllReadyC.cons rfl (by decide) (fun K hK => ?_) AllReadyC.nil
  try simp only [List.getElem_toArray, List.getElem_cons_succ, List.getElem_cons_zero]
  go_simp
  (go_at_call 44; refine (Copy_ _ M _ _ (Ty.step _ HF.out (by (repeat (first | exact Step.refl _ | refine Step.alloc ?_ _ | refine Step.drew ?_ | refine Step.drewN ?_ _ | refine Step.setCell ?_ (by first | exact Nat.le_refl _ | assumption | omega | (simp; done) | (simp; omega)) _ | assumption | refine Step.trans ?_ (by assumption : Step _ _)))))).mono ?_; rintro e2 w2 ⟨v2, rfl, hA2, hS2⟩; obtain ⟨b2, m2, rfl⟩ := hA2.val; have f2_0 : ∀ j, w2.frozen? ⟨lb, j, none⟩ = _ := fun j => hS2.frozen (by first | assumption | omega | (simp; done) | (simp; omega)) j; have s2_0 : ∀ j, w2.cell? ⟨lb, j, none⟩ = _ := fun j => hS2.cell (by first | assumption | omega | (simp; done) | (simp; omega)) j; have z2_0 : lb < w2.heap.size := Nat.lt_of_lt_of_le (by first | assumption | omega | (simp; done) | (simp; omega)) hS2.size; have HA2 := Lib.hid hA2; clear hA2)
  refine hK.out _ _ ?_ (fun hHeld => ?_)
  · (go_keep)
  clear hK K
  try simp only [Act.put, List.getElem_toArray, List.getElem_cons_succ, List.getElem_cons_zero, List.setIfInBounds_toArray, List.set_cons_zero, List.set_cons_succ]
  refine wpAnyC_ready (rs := [8]) (by kernel_rfl) (by simp) ?_
  refine AllReadyC.cons rfl (by decide) (fun K hK => ?_) AllReadyC.nil
  try simp only [List.getElem_toArray, List.getElem_cons_succ, List.getElem_cons_zero]
  go_simp
  (go_at_call 44; refine (Copy_ _ M _ _ (Ty.step _ HT.out (by (repeat (first | exact Step.refl _ | refine Step.alloc ?_ _ | refine Step.drew ?_ | refine Step.drewN ?_ _ | refine Step.setCell ?_ (by first | exact Nat.le_refl _ | assumption | omega | (simp; done) | (simp; omega)) _ | assumption | refine Step.trans ?_ (by assumption : Step _ _)))))).mono ?_; rintro e3 w3 ⟨v3, rfl, hA3, hS3⟩; obtain ⟨b3, m3, rfl⟩ := hA3.val; have f3_0 : ∀ j, w3.frozen? ⟨lb, j, none⟩ = _ := fun j => hS3.frozen (by first | assumption | omega | (simp; done) | (simp; omega)) j; have s3_0 : ∀ j, w3.cell? ⟨lb, j, none⟩ = _ := fun j => hS3.cell (by first | assumption | omega | (simp; done) | (simp; omega)) j; have z3_0 : lb < w3.heap.size := Nat.lt_of_lt_of_le (by first | assumption | omega | (simp; done) | (simp; omega)) hS3.size; have HA3 := Lib.hid hA3; clear hA3)
  refine hK.out _ _ ?_ (fun hHeld => ?_)
  · (go_keep)
  clear hK K
  try simp only [Act.put, List.getElem_toArray, List.getElem_cons_succ, List.getElem_cons_zero, List.setIfInBounds_toArray, List.set_cons_zero, List.set_cons_succ]
  refine wpAnyC_take (i := 9) (v := ?_) rfl (by kernel_rfl) (by kernel_rfl) (by kernel_rfl) (by decide) [10, 11, 12, 13, 14] (by kernel_rfl) (fun _ _ _ h => h) (Or.inl ⟨by rfl, ?_⟩) (by assumption) ?_
  rotate_left 1
  · (intro w hSw; (try dsimp only at hSw); go_simp; (try with_reducible rfl))
  try simp only [Act.put, List.getElem_toArray, List.getElem_cons_succ, List.getElem_cons_zero, List.setIfInBounds_toArray, List.set_cons_zero, List.set_cons_succ]
  refine wpAnyC_ready (rs := [10]) (by kernel_rfl) (by simp) ?_
  refine AllReadyC.cons rfl (by decide) (fun K hK => ?_) AllReadyC.nil
  try simp only [List.getElem_toArray, List.getElem_cons_succ, List.getElem_cons_zero]
  go_simp
  refine hK.out _ _ ?_ (fun hHeld => ?_)
  · (go_keep)
  clear hK K
  try simp only [Act.put, List.getElem_toArray, List.getElem_cons_succ, List.getElem_cons_zero, List.setIfInBounds_toArray, List.set_cons_zero, List.set_cons_succ]
  refine wpAnyC_ready (rs := [11]) (by kernel_rfl) (by simp) ?_
  refine AllReadyC.cons rfl (by decide) (fun K hK => ?_) AllReadyC.nil
  try simp only [List.getElem_toArray, List.getElem_cons_succ, List.getElem_cons_zero]
  refine ite_then rfl ?_; refine wp_append_gen (E := tRaw3) (B := B) (M := fun _ => False) (.tmp 17) (.tmp 23) rfl stRaw3 (Own.step HA.out (by (repeat (first | exact Step.refl _ | refine Step.alloc ?_ _ | refine Step.drew ?_ | refine Step.drewN ?_ _ | refine Step.setCell ?_ (by first | exact Nat.le_refl _ | assumption | omega | (simp; done) | (simp; omega)) _ | assumption | refine Step.trans ?_ (by assumption : Step _ _))))) (Src.oneAt (E := tRaw3) (by simp) ⟨rfl, by simp, by simp [Value.oneCell']⟩) (by simpa using hlim4) (Nat.le_trans hB (Step.size (by (repeat (first | exact Step.refl _ | refine Step.alloc ?_ _ | refine Step.drew ?_ | refine Step.drewN ?_ _ | refine Step.setCell ?_ (by first | exact Nat.le_refl _ | assumption | omega | (simp; done) | (simp; omega)) _ | assumption | refine Step.trans ?_ (by assumption : Step _ _)))))) rfl rfl ?_; intro v6 w6 hA6 hG6 hn6; have hC6 := (CellsAt.step HL.out (by (repeat (first | exact Step.refl _ | refine Step.alloc ?_ _ | refine Step.drew ?_ | refine Step.drewN ?_ _ | refine Step.setCell ?_ (by first | exact Nat.le_refl _ | assumption | omega | (simp; done) | (simp; omega)) _ | assumption | refine Step.trans ?_ (by assumption : Step _ _))))).kept (hG6.block lb (by first | assumption | omega | (simp; done) | (simp; omega)) (fun e => absurd (HA.out.lt e.symm).1 (by omega))); have HT6 := Lib.hid (Turn.grown (M := fun b => b = lb ∨ (Value.slice ra rn rc).ownBlock = some b) (Turn.of (by (repeat (first | exact Step.refl _ | refine Step.alloc ?_ _ | refine Step.drew ?_ | refine Step.drewN ?_ _ | refine Step.setCell ?_ (by first | exact Nat.le_refl _ | assumption | omega | (simp; done) | (simp; omega)) _ | assumption | refine Step.trans ?_ (by assumption : Step _ _))) : Step w _)) hG6 (fun g hg hlt => .inr hg)); obtain ⟨b6, n6, m6, rfl, HN6⟩ := hA6.valN; have k1 : w6.cell? ⟨lb, 1, none⟩ = some (.slice ra rn rc) := CellsAt.cell hC6 1; have g1 : w6.frozen? ⟨lb, 1, none⟩ = false := CellsAt.frozen hC6 1; have HC6 := Lib.hid hC6; have HA6 := Lib.hid hA6; have HN6' := Lib.hid hn6; clear hA6 hG6 hC6 hn6
  refine hK.out _ _ ?_ (fun hHeld => ?_)
  · (go_keep)
  clear hK K
  try simp only [Act.put, List.getElem_toArray, List.getElem_cons_succ, List.getElem_cons_zero, List.setIfInBounds_toArray, List.set_cons_zero, List.set_cons_succ]
  refine wpAnyC_take (i := 12) (v := ?_) rfl (by kernel_rfl) (by kernel_rfl) (by kernel_rfl) (by decide) [13, 14] (by kernel_rfl) (fun _ _ _ h => h) (Or.inl ⟨by rfl, ?_⟩) (by assumption) ?_
  rotate_left 1
  · (intro w hSw; (try dsimp only at hSw); go_simp; (try with_reducible rfl))
  try simp only [Act.put, List.getElem_toArray, List.getElem_cons_succ, List.getElem_cons_zero, List.setIfInBounds_toArray, List.set_cons_zero, List.set_cons_succ]
  refine wpAnyC_take (i := 13) (v := ?_) rfl (by kernel_rfl) (by kernel_rfl) (by kernel_rfl) (by decide) [14] (by kernel_rfl) (fun _ _ _ h => h) (Or.inl ⟨by rfl, ?_⟩) (by assumption) ?_
  rotate_left 1
  · (intro w hSw; (try dsimp only at hSw); go_simp; (try with_reducible rfl))
  try simp only [Act.put, List.getElem_toArray, List.getElem_cons_succ, List.getElem_cons_zero, List.setIfInBounds_toArray, List.set_cons_zero, List.set_cons_succ]
  refine wpAnyC_ready (rs := [14]) (by kernel_rfl) (by simp) ?_
  refine AllReadyC.cut rfl (fun K hK => ?_)
  try simp only [List.getElem_toArray, List.getElem_cons_succ, List.getElem_cons_zero]
  go_simp
  refine hK.out _ _ trivial (fun hHeld => ?_)
  clear hK K
  try simp only [Act.put, List.getElem_toArray, List.getElem_cons_succ, List.getElem_cons_zero, List.setIfInBounds_toArray, List.set_cons_zero, List.set_cons_succ]
  have hTrue : True := trivial
  refine wpAnyH_done (by kernel_rfl) ?_ _
  refine wp_at (fun W' => LsAt W' lb (.slice pa P.length pc) (.slice b6 n6 m6) ∧ (∃ rs', Own tRaw3 97 W' (fun _ => False) B (.slice b6 n6 m6) rs' ∧ rs'.length = rs.length + 1) ∧ Turn (fun b => b = lb ∨ (Value.slice ra rn rc).ownBlock = some b) w W') ?_ ?_
  · have c1 : LsAt (w6.setCell ⟨lb, 1, none⟩ (.slice b6 n6 m6)) lb (.slice pa P.length pc) (.slice b6 n6 m6) := CellsAt.set HC6.out 1 _
    have c2 := Own.flat (M' := fun _ => False) flat_raw3 (Own.set (p := ⟨lb, 1, none⟩) (M := fun b => b = lb) (Own.flat flat_raw3 HA6.out) rfl hlB (Value.slice b6 n6 m6))
    have c3 := HT6.out.setCell (p := ⟨lb, 1, none⟩) (fun _ => .inl rfl) (Value.slice b6 n6 m6)
    first
    | exact ⟨c1, ⟨_, c2, by simp⟩, c3⟩
    | exact ⟨c1, ⟨_, c2.drew, by simp⟩, c3.drew⟩
  rintro w7 ⟨hL7, ⟨rs7, hA7, hn7⟩, hT7⟩
  have hz7 := hT7.size
  have hN7 : n6 = rs7.length := by
    obtain ⟨a, n, c, hv, hn⟩ := hA7.valN
    have := hn.out
    simp only [Value.slice.injEq] at hv
    omega
  have q1 : w7.cell? ⟨lb, 1, none⟩ = some (.slice b6 n6 m6) := CellsAt.cell hL7 1
  have q2 : w7.cell? ⟨lb, 2, none⟩ = some (.int .i64 0) := CellsAt.cell hL7 2
  have q0 : w7.cell? ⟨lb, 0, none⟩ = some (.slice pa P.length pc) := CellsAt.cell hL7 0
  have hne : ((n6 : Int) == 0) = false := beq_eq_false_iff_ne.2 (by omega)
  have hva : (Value.slice b6 n6 m6).ownBlock = (Value.slice ra rn rc).ownBlock ∨ ∃ b, (Value.slice b6 n6 m6).ownBlock = some b ∧ w.heap.size ≤ b := by
    rcases HN6'.out with h | h
    · exact .inl h
    · exact .inr ⟨_, h, by have := hS2.size; have := hS3.size; simp at *; omega⟩
  have HVA := Lib.hid hva
  have HL7 := Lib.hid hL7
  have HA7 := Lib.hid hA7
  have HT7 := Lib.hid hT7
  have hK7 : Kept M w w7 := hT7.kept.mono fun b hb => hb.elim (fun h => h ▸ hMl) (hMa b)
  have H7 := Lib.hid (Ty.kept _ H.out hK7)
  have HF7 := Lib.hid (Ty.kept _ HF.out hK7)
  have HT7' := Lib.hid (Ty.kept _ HT.out hK7)
  clear hva hL7 hA7 hT7 HA6 HT6 HC6 HN6' hK7
  go_upto_region 2 with fail
  go_quiet (fail)
  refine wp_at (fun wx => Step w7 wx) (by (repeat (first | exact Step.refl _ | refine Step.alloc ?_ _ | refine Step.drew ?_ | refine Step.drewN ?_ _ | refine Step.setCell ?_ (by first | exact Nat.le_refl _ | assumption | omega | (simp; done) | (simp; omega)) _ | assumption | refine Step.trans ?_ (by assumption : Step _ _)))) ?_
  rintro w8 hS8
  have e0 := (hS8.cell (CellsAt.lt HL7.out) 0).trans q0
  clear q0 q1 q2
  go_wp2_with (go_at_call 66; refine (refScan_ (Ty.step _ H7.out hS8) (Ty.step _ HF7.out hS8) (Ty.step _ HT7'.out hS8) h1 (by omega)).mono ?_; rintro e w9 ⟨v9, rfl, hA9, hS9⟩; obtain ⟨a9, c9, rfl⟩ := hA9.val; have hR9 := Own.rep' (M := fun _ => False) (hA9.less (fun b _ h => h.elim)) (fun _ _ h => h); have HR9 := Lib.hid hR9; clear hA9 hR9)
  have hS79 : Step w7 w9 := hS8.trans hS9
  have hsl := scanB_len (P := P) (lo := lo) (hi := hi) (most := most)
  have HS79 := Lib.hid hS79
  have hz9 := hS79.size
  clear hS8 hS9 hS79 e0
  obtain ⟨L, hLE⟩ : ∃ L, scanB P lo hi most = L := ⟨_, rfl⟩
  have HLE := Lib.hid hLE
  simp only [hLE] at HR9 hsl ⊢
  clear hLE
  have hLl : L.length ≤ 1000000 := by omega
  go_loopw [10, 46] (fun o i w' => ∃ k : Nat, i = .int .i64 k ∧ k ≤ L.length ∧ Own tPair 95 w' (· < w9.heap.size) w9.heap.size o (L.take k) ∧ Step w9 w') (fun _ i _ => L.length - (Go.RowKit.intOf i).toNat)
  case atStart => exact ⟨0, rfl, by omega, Own.nil, Step.refl _⟩
  case round =>
    obtain ⟨k, rfl, hk, hA, hB9⟩ := hrel
    have HA9 := Lib.hid hA
    clear hA
    by_cases hlt : k < L.length
    · obtain ⟨pb, po, pes, rfl, phb, _, pu, pcu⟩ := Ty.slice_at HR9.out hlt
      obtain ⟨pc0, pc1, rfl, ph0, ph1⟩ := pu
      have pq0 := (Step.cell (w' := wr) (by (repeat (first | exact Step.refl _ | refine Step.alloc ?_ _ | refine Step.drew ?_ | refine Step.drewN ?_ _ | refine Step.setCell ?_ (by first | exact Nat.le_refl _ | assumption | omega | (simp; done) | (simp; omega)) _ | assumption | refine Step.trans ?_ (by assumption : Step _ _)))) phb _).trans (pcu 0 _ rfl)
      have pq1 := (Step.cell (w' := wr) (by (repeat (first | exact Step.refl _ | refine Step.alloc ?_ _ | refine Step.drew ?_ | refine Step.drewN ?_ _ | refine Step.setCell ?_ (by first | exact Nat.le_refl _ | assumption | omega | (simp; done) | (simp; omega)) _ | assumption | refine Step.trans ?_ (by assumption : Step _ _)))) phb _).trans (pcu 1 _ rfl)
      simp only [show tPair.n = 2 from rfl, Nat.add_zero] at pq0 pq1
      obtain ⟨pa0, pn0, rfl, _⟩ := Ty.slice_val ph0
      obtain ⟨pa1, pn1, rfl, _⟩ := Ty.slice_val ph1
      have pH0 := Lib.hid ph0
      have pH1 := Lib.hid ph1
      clear pcu ph0 ph1
      have hz := hB9.size
      have hlim5 : (L.take k).length + 1 ≤ lim := by rw [List.length_take, lim_eq]; omega
      go_wp2
      go_region_held3 (fun w' => w'.cell? ⟨wr.heap.size, 0, none⟩ = some (.slice pa0 L[k].key.length pn0) ∧ w'.cell? ⟨wr.heap.size, 1, none⟩ = some (.slice pa1 L[k].value.length pn1)) (go_keep)
        (first
          | (go_at_call 44; refine (Copy_ _ (fun _ => False) _ _ (Ty.step _ (Ty.step _ pH0.out hB9) (by (repeat (first | exact Step.refl _ | refine Step.alloc ?_ _ | refine Step.drew ?_ | refine Step.drewN ?_ _ | refine Step.setCell ?_ (by first | exact Nat.le_refl _ | assumption | omega | (simp; done) | (simp; omega)) _ | assumption | refine Step.trans ?_ (by assumption : Step _ _)))))).mono ?_; rintro e2 w2 ⟨v2, rfl, hA2, hS2⟩; obtain ⟨b2, m2, rfl⟩ := hA2.val; have s2_0 : ∀ j, w2.cell? ⟨wr.heap.size, j, none⟩ = _ := fun j => hS2.cell (by first | assumption | omega | (simp; done) | (simp; omega)) j; have z2_0 : wr.heap.size < w2.heap.size := Nat.lt_of_lt_of_le (by first | assumption | omega | (simp; done) | (simp; omega)) hS2.size; have HA2 := Lib.hid hA2; clear hA2)
          | (go_at_call 44; refine (Copy_ _ (fun _ => False) _ _ (Ty.step _ (Ty.step _ pH1.out hB9) (by (repeat (first | exact Step.refl _ | refine Step.alloc ?_ _ | refine Step.drew ?_ | refine Step.drewN ?_ _ | refine Step.setCell ?_ (by first | exact Nat.le_refl _ | assumption | omega | (simp; done) | (simp; omega)) _ | assumption | refine Step.trans ?_ (by assumption : Step _ _)))))).mono ?_; rintro e3 w3 ⟨v3, rfl, hA3, hS3⟩; obtain ⟨b3, m3, rfl⟩ := hA3.val; have s3_0 : ∀ j, w3.cell? ⟨wr.heap.size, j, none⟩ = _ := fun j => hS3.cell (by first | assumption | omega | (simp; done) | (simp; omega)) j; have z3_0 : wr.heap.size < w3.heap.size := Nat.lt_of_lt_of_le (by first | assumption | omega | (simp; done) | (simp; omega)) hS3.size; have HA3 := Lib.hid hA3; clear hA3)
          | (refine step_append_acc (ys := [L[k]]) rfl (.tmp 50) (.tmp 58) rfl stPairs (by (repeat (first | exact Step.refl _ | refine Step.alloc ?_ _ | refine Step.drew ?_ | refine Step.drewN ?_ _ | refine Step.setCell ?_ (by first | exact Nat.le_refl _ | assumption | omega | (simp; done) | (simp; omega)) _ | assumption | refine Step.trans ?_ (by assumption : Step _ _)))) ((Own.step HA9.out (by (repeat (first | exact Step.refl _ | refine Step.alloc ?_ _ | refine Step.drew ?_ | refine Step.drewN ?_ _ | refine Step.setCell ?_ (by first | exact Nat.le_refl _ | assumption | omega | (simp; done) | (simp; omega)) _ | assumption | refine Step.trans ?_ (by assumption : Step _ _))))).alloc _) (Src.one ⟨_, _, rfl, Own.fresh (by refine Own.step (Hid.out (by assumption)) ?_; (repeat (first | exact Step.refl _ | refine Step.alloc ?_ _ | refine Step.drew ?_ | refine Step.drewN ?_ _ | refine Step.setCell ?_ (by first | exact Nat.le_refl _ | assumption | omega | (simp; done) | (simp; omega)) _ | assumption | refine Step.trans ?_ (by assumption : Step _ _)))) (fun b hb => Nat.lt_trans (HA9.out.old (by (repeat (first | exact Step.refl _ | refine Step.alloc ?_ _ | refine Step.drew ?_ | refine Step.drewN ?_ _ | refine Step.setCell ?_ (by first | exact Nat.le_refl _ | assumption | omega | (simp; done) | (simp; omega)) _ | assumption | refine Step.trans ?_ (by assumption : Step _ _)))) b hb) (by first | assumption | omega | (simp; done) | (simp; omega))), Own.fresh (by refine Own.step (Hid.out (by assumption)) ?_; (repeat (first | exact Step.refl _ | refine Step.alloc ?_ _ | refine Step.drew ?_ | refine Step.drewN ?_ _ | refine Step.setCell ?_ (by first | exact Nat.le_refl _ | assumption | omega | (simp; done) | (simp; omega)) _ | assumption | refine Step.trans ?_ (by assumption : Step _ _)))) (fun b hb => Nat.lt_trans (HA9.out.old (by (repeat (first | exact Step.refl _ | refine Step.alloc ?_ _ | refine Step.drew ?_ | refine Step.drewN ?_ _ | refine Step.setCell ?_ (by first | exact Nat.le_refl _ | assumption | omega | (simp; done) | (simp; omega)) _ | assumption | refine Step.trans ?_ (by assumption : Step _ _)))) b hb) (by first | assumption | omega | (simp; done) | (simp; omega)))⟩) (by simpa using hlim5) rfl rfl ?_; intro v4 w4 hA4 hB4 hG4 _; have s4 : ∀ j, w4.cell? ⟨wr.heap.size, j, none⟩ = _ := fun j => World.cell?_of_block (a := ⟨_, j, _⟩) (hG4.block _ (by first | assumption | omega | (simp; done) | (simp; omega)) (fun e => absurd (HA9.out.lt e.symm).2 (Nat.lt_irrefl _))); have HA4 := Lib.hid hA4; clear hA4))
      go_wp2
      go_roundw
      case rel => exact ⟨k + 1, by go_num, by omega, by rw [List.take_succ_eq_append_getElem hlt]; exact HA4.out, hB4⟩
      case measure => ((try simp [Go.RowKit.intOf]); omega)
    · obtain rfl : k = L.length := by omega
      rw [List.take_length] at HA9
      go_wp2
      go_ret2
      have hS7 := HS79.out.trans hB9
      have hle : ∀ b, (b < w.heap.size ∨ (Value.slice b6 n6 m6).ownBlock = some b) → b < w9.heap.size := fun b h => by
        rcases h with h | h
        · omega
        · have := (HA7.out.lt h).2
          omega
      exact ⟨_, _, rs7, rfl, CellsAt.step HL7.out hS7, HA7.out.step hS7, hn7, HVA.out, by rw [HLE.out]; exact Own.base (B := w9.heap.size) (Own.less HA9.out (fun b _ h => hle b h)) (by omega), HT7.out.then hS7⟩
end Go.Proofs.Ythflkfgiclcdiaa
