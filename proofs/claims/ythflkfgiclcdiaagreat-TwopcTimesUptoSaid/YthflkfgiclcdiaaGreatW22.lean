/-
  Walks: a reader of bytes (Read, Num, Left, Text, Close), at small numbers.
-/
import Derived.Test.YthflkfgiclcdiaaGreatW21
import Derived.Test.YthflkfgiclcdiaaGreatW20
namespace Go.Proofs.YthflkfgiclcdiaaGreat
open Go.RowKit Go.Gr
set_option linter.unusedSimpArgs false
/-- Block rb is a reader of v, at a place, with an error. -/
def RdAt (w : World) (rb : Nat) (v : Value) (k : Nat) (e : Int) : Prop := CellsAt w rb #[v, .int .i64 (k : Int), .int .i64 e] 203
set_option maxRecDepth 100000 in
theorem rdRead_ {w : World} {M : Nat → Prop} {v : Value} {xs : List UInt8} (h : Ty.bytes.rep w M [v] xs) :
    Calls Tryz.prog 99 #[v] w fun e w' => ∃ rb v', e = .returned (.pointer (some ⟨rb, 0, none⟩)) ∧ RdAt w' rb v' 0 0 ∧ Ty.bytes.rep w' (· = rb) [v'] xs ∧ Step w w' ∧ w.heap.size ≤ rb := by
  obtain ⟨a, c, rfl, _⟩ := Ty.slice_val h
  have H := Lib.hid h
  clear h
  go_enter Tryz.func99, Tryz.ntmps99
  go_wp2_with (go_at_call 54; refine (Clone_ _ _ _ _ (by refine Ty.step _ (Hid.out (by assumption)) ?_; (repeat (first | exact Step.refl _ | refine Step.alloc ?_ _ | refine Step.drew ?_ | refine Step.drewN ?_ _ | refine Step.setCell ?_ (by first | exact Nat.le_refl _ | assumption | omega | (simp; done) | (simp; omega)) _ | assumption | refine Step.trans ?_ (by assumption : Step _ _))))).mono ?_; rintro e w1 ⟨v1, rfl, hA1, hS1⟩; obtain ⟨a1, c1, rfl⟩ := hA1.val; have HA1 := Lib.hid hA1; clear hA1)
  go_ret
  refine ⟨_, _, rfl, CellsAt.new rfl, Ty.step _ (Own.rep' (Own.flat Ty.flat_byte HA1.out) (fun b hb hm => ?_)) ((Step.refl _).alloc _), by (repeat (first | exact Step.refl _ | refine Step.alloc ?_ _ | refine Step.drew ?_ | refine Step.drewN ?_ _ | refine Step.setCell ?_ (by first | exact Nat.le_refl _ | assumption | omega | (simp; done) | (simp; omega)) _ | assumption | refine Step.trans ?_ (by assumption : Step _ _))), hS1.size⟩
  have := (HA1.out.lt hb).2
  omega
set_option maxRecDepth 100000 in
theorem rdLeft_ {w : World} {rb k : Nat} {a : Option Addr} {n c : Nat} {e : Int} (h : RdAt w rb (.slice a n c) k e) (hk : k ≤ n) (hn : n ≤ 68719476736) :
    Calls Tryz.prog 125 #[.pointer (some ⟨rb, 0, none⟩)] w fun e w' => e = .returned (.int .i64 ((n - k : Nat) : Int)) ∧ ∃ m, w' = w.drewN m := by
  have p0 : w.cell? ⟨rb, 0, none⟩ = some (.slice a n c) := h.cell 0
  have p1 : w.cell? ⟨rb, 1, none⟩ = some (.int .i64 (k : Int)) := h.cell 1
  clear h
  go_enter Tryz.func125, Tryz.ntmps125
  go_wp2
  go_quiet (fail)
  go_wp2
  go_ret
  refine ⟨?_, _, rfl⟩
  show Ending.returned (Value.int .i64 ((n : Int) - (k : Int))) = _
  rw [Int.ofNat_sub hk]
set_option maxRecDepth 100000 in
set_option maxHeartbeats 1000000 in
theorem rdNum_small {w : World} {rb k : Nat} {v : Value} {xs : List UInt8} (h : RdAt w rb v k 0) (hr : Ty.bytes.rep w (· = rb) [v] xs) (hk : k < xs.length) (hs : xs[k].toNat ≤ 247) :
    Calls Tryz.prog 100 #[.pointer (some ⟨rb, 0, none⟩)] w fun e w' => e = .returned (.int .u64 (xs[k].toNat : Int)) ∧ RdAt w' rb v (k + 1) 0 ∧ Turn (· = rb) w w' := by
  obtain ⟨a, c, rfl, _, _, hl⟩ := Ty.slice_val hr
  rw [lim_eq] at hl
  have p0 : w.cell? ⟨rb, 0, none⟩ = some (.slice a xs.length c) := h.cell 0
  have p1 : w.cell? ⟨rb, 1, none⟩ = some (.int .i64 (k : Int)) := h.cell 1
  have p2 : w.cell? ⟨rb, 2, none⟩ = some (.int .i64 0) := h.cell 2
  have f1 : w.frozen? ⟨rb, 1, none⟩ = false := h.frozen 1
  have H := Lib.hid h
  have HR := Lib.hid hr
  have HT := Lib.hid (fun (W : World) (hW : Step w W) => Take_small (Ty.step _ hr hW) hk hs)
  clear h hr
  go_enter Tryz.func100, Tryz.ntmps100
  go_wp2
  refine wp_region_held_drew (S := (fun w' => w'.cell? ⟨rb, 0, none⟩ = some (.slice a xs.length c) ∧ w'.cell? ⟨rb, 1, none⟩ = some (.int .i64 (k : Int)) ∧ w'.cell? ⟨rb, 2, none⟩ = some (.int .i64 0))) (by kernel_rfl) ?_ (fun hHeld => ?_)
  · (go_keep)
  refine wpAnyH_take (i := 0) (v := ?_) rfl (by kernel_rfl) (by kernel_rfl) (by kernel_rfl) (fun _ _ _ h => h) (Or.inl ⟨by rfl, ?_⟩) (by assumption) ?_
  rotate_left 1
  · (intro w hSw; (try dsimp only at hSw); go_simp; (try with_reducible rfl))
  try simp only [Act.put, List.getElem_toArray, List.getElem_cons_succ, List.getElem_cons_zero, List.setIfInBounds_toArray, List.set_cons_zero, List.set_cons_succ]
  refine wpAnyH_take (i := 1) (v := ?_) rfl (by kernel_rfl) (by kernel_rfl) (by kernel_rfl) (fun _ _ _ h => h) (Or.inl ⟨by rfl, ?_⟩) (by assumption) ?_
  rotate_left 1
  · (intro w hSw; (try dsimp only at hSw); go_simp; (try with_reducible rfl))
  try simp only [Act.put, List.getElem_toArray, List.getElem_cons_succ, List.getElem_cons_zero, List.setIfInBounds_toArray, List.set_cons_zero, List.set_cons_succ]
  refine wpAnyH_take (i := 2) (v := ?_) rfl (by kernel_rfl) (by kernel_rfl) (by kernel_rfl) (fun _ _ _ h => h) (Or.inl ⟨by rfl, ?_⟩) (by assumption) ?_
  rotate_left 1
  · (intro w hSw; (try dsimp only at hSw); go_simp; (try with_reducible rfl))
  try simp only [Act.put, List.getElem_toArray, List.getElem_cons_succ, List.getElem_cons_zero, List.setIfInBounds_toArray, List.set_cons_zero, List.set_cons_succ]
  refine wpAnyH_take (i := 3) (v := ?_) rfl (by kernel_rfl) (by kernel_rfl) (by kernel_rfl) (fun _ _ _ h => h) (Or.inl ⟨by rfl, ?_⟩) (by assumption) ?_
  rotate_left 1
  · (intro w hSw; (try dsimp only at hSw); go_simp; (try with_reducible rfl))
  try simp only [Act.put, List.getElem_toArray, List.getElem_cons_succ, List.getElem_cons_zero, List.setIfInBounds_toArray, List.set_cons_zero, List.set_cons_succ]
  refine wpAnyH_take (i := 4) (v := ?_) rfl (by kernel_rfl) (by kernel_rfl) (by kernel_rfl) (fun _ _ _ h => h) (Or.inl ⟨by rfl, ?_⟩) (by assumption) ?_
  rotate_left 1
  · (intro w hSw; (try dsimp only at hSw); go_simp; (try with_reducible rfl))
  try simp only [Act.put, List.getElem_toArray, List.getElem_cons_succ, List.getElem_cons_zero, List.setIfInBounds_toArray, List.set_cons_zero, List.set_cons_succ]
  refine wpAnyH_take (i := 5) (v := ?_) rfl (by kernel_rfl) (by kernel_rfl) (by kernel_rfl) (fun _ _ _ h => h) (Or.inl ⟨by rfl, ?_⟩) (by assumption) ?_
  rotate_left 1
  · (intro w hSw; (try dsimp only at hSw); go_simp; (try with_reducible rfl))
  try simp only [Act.put, List.getElem_toArray, List.getElem_cons_succ, List.getElem_cons_zero, List.setIfInBounds_toArray, List.set_cons_zero, List.set_cons_succ]
  refine wpAnyH_take (i := 6) (v := ?_) rfl (by kernel_rfl) (by kernel_rfl) (by kernel_rfl) (fun _ _ _ h => h) (Or.inl ⟨by rfl, ?_⟩) (by assumption) ?_
  rotate_left 1
  · (intro w hSw; (try dsimp only at hSw); go_simp; (try with_reducible rfl))
  try simp only [Act.put, List.getElem_toArray, List.getElem_cons_succ, List.getElem_cons_zero, List.setIfInBounds_toArray, List.set_cons_zero, List.set_cons_succ]
  refine wpAnyH_take (i := 7) (v := ?_) rfl (by kernel_rfl) (by kernel_rfl) (by kernel_rfl) (fun _ _ _ h => h) (Or.inl ⟨by rfl, ?_⟩) (by assumption) ?_
  rotate_left 1
  · (intro w hSw; (try dsimp only at hSw); go_simp; (try with_reducible rfl))
  try simp only [Act.put, List.getElem_toArray, List.getElem_cons_succ, List.getElem_cons_zero, List.setIfInBounds_toArray, List.set_cons_zero, List.set_cons_succ]
  refine wpAnyH_ready (rs := [8]) (by kernel_rfl) (by simp) ?_
  refine AllReadyH.cons rfl (fun K hK => ?_) AllReadyH.nil
  try simp only [List.getElem_toArray, List.getElem_cons_succ, List.getElem_cons_zero]
  go_simp
  (go_at_call 103; refine (HT.out _ (by (repeat (first | exact Step.refl _ | refine Step.alloc ?_ _ | refine Step.drew ?_ | refine Step.drewN ?_ _ | refine Step.setCell ?_ (by first | exact Nat.le_refl _ | assumption | omega | (simp; done) | (simp; omega)) _ | assumption | refine Step.trans ?_ (by assumption : Step _ _))))).mono ?_; rintro e w1 ⟨rfl, rfl⟩)
  refine hK.out _ _ ?_ (fun hHeld => ?_)
  · (go_keep)
  clear hK K
  try simp only [Act.put, List.getElem_toArray, List.getElem_cons_succ, List.getElem_cons_zero, List.setIfInBounds_toArray, List.set_cons_zero, List.set_cons_succ]
  refine wpAnyH_take (i := 9) (v := ?_) rfl (by kernel_rfl) (by kernel_rfl) (by kernel_rfl) (fun _ _ _ h => h) (Or.inl ⟨by rfl, ?_⟩) (by assumption) ?_
  rotate_left 1
  · (intro w hSw; (try dsimp only at hSw); go_simp; (try with_reducible rfl))
  try simp only [Act.put, List.getElem_toArray, List.getElem_cons_succ, List.getElem_cons_zero, List.setIfInBounds_toArray, List.set_cons_zero, List.set_cons_succ]
  refine wpAnyH_take (i := 10) (v := ?_) rfl (by kernel_rfl) (by kernel_rfl) (by kernel_rfl) (fun _ _ _ h => h) (Or.inl ⟨by rfl, ?_⟩) (by assumption) ?_
  rotate_left 1
  · (intro w hSw; (try dsimp only at hSw); go_simp; (try with_reducible rfl))
  try simp only [Act.put, List.getElem_toArray, List.getElem_cons_succ, List.getElem_cons_zero, List.setIfInBounds_toArray, List.set_cons_zero, List.set_cons_succ]
  refine wpAnyH_take (i := 11) (v := ?_) rfl (by kernel_rfl) (by kernel_rfl) (by kernel_rfl) (fun _ _ _ h => h) (Or.inl ⟨by rfl, ?_⟩) (by assumption) ?_
  rotate_left 1
  · (intro w hSw; (try dsimp only at hSw); go_simp; (try with_reducible rfl))
  try simp only [Act.put, List.getElem_toArray, List.getElem_cons_succ, List.getElem_cons_zero, List.setIfInBounds_toArray, List.set_cons_zero, List.set_cons_succ]
  refine wpAnyH_take (i := 12) (v := ?_) rfl (by kernel_rfl) (by kernel_rfl) (by kernel_rfl) (fun _ _ _ h => h) (Or.inl ⟨by rfl, ?_⟩) (by assumption) ?_
  rotate_left 1
  · (intro w hSw; (try dsimp only at hSw); go_simp; (try with_reducible rfl))
  try simp only [Act.put, List.getElem_toArray, List.getElem_cons_succ, List.getElem_cons_zero, List.setIfInBounds_toArray, List.set_cons_zero, List.set_cons_succ]
  refine wpAnyH_take (i := 13) (v := ?_) rfl (by kernel_rfl) (by kernel_rfl) (by kernel_rfl) (fun _ _ _ h => h) (Or.inl ⟨by rfl, ?_⟩) (by assumption) ?_
  rotate_left 1
  · (intro w hSw; (try dsimp only at hSw); go_simp; (try with_reducible rfl))
  try simp only [Act.put, List.getElem_toArray, List.getElem_cons_succ, List.getElem_cons_zero, List.setIfInBounds_toArray, List.set_cons_zero, List.set_cons_succ]
  refine wpAnyH_take (i := 14) (v := ?_) rfl (by kernel_rfl) (by kernel_rfl) (by kernel_rfl) (fun _ _ _ h => h) (Or.inl ⟨by rfl, ?_⟩) (by assumption) ?_
  rotate_left 1
  · (intro w hSw; (try dsimp only at hSw); go_simp; (try with_reducible rfl))
  try simp only [Act.put, List.getElem_toArray, List.getElem_cons_succ, List.getElem_cons_zero, List.setIfInBounds_toArray, List.set_cons_zero, List.set_cons_succ]
  refine wpAnyH_take (i := 15) (v := ?_) rfl (by kernel_rfl) (by kernel_rfl) (by kernel_rfl) (fun _ _ _ h => h) (Or.inl ⟨by rfl, ?_⟩) (by assumption) ?_
  rotate_left 1
  · (intro w hSw; (try dsimp only at hSw); go_simp; (try with_reducible rfl))
  try simp only [Act.put, List.getElem_toArray, List.getElem_cons_succ, List.getElem_cons_zero, List.setIfInBounds_toArray, List.set_cons_zero, List.set_cons_succ]
  refine wpAnyH_done (by kernel_rfl) ?_ _
  go_wp2
  go_ret
  exact ⟨rfl, CellsAt.set (w := w.drew) H.out 1 _, ((Turn.refl (· = rb) w).setCell (p := ⟨rb, 1, none⟩) (fun _ => rfl) _).drew⟩
set_option maxRecDepth 100000 in
theorem rdClose_ {w : World} {rb : Nat} {a : Option Addr} {n c : Nat} (h : RdAt w rb (.slice a n c) n 0) (hn : n ≤ 68719476736) :
    Calls Tryz.prog 102 #[.pointer (some ⟨rb, 0, none⟩)] w fun e w' => e = .returned (.int .i64 0) ∧ ∃ m, w' = w.drewN m := by
  have p2 : w.cell? ⟨rb, 2, none⟩ = some (.int .i64 0) := h.cell 2
  have H := Lib.hid h
  clear h
  go_enter Tryz.func102, Tryz.ntmps102
  go_wp2_with (go_at_call 125; refine (rdLeft_ H.out (Nat.le_refl _) hn).mono ?_; rintro e w1 ⟨rfl, m1, rfl⟩; simp only [Nat.sub_self])
  go_ret
  exact ⟨rfl, _, rfl⟩
/-- A part of a slice. -/
theorem bytes_sub {w : World} {M : Nat → Prop} {b off n c lo hi : Nat} {xs : List UInt8} (h : Ty.bytes.rep w M [.slice (some ⟨b, off, none⟩) n c] xs) (h1 : lo ≤ hi) (h2 : hi ≤ xs.length) :
    Ty.bytes.rep w M [.slice (some ⟨b, off + lo, none⟩) (hi - lo) (c - lo)] ((xs.drop lo).take (hi - lo)) := by
  obtain ⟨a', c', hv, h3, h4, h5, hs⟩ := h
  simp only [List.cons.injEq, Value.slice.injEq, and_true] at hv
  obtain ⟨rfl, rfl, rfl⟩ := hv
  have hl : ((xs.drop lo).take (hi - lo)).length = hi - lo := by rw [List.length_take, List.length_drop]; omega
  refine ⟨_, _, by rw [hl], by rw [hl]; omega, by omega, by rw [hl]; omega, fun hp => ?_⟩
  rw [hl] at hp
  obtain ⟨b', off', ha, hb, hM, hc⟩ := hs (by omega)
  simp only [Option.some.injEq, Addr.mk.injEq, and_true] at ha
  obtain ⟨rfl, rfl⟩ := ha
  refine ⟨b, off + lo, rfl, hb, hM, fun i hi' => ?_⟩
  have hi2 : lo + i < xs.length := by omega
  obtain ⟨es, he, hce⟩ := hc (lo + i) hi2
  refine ⟨es, by simpa using he, fun j u hu => ?_⟩
  have := hce j u hu
  rw [Nat.add_mul] at this
  simp only [show Ty.byte.n = 1 from rfl, Nat.mul_one] at this ⊢
  rw [show off + lo + i + j = off + (lo + i) + j by omega]
  exact this
set_option maxRecDepth 100000 in
set_option maxHeartbeats 2000000 in
theorem rdText_small {w : World} {rb k l : Nat} {v : Value} {xs : List UInt8} (h : RdAt w rb v k 0) (hr : Ty.bytes.rep w (· = rb) [v] xs) (hk : k < xs.length) (hl : xs[k].toNat = l) (hs : l ≤ 247) (hk2 : k + 1 + l ≤ xs.length) :
    Calls Tryz.prog 101 #[.pointer (some ⟨rb, 0, none⟩)] w fun e w' => ∃ v', e = .returned v' ∧ Own Ty.byte 5 w' (· < w.heap.size) w.heap.size v' ((xs.drop (k + 1)).take l) ∧ RdAt w' rb v (k + 1 + l) 0 ∧ Turn (· = rb) w w' := by
  obtain ⟨a, c, rfl, _, _, hln⟩ := Ty.slice_val hr
  rw [lim_eq] at hln
  have p0 : w.cell? ⟨rb, 0, none⟩ = some (.slice a xs.length c) := h.cell 0
  have p1 : w.cell? ⟨rb, 1, none⟩ = some (.int .i64 (k : Int)) := h.cell 1
  have HR := Lib.hid hr
  have H := Lib.hid h
  have hrb := h.lt
  have HN := Lib.hid (rdNum_small h hr hk (by omega))
  obtain ⟨b, off, u, rfl, _⟩ := Ty.slice_at1 rfl hr hk
  clear h hr
  go_enter Tryz.func101, Tryz.ntmps101
  go_upto_region 3 with (go_at_call 100; refine HN.out.mono ?_; rintro e w1 ⟨rfl, hC1, hT1⟩; rw [hl]; have HC1 := Lib.hid hC1; have HT1 := Lib.hid hT1; clear hC1 hT1)
  have c0 : w1.cell? ⟨rb, 0, none⟩ = some (.slice (some ⟨b, off, none⟩) xs.length c) := HC1.out.cell 0
  have c1 : w1.cell? ⟨rb, 1, none⟩ = some (.int .i64 ((k + 1 : Nat) : Int)) := HC1.out.cell 1
  have c2 : w1.cell? ⟨rb, 2, none⟩ = some (.int .i64 0) := HC1.out.cell 2
  have f1 : w1.frozen? ⟨rb, 1, none⟩ = false := HC1.out.frozen 1
  obtain ⟨d, hd⟩ : ∃ d, d = xs.length - (k + 1) := ⟨_, rfl⟩
  have HL := Lib.hid (rdLeft_ (k := k + 1) HC1.out (by omega) hln)
  rw [← hd] at HL
  have hdl : ¬ d < l := by omega
  have hw : IntKind.u64.wrap (d : Int) = (d : Int) := by simp [IntKind.wrap, IntKind.bits, IntKind.signed]; omega
  have HD := Lib.hid hd
  clear hd p0 p1
  go_upto_region 7 with (go_at_call 125; refine HL.out.mono ?_; rintro e w2 ⟨rfl, m2, rfl⟩)
  have hwl : IntKind.i64.wrap (l : Int) = (l : Int) := by simp [IntKind.wrap, IntKind.bits, IntKind.signed]; omega
  have d0 : (w1.drewN m2).cell? ⟨rb, 0, none⟩ = some (.slice (some ⟨b, off, none⟩) xs.length c) := by simpa using c0
  have d1 : (w1.drewN m2).cell? ⟨rb, 1, none⟩ = some (.int .i64 ((k + 1 : Nat) : Int)) := by simpa using c1
  have g1 : (w1.drewN m2).frozen? ⟨rb, 1, none⟩ = false := by simpa using f1
  have HR1 := Lib.hid (Ty.kept _ HR.out (HT1.out.kept))
  obtain ⟨wd, hwd⟩ : ∃ wd, wd = w1.drewN m2 := ⟨_, rfl⟩
  rw [← hwd] at d0 d1 g1 ⊢
  have HR2 : Hid (Ty.bytes.rep wd (· = rb) [.slice (some ⟨b, off, none⟩) xs.length c] xs) := Lib.hid (by rw [hwd]; exact Ty.step _ HR1.out ((Step.refl _).drewN _))
  have HC2 : Hid (RdAt wd rb (.slice (some ⟨b, off, none⟩) xs.length c) (k + 1) 0) := Lib.hid (by rw [hwd]; exact HC1.out)
  have HT2 : Hid (Turn (· = rb) w wd) := Lib.hid (by rw [hwd]; exact HT1.out.then ((Step.refl _).drewN _))
  clear hwd c0 c1 c2 f1
  have hz2 := HT2.out.size
  have hwr : IntKind.i64.wrap ((k : Int) + 1 + (l : Int)) = (k : Int) + 1 + (l : Int) := by rw [IntKind.wrap_i64]; omega
  have e1 : (0 : Int) ≤ (k : Int) + 1 + (l : Int) := by omega
  have e2 : (k : Int) + 1 + (l : Int) ≤ (c : Int) := by omega
  have e3 : (0 : Int) ≤ (k : Int) + 1 := by omega
  have e4 : (k : Int) + 1 ≤ max ((k : Int) + 1 + (l : Int)) 0 := by omega
  have e6 : (k : Int) + 1 ≤ (k : Int) + 1 + (l : Int) := by omega
  have e5 : ((k : Int) + 1 + (l : Int)).toNat = k + 1 + l := by omega
  have hsub : ∃ A, (if c = k + 1 then some (⟨b, off, none⟩ : Addr) else some ⟨b, off + (k + 1), none⟩) = A ∧ Ty.bytes.rep wd (· = rb) [.slice A l (c - (k + 1))] ((xs.drop (k + 1)).take l) := by
    refine ⟨_, rfl, ?_⟩
    have h1 := bytes_sub HR2.out (lo := k + 1) (hi := k + 1 + l) (by omega) hk2
    rw [show k + 1 + l - (k + 1) = l by omega] at h1
    by_cases hc : c = k + 1
    · have hl0 : l = 0 := by omega
      rw [if_pos hc]
      subst hl0
      simp only [List.take_zero]
      exact ⟨_, _, rfl, Nat.zero_le _, by omega, Nat.zero_le _, fun h => by simp at h⟩
    · rw [if_neg hc]
      exact h1
  obtain ⟨A, hA, hAr⟩ := hsub
  have HAr := Lib.hid hAr
  clear hAr
  refine wp_region_held_drew (S := (fun w' => w'.cell? ⟨rb, 0, none⟩ = some (.slice (some ⟨b, off, none⟩) xs.length c) ∧ w'.cell? ⟨rb, 1, none⟩ = some (.int .i64 ((k + 1 : Nat) : Int)))) (by kernel_rfl) ?_ (fun hHeld => ?_)
  · (go_keep)
  refine wpAnyH_take (i := 0) (v := ?_) rfl (by kernel_rfl) (by kernel_rfl) (by kernel_rfl) (fun _ _ _ h => h) (Or.inl ⟨by rfl, ?_⟩) (by assumption) ?_
  rotate_left 1
  · (intro w hSw; (try dsimp only at hSw); go_simp; (try with_reducible rfl))
  try simp only [Act.put, List.getElem_toArray, List.getElem_cons_succ, List.getElem_cons_zero, List.setIfInBounds_toArray, List.set_cons_zero, List.set_cons_succ]
  refine wpAnyH_take (i := 1) (v := ?_) rfl (by kernel_rfl) (by kernel_rfl) (by kernel_rfl) (fun _ _ _ h => h) (Or.inl ⟨by rfl, ?_⟩) (by assumption) ?_
  rotate_left 1
  · (intro w hSw; (try dsimp only at hSw); go_simp; (try with_reducible rfl))
  try simp only [Act.put, List.getElem_toArray, List.getElem_cons_succ, List.getElem_cons_zero, List.setIfInBounds_toArray, List.set_cons_zero, List.set_cons_succ]
  refine wpAnyH_take (i := 2) (v := ?_) rfl (by kernel_rfl) (by kernel_rfl) (by kernel_rfl) (fun _ _ _ h => h) (Or.inl ⟨by rfl, ?_⟩) (by assumption) ?_
  rotate_left 1
  · (intro w hSw; (try dsimp only at hSw); go_simp; (try with_reducible rfl))
  try simp only [Act.put, List.getElem_toArray, List.getElem_cons_succ, List.getElem_cons_zero, List.setIfInBounds_toArray, List.set_cons_zero, List.set_cons_succ]
  refine wpAnyH_take (i := 3) (v := ?_) rfl (by kernel_rfl) (by kernel_rfl) (by kernel_rfl) (fun _ _ _ h => h) (Or.inl ⟨by rfl, ?_⟩) (by assumption) ?_
  rotate_left 1
  · (intro w hSw; (try dsimp only at hSw); go_simp; (try with_reducible rfl))
  try simp only [Act.put, List.getElem_toArray, List.getElem_cons_succ, List.getElem_cons_zero, List.setIfInBounds_toArray, List.set_cons_zero, List.set_cons_succ]
  refine wpAnyH_take (i := 4) (v := ?_) rfl (by kernel_rfl) (by kernel_rfl) (by kernel_rfl) (fun _ _ _ h => h) (Or.inl ⟨by rfl, ?_⟩) (by assumption) ?_
  rotate_left 1
  · (intro w hSw; (try dsimp only at hSw); go_simp; (try with_reducible rfl))
  try simp only [Act.put, List.getElem_toArray, List.getElem_cons_succ, List.getElem_cons_zero, List.setIfInBounds_toArray, List.set_cons_zero, List.set_cons_succ]
  refine wpAnyH_take (i := 5) (v := ?_) rfl (by kernel_rfl) (by kernel_rfl) (by kernel_rfl) (fun _ _ _ h => h) (Or.inl ⟨by rfl, ?_⟩) (by assumption) ?_
  rotate_left 1
  · (intro w hSw; (try dsimp only at hSw); go_simp; (try with_reducible rfl))
  try simp only [Act.put, List.getElem_toArray, List.getElem_cons_succ, List.getElem_cons_zero, List.setIfInBounds_toArray, List.set_cons_zero, List.set_cons_succ]
  refine wpAnyH_take (i := 6) (v := ?_) rfl (by kernel_rfl) (by kernel_rfl) (by kernel_rfl) (fun _ _ _ h => h) (Or.inl ⟨by rfl, ?_⟩) (by assumption) ?_
  rotate_left 1
  · (intro w hSw; (try dsimp only at hSw); go_simp; (try with_reducible rfl))
  try simp only [Act.put, List.getElem_toArray, List.getElem_cons_succ, List.getElem_cons_zero, List.setIfInBounds_toArray, List.set_cons_zero, List.set_cons_succ]
  refine wpAnyH_take (i := 7) (v := ?_) rfl (by kernel_rfl) (by kernel_rfl) (by kernel_rfl) (fun _ _ _ h => h) (Or.inl ⟨by rfl, ?_⟩) (by assumption) ?_
  rotate_left 1
  · (intro w hSw; (try dsimp only at hSw); go_simp; (try with_reducible rfl))
  try simp only [Act.put, List.getElem_toArray, List.getElem_cons_succ, List.getElem_cons_zero, List.setIfInBounds_toArray, List.set_cons_zero, List.set_cons_succ]
  refine wpAnyH_take (i := 8) (v := ?_) rfl (by kernel_rfl) (by kernel_rfl) (by kernel_rfl) (fun _ _ _ h => h) (Or.inl ⟨by rfl, ?_⟩) (by assumption) ?_
  rotate_left 1
  · (intro w hSw; (try dsimp only at hSw); go_simp; (try with_reducible rfl))
  try simp only [Act.put, List.getElem_toArray, List.getElem_cons_succ, List.getElem_cons_zero, List.setIfInBounds_toArray, List.set_cons_zero, List.set_cons_succ]
  refine wpAnyH_take (i := 9) (v := ?_) rfl (by kernel_rfl) (by kernel_rfl) (by kernel_rfl) (fun _ _ _ h => h) (Or.inl ⟨by rfl, ?_⟩) (by assumption) ?_
  rotate_left 1
  · (intro w hSw; (try dsimp only at hSw); go_simp; (try with_reducible rfl))
  try simp only [Act.put, List.getElem_toArray, List.getElem_cons_succ, List.getElem_cons_zero, List.setIfInBounds_toArray, List.set_cons_zero, List.set_cons_succ]
  refine wpAnyH_take (i := 10) (v := ?_) rfl (by kernel_rfl) (by kernel_rfl) (by kernel_rfl) (fun _ _ _ h => h) (Or.inl ⟨by rfl, ?_⟩) (by assumption) ?_
  rotate_left 1
  · (intro w hSw; (try dsimp only at hSw); go_simp; (try with_reducible rfl))
  try simp only [Act.put, List.getElem_toArray, List.getElem_cons_succ, List.getElem_cons_zero, List.setIfInBounds_toArray, List.set_cons_zero, List.set_cons_succ]
  refine wpAnyH_take (i := 11) (v := ?_) rfl (by kernel_rfl) (by kernel_rfl) (by kernel_rfl) (fun _ _ _ h => h) (Or.inl ⟨by rfl, ?_⟩) (by assumption) ?_
  rotate_left 1
  · (intro w hSw; (try dsimp only at hSw); go_simp; (try with_reducible rfl))
  try simp only [Act.put, List.getElem_toArray, List.getElem_cons_succ, List.getElem_cons_zero, List.setIfInBounds_toArray, List.set_cons_zero, List.set_cons_succ]
  refine wpAnyH_take (i := 12) (v := ?_) rfl (by kernel_rfl) (by kernel_rfl) (by kernel_rfl) (fun _ _ _ h => h) (Or.inl ⟨by rfl, ?_⟩) (by assumption) ?_
  rotate_left 1
  · (intro w hSw; (try dsimp only at hSw); go_simp; (try with_reducible rfl))
  try simp only [Act.put, List.getElem_toArray, List.getElem_cons_succ, List.getElem_cons_zero, List.setIfInBounds_toArray, List.set_cons_zero, List.set_cons_succ]
  refine wpAnyH_take (i := 13) (v := ?_) rfl (by kernel_rfl) (by kernel_rfl) (by kernel_rfl) (fun _ _ _ h => h) (Or.inl ⟨by rfl, ?_⟩) (by assumption) ?_
  rotate_left 1
  · (intro w hSw; (try dsimp only at hSw); go_simp; (try with_reducible rfl))
  try simp only [Act.put, List.getElem_toArray, List.getElem_cons_succ, List.getElem_cons_zero, List.setIfInBounds_toArray, List.set_cons_zero, List.set_cons_succ]
  refine wpAnyH_take (i := 14) (v := ?_) rfl (by kernel_rfl) (by kernel_rfl) (by kernel_rfl) (fun _ _ _ h => h) (Or.inl ⟨by rfl, ?_⟩) (by assumption) ?_
  rotate_left 1
  · (intro w hSw; (try dsimp only at hSw); go_simp; (try with_reducible rfl))
  try simp only [Act.put, List.getElem_toArray, List.getElem_cons_succ, List.getElem_cons_zero, List.setIfInBounds_toArray, List.set_cons_zero, List.set_cons_succ]
  refine wpAnyH_take (i := 15) (v := ?_) rfl (by kernel_rfl) (by kernel_rfl) (by kernel_rfl) (fun _ _ _ h => h) (Or.inl ⟨by rfl, ?_⟩) (by assumption) ?_
  rotate_left 1
  · (intro w hSw; (try dsimp only at hSw); go_simp; (try with_reducible rfl))
  try simp only [Act.put, List.getElem_toArray, List.getElem_cons_succ, List.getElem_cons_zero, List.setIfInBounds_toArray, List.set_cons_zero, List.set_cons_succ]
  refine wpAnyH_ready (rs := [16]) (by kernel_rfl) (by simp) ?_
  refine AllReadyH.cons rfl (fun K hK => ?_) AllReadyH.nil
  try simp only [List.getElem_toArray, List.getElem_cons_succ, List.getElem_cons_zero]
  go_simp
  (go_at_call 54; refine (Clone_ _ _ _ _ (Ty.step _ HAr.out (by (repeat (first | exact Step.refl _ | refine Step.alloc ?_ _ | refine Step.drew ?_ | refine Step.drewN ?_ _ | refine Step.setCell ?_ (by first | exact Nat.le_refl _ | assumption | omega | (simp; done) | (simp; omega)) _ | assumption | refine Step.trans ?_ (by assumption : Step _ _)))))).mono ?_; rintro e w3 ⟨v3, rfl, hA3, hS3⟩; obtain ⟨b3, n3, m3, hv3, HN3⟩ := hA3.valN; have hS3' : Step wd w3 := (by (repeat (first | exact Step.refl _ | refine Step.alloc ?_ _ | refine Step.drew ?_ | refine Step.drewN ?_ _ | refine Step.setCell ?_ (by first | exact Nat.le_refl _ | assumption | omega | (simp; done) | (simp; omega)) _ | assumption | refine Step.trans ?_ (by assumption : Step _ _)))); have s3 : ∀ j, w3.cell? ⟨rb, j, none⟩ = wd.cell? ⟨rb, j, none⟩ := fun j => hS3'.cell (by omega) j; have g3 : w3.frozen? ⟨rb, 1, none⟩ = wd.frozen? ⟨rb, 1, none⟩ := hS3'.frozen (by omega) 1; subst hv3; have HA3 := Lib.hid hA3; clear hA3)
  refine hK.out _ _ ?_ (fun hHeld => ?_)
  · (go_keep)
  clear hK K
  try simp only [Act.put, List.getElem_toArray, List.getElem_cons_succ, List.getElem_cons_zero, List.setIfInBounds_toArray, List.set_cons_zero, List.set_cons_succ]
  refine wpAnyH_take (i := 17) (v := ?_) rfl (by kernel_rfl) (by kernel_rfl) (by kernel_rfl) (fun _ _ _ h => h) (Or.inl ⟨by rfl, ?_⟩) (by assumption) ?_
  rotate_left 1
  · (intro w hSw; (try dsimp only at hSw); go_simp; (try with_reducible rfl))
  try simp only [Act.put, List.getElem_toArray, List.getElem_cons_succ, List.getElem_cons_zero, List.setIfInBounds_toArray, List.set_cons_zero, List.set_cons_succ]
  refine wpAnyH_done (by kernel_rfl) ?_ _
  go_wp2
  go_ret
  have hz3 := hS3'.size
  refine ⟨_, rfl, Own.flat Ty.flat_byte (Own.set (M := (· = rb)) (Own.flat Ty.flat_byte (Own.base HA3.out (by simp; omega))) rfl hrb _), CellsAt.set (HC2.out.step hS3') 1 _, (HT2.out.then hS3').setCell (p := ⟨rb, 1, none⟩) (fun _ => rfl) _⟩
end Go.Proofs.YthflkfgiclcdiaaGreat
