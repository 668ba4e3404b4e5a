/-
  Walks: ParseUint at small numbers; numbers sorted; a folder's path and names.
  Walk: the serials of a journal's files.
  A journal's memory: its row of files, wherever it begins in its block; appended to, and turned at its last one.
  A journal's row of files is appended to.
  A journal in plain words; its memory; walks: last, Next, First.
-/
import Derived.Test.YthebdlkmoailaaaGreatDoorZK7
import Derived.Test.YthebdlkmoailaaaGreatDoorZPUint
import Derived.Test.YthebdlkmoailaaaGreatDoorZSortU
set_option linter.unusedVariables false
set_option linter.unusedSimpArgs false
namespace Go.Proofs.YthebdlkmoailaaaGreatDoor
open Go.RowKit Go.Gr Go.Maps Go.Sort Go.Shelf
open Go.Proofs (encStr)
set_option linter.unusedSimpArgs false
set_option linter.unusedVariables false
set_option maxRecDepth 100000 in
theorem parse_dec : ∀ n, n < 100 → Lib.parseUintB 64 (decS n) = .ok n := by decide
theorem step_bytesWorld (w : World) (e : TypeId) (s : ByteArray) : Step w (Lib.bytesWorld w e s) :=
  Step.of ⟨by simp [Lib.bytesWorld, World.freeze, World.alloc, World.drew, -World.alloc_eq, -World.drew_eq], by simp [Lib.bytesWorld, World.freeze, World.alloc, World.drew, -World.alloc_eq, -World.drew_eq], by simp [Lib.bytesWorld, World.freeze, World.alloc, World.drew, -World.alloc_eq, -World.drew_eq], by rw [Lib.bytesWorld_size]; omega, fun j hj => Lib.bytesWorld_at_old w e _ j hj⟩
theorem prsUint_ {w : World} {n : Nat} (h : n < 100) : Calls Tryz.prog 92 #[encStr (decS n), .int .i64 10, .int .i64 64] w fun e w' => e = .returned (.tuple #[.int .u64 (n : Int), .nilIface]) ∧ Step w w' := by
  refine (Any.strconv_ParseUint_10_at64_ok Tryz.prsU ⟨(decS n).toArray⟩ (by show (decS n).toArray.size ≤ _; unfold decS; split <;> simp) n (by simpa using parse_dec n h) w).mono ?_
  rintro e w' ⟨rfl, hw⟩
  refine ⟨rfl, ?_⟩
  rcases hw with rfl | rfl
  · exact Step.refl _
  · exact step_bytesWorld _ _ _
/-- Two numbers compared. -/
def cmpN (x y : Nat) : Int := if x < y then -1 else if y < x then 1 else 0
theorem nanU_ (x : Nat) (W : World) : Calls Tryz.prog 111 #[.int .u64 (x : Int)] W fun e w' => e = .returned (.bool false) ∧ w' = W := by
  have h : ((x : Int) != (x : Int)) = false := by simp
  go_enter Tryz.func111, Tryz.ntmps111
  go_wp2
  go_ret
  exact ⟨rfl, rfl⟩
theorem cmpU_ (x y : Nat) (W : World) : Calls Tryz.prog 94 #[.int .u64 (x : Int), .int .u64 (y : Int)] W fun e w' => e = .returned (.int .i64 (cmpN x y)) ∧ ∃ q, w' = W.drewN q := by
  unfold cmpN
  by_cases h1 : x < y
  · rw [if_pos h1]
    go_enter Tryz.func94, Tryz.ntmps94
    go_wp2_with (go_at_call 111; refine (nanU_ _ _).mono ?_; rintro e w1 ⟨rfl, hw1⟩; subst w1)
    go_ret
    exact ⟨rfl, 0, rfl⟩
  · rw [if_neg h1]
    by_cases h2 : y < x
    · rw [if_pos h2]
      go_enter Tryz.func94, Tryz.ntmps94
      go_wp2_with (go_at_call 111; refine (nanU_ _ _).mono ?_; rintro e w1 ⟨rfl, hw1⟩; subst w1)
      go_ret
      exact ⟨rfl, 0, rfl⟩
    · rw [if_neg h2]
      go_enter Tryz.func94, Tryz.ntmps94
      go_wp2_with (go_at_call 111; refine (nanU_ _ _).mono ?_; rintro e w1 ⟨rfl, hw1⟩; subst w1)
      go_ret
      exact ⟨rfl, 0, rfl⟩
theorem ltN (x y : Nat) : ltOf cmpN x y = decide (x < y) := by
  unfold ltOf cmpN
  split
  · rename_i h; simp [h]
  · rename_i h
    split
    · simp [h]
    · simp [h]
theorem swoN : SWO (ltOf cmpN) where
  irrefl x := by rw [ltN]; simp
  trans x y z h1 h2 := by rw [ltN] at *; simp at *; omega
  ntrans x y z h1 h2 := by rw [ltN] at *; simp at *; omega
abbrev encU (n : Nat) : Value := .int .u64 (n : Int)
theorem cmpReadsN (blk off size : Nat) (w : World) : CmpReads Tryz.prog 94 #[] encU cmpN blk off size w := fun _ _ _ _ x y => cmpU_ x y _
theorem heap_sort1 {w : World} {g n : Nat} {os : Array Obj} {d : Array Nat} {cur : Array Value} {e : TypeId} (hb : w.heap[g]? = some (.cells cur e (0, 0))) : (sortWorld encU w g 0 n d os).heap[g]? = some (.cells (putCells encU 0 d cur) e (0, 0)) := by
  have hlt := (Array.getElem?_eq_some_iff.1 hb).1
  unfold sortWorld
  rw [heap_grow_old _ _ (by simp [putRow, mapBlock, Sort.ahead]; exact hlt)]
  simp [putRow, mapBlock, Sort.ahead, Array.getElem?_modify, hb, onCells]
theorem turn_sort1 {w : World} {g n : Nat} {os : Array Obj} {d : Array Nat} : Turn (· = g) w (sortWorld encU w g 0 n d os) := by
  refine ⟨rfl, rfl, rfl, by simp [sortWorld, grow, putRow, mapBlock, Sort.ahead], fun b hb hne => ?_⟩
  unfold sortWorld
  rw [heap_grow_old _ _ (by simp [putRow, mapBlock, Sort.ahead]; exact hb)]
  have : g ≠ b := fun e => hne e.symm
  simp [putRow, mapBlock, Sort.ahead, Array.getElem?_modify, this]
/-- Numbers, rising. -/
def sortN (xs : List Nat) : List Nat := xs.mergeSort fun x y => decide (x ≤ y)
theorem sortN_len (xs : List Nat) : (sortN xs).length = xs.length := List.length_mergeSort _
theorem sortU_ {w : World} {M : Nat → Prop} {B : Nat} {v : Value} {xs : List Nat} (h : Gr.Own Ty.u64 32 w M B v xs) :
    Calls Tryz.prog 93 #[v, .func (.func 94) #[] #[]] w fun e w' => e = .returned (.tuple #[]) ∧ Gr.Own Ty.u64 32 w' M B v (sortN xs) ∧ Turn (fun b => v.ownBlock = some b) w w' := by
  have eg : ∀ args w, (callFunc 94 args).run Tryz.prog w = .ok (.enter 94 args) w := enters_of Tryz.func94 (by kernel_rfl) rfl
  by_cases hx : xs = []
  · subst hx
    obtain ⟨a, c, rfl⟩ := h.val
    refine (AnyF.slices_SortFunc_none (P := Tryz.prog) (ρ := Tryz.sortU_ren) { Tryz.sortU with } a c (.func (.func 94) #[] #[]) w).mono ?_
    rintro e w' ⟨rfl, rfl⟩
    exact ⟨rfl, by rw [show sortN [] = [] by simp [sortN]]; exact h, Turn.refl _ _⟩
  · have hpos : 0 < xs.length := List.length_pos_iff.2 hx
    obtain ⟨hl, cells, ho, hr⟩ := h
    rcases ho.2 with ⟨hv, h0⟩ | ⟨g, cap, cur, rfl, hb, hg, hnc, hcm, hcs, htake⟩
    · omega
    have hcell : ∀ i (hi : i < xs.length), cells[i]? = some (encU xs[i]) ∧ xs[i] < 18446744073709551616 := fun i hi => by
      have h1 := hr i hi
      obtain ⟨h2, h3⟩ := h1
      have := (grp_getElem (cells := cells) (n := 1) (i := i) (j := 0) (u := encU xs[i]) (by rw [show grp cells 1 i = _ from h2]; rfl)).1
      exact ⟨by simpa using this, h3⟩
    have hH : Holds encU w g 0 xs.toArray := fun j hj => by
      have hj' : j < xs.length := by simpa using hj
      refine ⟨?_, frozen_of_row w g _ cur _ hg⟩
      rw [cell_of_row w g _ cur _ (0, 0) hg]
      have h1 := (hcell j hj').1
      rw [← htake, List.getElem?_take, if_pos (by simp [Ty.u64]; omega)] at h1
      rw [getElem!_pos xs.toArray j (by simpa using hj'), Nat.zero_add]
      simpa using h1
    have hcon := Any.slices_SortFunc_total Tryz.sortU encU (fun _ => rfl) cmpN swoN 94 #[] g 0 cap xs.toArray w eg (cmpReadsN g 0 _ w).lays hH (Array.getElem?_eq_some_iff.1 hg).1 (by simp; rw [lim_eq] at hl; omega) (fun x y h1 h2 => by rw [ltN] at h1 h2; simp at h1 h2; omega)
    rw [show xs.toArray.size = xs.length by simp] at hcon
    refine (show Calls Tryz.prog 93 _ _ _ from hcon).mono ?_
    rintro e w' ⟨rfl, n, os, rfl⟩
    have hse : (xs.toArray.toList.mergeSort fun x y => !(ltOf cmpN) y x) = sortN xs := by
      unfold sortN
      congr 1
      funext x y
      rw [ltN]
      by_cases h : x ≤ y
      · rw [decide_eq_true h, decide_eq_false (by omega)]; rfl
      · rw [decide_eq_false h, decide_eq_true (by omega)]; rfl
    rw [hse]
    have hsl := sortN_len xs
    have hT := turn_sort1 (w := w) (g := g) (n := n) (os := os) (d := (sortN xs).toArray)
    refine ⟨rfl, ⟨by rw [hsl]; exact hl, (sortN xs).map encU, ⟨by simp [Ty.u64], .inr ⟨g, cap, _, by rw [hsl], hb, heap_sort1 hg, by rw [hsl]; exact hnc, hcm, by simp [putCells, hcs], ?_⟩⟩, fun i hi => ?_⟩, hT.mono fun b _ h => by rw [h]; rfl⟩
    · apply List.ext_getElem?
      intro j
      have hcz : cur.size = cap := by simpa [Ty.u64] using hcs
      rw [show Ty.u64.n = 1 from rfl, Nat.mul_one, hsl]
      by_cases hj : j < xs.length
      · rw [List.getElem?_take_of_lt hj, Array.getElem?_toList]
        simp [putCells, hsl, hj, show j < cur.size by omega]
      · rw [List.getElem?_take_eq_none (by omega), List.getElem?_eq_none (by simp [hsl]; omega)]
    · have hi2 : i < xs.length := by omega
      show Ty.u64.rep _ _ (grp ((sortN xs).map encU) 1 i) _
      rw [grp_oneF (by simpa using hi)]
      refine ⟨by simp, ?_⟩
      have hm : (sortN xs)[i] ∈ xs := (List.mergeSort_perm xs _).mem_iff.1 (List.getElem_mem hi)
      obtain ⟨k, hk, hke⟩ := List.mem_iff_getElem.1 hm
      rw [← hke]
      exact (hcell k hk).2
set_option maxRecDepth 100000 in
theorem sJoin0_ {w : World} {a : Option Addr} {c : Nat} {s : Value} : Calls Tryz.prog 133 #[.slice a 0 c, s] w fun e w' => e = .returned (encStr []) ∧ w' = w := by
  go_enter Tryz.func133, Tryz.ntmps133
  go_wp2
  go_ret
  exact ⟨rfl, rfl⟩
set_option maxRecDepth 100000 in
theorem dPath_ {w : World} {pv : Value} {pre : List UInt8} {c : Nat} {a : Option Addr} (hp : pre.length ≤ 1000) : Calls Tryz.prog 107 #[.agg #[pv, encStr pre], .slice a 0 c] w fun e w' => e = .returned (encStr pre) ∧ Step w w' := by
  have HJ : Hid (∀ (W : World) (s : Value), Calls Tryz.prog 133 #[.slice a 0 c, s] W fun e w' => e = .returned (.string ⟨#[]⟩) ∧ w' = W) := Lib.hid (fun W s => sJoin0_)
  have hz : (⟨pre.toArray⟩ : ByteArray) ++ ⟨#[]⟩ = ⟨pre.toArray⟩ := by
    have := encStr_append pre []
    simpa using this
  have hs : (⟨pre.toArray⟩ : ByteArray).size = pre.length := by simp [ByteArray.size]
  show Calls Tryz.prog 107 #[.agg #[pv, .string ⟨pre.toArray⟩], .slice a 0 c] w _
  obtain ⟨S, hS⟩ : ∃ S : ByteArray, S = ⟨pre.toArray⟩ := ⟨_, rfl⟩
  have HS := Lib.hid hS
  rw [← hS] at hz hs ⊢
  clear hS
  generalize pre.length = n at *
  have hn : n ≤ 9223372036854775807 := by omega
  go_enter Tryz.func107, Tryz.ntmps107
  go_upto_region 1 with fail
  have hbx : CellsAt (w.alloc (.cells #[pv, .string S] 148)) w.heap.size #[pv, .string S] 148 := CellsAt.new rfl
  have b1 : (w.alloc (.cells #[pv, .string S] 148)).cell? ⟨w.heap.size, 1, none⟩ = some (.string S) := hbx.cell 1
  refine wp_code (fun wx => wx.cell? ⟨w.heap.size, 1, none⟩ = some (.string S) ∧ Step w wx) ⟨b1, by (repeat (first | exact Step.refl _ | refine Step.alloc ?_ _ | refine Step.drew ?_ | refine Step.drewN ?_ _ | refine Step.setCell ?_ (by first | exact Nat.le_refl _ | assumption | omega | (simp; done) | (simp; omega)) _ | assumption | refine Step.trans ?_ (by assumption : Step _ _)))⟩ ?_
  clear hbx b1
  rintro w1 ⟨b1, hS1⟩
  go_quiet ((go_at_call 133; exact Calls.quiet_of_same (HJ.out _ _)))
  go_wp2
  go_ret
  refine ⟨by rw [HS.out]; rfl, by (repeat (first | exact Step.refl _ | refine Step.alloc ?_ _ | refine Step.drew ?_ | refine Step.drewN ?_ _ | refine Step.setCell ?_ (by first | exact Nat.le_refl _ | assumption | omega | (simp; done) | (simp; omega)) _ | assumption | refine Step.trans ?_ (by assumption : Step _ _)))⟩
theorem stNams : SliceTy Tryz.prog 68 9 tNam.n := .mk' (z := .string ⟨#[]⟩) (by_ := 16) Tryz.underlying68 (by kernel_rfl) rfl (by decide) (by omega)
set_option maxRecDepth 100000 in
set_option maxHeartbeats 4000000 in
theorem dNames_ {w : World} {M : Nat → Prop} {b : Nat} {sf sn : Option Nat} {D : DDr} {p : List UInt8} (h : DriveAt w M b sf sn D) (hdead : D.dead = false) (hp : p.length ≤ 1000) (hx : ∀ x ∈ D.seen, x.key.length ≤ 1000 ∧ ∃ r, x.key = p ++ r) :
    Calls Tryz.prog 91 #[.agg #[.pointer (some ⟨b, 0, none⟩), encStr p], .slice none 0 0] w fun e w' => ∃ v, e = .returned v ∧ Gr.Own tNam 9 w' (fun _ => False) w.heap.size v (D.seen.map fun x => x.key.drop p.length) ∧ Step w w' := by
  have hlist := Lib.hid (fun (W : World) (hW : Step w W) => dList_ (h.step hW) hx)
  have hLB : listB D = D.seen.map DPair.key := by unfold listB; rw [hdead]; rfl
  rw [hLB] at hlist
  have hfew := h.wf.seenFew
  have HXX : Hid (∀ k (hk : k < D.seen.length), (D.seen[k]).key.length ≤ 1000 ∧ p.length ≤ (D.seen[k]).key.length) := Lib.hid (fun k hk => by
    obtain ⟨h1, r, h2⟩ := hx _ (List.getElem_mem hk)
    exact ⟨h1, by rw [h2, List.length_append]; omega⟩)
  clear h hx hLB
  show Calls Tryz.prog 91 #[.agg #[.pointer (some ⟨b, 0, none⟩), encStr p], .slice none 0 0] w _
  go_enter Tryz.func91, Tryz.ntmps91
  go_upto_region 2 with fail
  have hbx : CellsAt (w.alloc (.cells #[.pointer (some ⟨b, 0, none⟩), encStr p] 148)) w.heap.size #[.pointer (some ⟨b, 0, none⟩), encStr p] 148 := CellsAt.new rfl
  refine wp_code (fun wx => CellsAt wx w.heap.size #[.pointer (some ⟨b, 0, none⟩), encStr p] 148 ∧ Step w wx) ⟨hbx, by (repeat (first | exact Step.refl _ | refine Step.alloc ?_ _ | refine Step.drew ?_ | refine Step.drewN ?_ _ | refine Step.setCell ?_ (by first | exact Nat.le_refl _ | assumption | omega | (simp; done) | (simp; omega)) _ | assumption | refine Step.trans ?_ (by assumption : Step _ _)))⟩ ?_
  clear hbx
  rintro w1 ⟨hbx, hS1⟩
  have hblt := hbx.lt
  have HBX := Lib.hid hbx
  have HS1 := Lib.hid hS1
  have hbx2 : w1.heap[w.heap.size]? = some (.cells #[.pointer (some ⟨b, 0, none⟩), encStr p] 148 (0, 0)) := hbx
  have b0 : w1.cell? ⟨w.heap.size, 0, none⟩ = some (.pointer (some ⟨b, 0, none⟩)) := hbx.cell 0
  have b1 : w1.cell? ⟨w.heap.size, 1, none⟩ = some (encStr p) := hbx.cell 1
  clear hbx hS1
  refine wp_region_held_drew (S := (fun w' => w'.cell? ⟨w.heap.size, 0, none⟩ = some (.pointer (some ⟨b, 0, none⟩)) ∧ w'.cell? ⟨w.heap.size, 1, none⟩ = some (encStr p))) (by kernel_rfl) ?_ (fun hHeld => ?_)
  · (go_keep)
  refine tkH 0 ?_
  try simp only [Act.put, gtA, gtB, gtC, gtD, gtE, gtF]
  refine tkH 1 ?_
  try simp only [Act.put, gtA, gtB, gtC, gtD, gtE, gtF]
  refine tkH 2 ?_
  try simp only [Act.put, gtA, gtB, gtC, gtD, gtE, gtF]
  refine tkH 3 ?_
  try simp only [Act.put, gtA, gtB, gtC, gtD, gtE, gtF]
  refine tkH 7 ?_
  try simp only [Act.put, gtA, gtB, gtC, gtD, gtE, gtF]
  refine rdH (rs := [4]) (.cons rfl (fun K hK => ?_) .nil)
  try simp only [gtA, gtB, gtC]
  go_simp
  (go_at_call 107; refine (dPath_ hp).mono ?_; rintro e w2 ⟨rfl, hS2⟩; have s2 : ∀ j, w2.cell? ⟨w.heap.size, j, none⟩ = w1.cell? ⟨w.heap.size, j, none⟩ := fun j => (hS2.cell (by first | assumption | omega | (simp; done) | (simp; omega)) j).trans (Step.cell (stp : Step w1 _) hblt j); have HS2 : Hid (Step w1 w2) := Lib.hid (Step.trans stp hS2); clear hS2)
  refine hK.out _ _ ?_ (fun hHeld => ?_)
  · (go_keep)
  clear hK K
  try simp only [Act.put, gtA, gtB, gtC, gtD, gtE, gtF]
  refine rdH (rs := [5]) (.cons rfl (fun K hK => ?_) .nil)
  try simp only [gtA, gtB, gtC]
  go_simp
  (go_at_call 37; refine (hlist.out _ (HS1.out.trans (HS2.out.trans stp))).mono ?_; rintro e w3 ⟨v3, rfl, hA3, hS3⟩; have HA3 := Lib.hid (Gr.Own.rep' hA3 (fun _ _ h => h)); obtain ⟨a3, n3, c3, rfl, HN3⟩ := hA3.valN; have s3 : ∀ j, w3.cell? ⟨w.heap.size, j, none⟩ = w1.cell? ⟨w.heap.size, j, none⟩ := fun j => (hS3.cell (Nat.lt_of_lt_of_le hblt HS2.out.size) j).trans (HS2.out.cell hblt j); have HS3 : Hid (Step w w3) := Lib.hid (HS1.out.trans (HS2.out.trans (Step.trans stp hS3))); clear hA3 hS3)
  refine hK.out _ _ ?_ (fun hHeld => ?_)
  · (go_keep)
  clear hK K
  try simp only [Act.put, gtA, gtB, gtC, gtD, gtE, gtF]
  refine tkH 6 ?_
  try simp only [Act.put, gtA, gtB, gtC, gtD, gtE, gtF]
  refine wpAnyH_done (by kernel_rfl) ?_ _
  go_wp2
  have hn3 := HN3.out
  rw [List.length_map] at hn3
  subst hn3
  have d1 : w3.cell? ⟨w.heap.size, 1, none⟩ = some (encStr p) := (s3 1).trans b1
  have hblt3 : w.heap.size < w3.heap.size := lt_of_cell d1
  have hps : (⟨p.toArray⟩ : ByteArray).size = p.length := by simp [ByteArray.size]
  clear s3 b0 b1 hbx2 hblt HN3
  go_loopw [5, 15] (fun ov iv w' => ∃ k : Nat, iv = .int .i64 (k : Int) ∧ k ≤ D.seen.length ∧ Gr.Own tNam 9 w' (fun _ => False) w3.heap.size ov ((D.seen.take k).map fun x => x.key.drop p.length) ∧ Hid (Step w3 w')) (fun _ iv _ => D.seen.length - (Go.RowKit.intOf iv).toNat)
  case atStart => exact ⟨0, rfl, Nat.zero_le _, Gr.Own.nil, Lib.hid (Step.refl _)⟩
  case round =>
    obtain ⟨k, rfl, hk, hA, hS⟩ := hrel
    have HA := Lib.hid hA
    clear hA
    obtain ⟨oa, on, oc, rfl, HON⟩ := HA.out.valN
    by_cases hlt : k < D.seen.length
    · have hd : decide ((k : Int) < (D.seen.length : Int)) = true := decide_eq_true (by omega)
      obtain ⟨b4, o4, u4, rfl, hb4, _, hu4, hc4⟩ := Ty.slice_at1 rfl (Ty.step _ HA3.out hS.out) (k := k) (by simpa using hlt)
      obtain ⟨hu5, _⟩ := hu4
      obtain ⟨K, hK⟩ : ∃ K, K = D.seen[k].key := ⟨_, rfl⟩
      have hu6 : u4 = encStr K := by rw [hK]; simpa using hu5
      subst hu6
      have hxx := HXX.out k hlt
      rw [← hK] at hxx
      have htk : Hid ((D.seen.take (k + 1)).map (fun x => x.key.drop p.length) = (D.seen.take k).map (fun x => x.key.drop p.length) ++ [K.drop p.length]) := Lib.hid (by rw [List.take_succ_eq_append_getElem hlt, List.map_append, hK]; rfl)
      have hext : (⟨K.toArray⟩ : ByteArray).extract p.length K.length = ⟨(K.drop p.length).toArray⟩ := by
        apply ByteArray.ext
        simp
        exact List.take_of_length_le (by simp)
      have hlm : Hid (((D.seen.take k).map (fun x => x.key.drop p.length)).length + 1 ≤ lim) := Lib.hid (by rw [List.length_map, List.length_take, lim_eq]; omega)
      have hks : (⟨K.toArray⟩ : ByteArray).size = K.length := by simp [ByteArray.size]
      have hdl : (K.drop p.length).length ≤ maxLen := by rw [List.length_drop]; simp [maxLen]; omega
      have d1r : wr.cell? ⟨w.heap.size, 1, none⟩ = some (.string ⟨p.toArray⟩) := (hS.out.cell hblt3 1).trans d1
      have hc4' : wr.cell? ⟨b4, o4 + k, none⟩ = some (.string ⟨K.toArray⟩) := hc4
      have hlk : (⟨(K.drop p.length).toArray⟩ : ByteArray) = ⟨(K.drop p.length).toArray⟩ := rfl
      obtain ⟨X, hX⟩ : ∃ X : List UInt8, X = K.drop p.length := ⟨_, rfl⟩
      rw [← hX] at hext hdl htk
      clear hu5 hK hc4 hlk hX
      generalize (⟨K.toArray⟩ : ByteArray) = KS at *
      generalize K.length = KL at *
      generalize hPL : p.length = PL at *
      generalize (⟨p.toArray⟩ : ByteArray) = PS at *
      clear d1
      go_wp2_with (at_builtin; refine wpList_append_acc (w0 := w3) (ys := [X]) rfl (.tmp 19) (.tmp 25) rfl stNams (hS.out.trans stp) (Gr.Own.step HA.out stp) (Src.oneAt (E := tNam) (y := X) (by first | rfl | simp) ⟨rfl, hdl⟩) (hlm.out) (by rfl) (by rfl) ?_; intro v5 w5 hA5 hB5 hG5 _; have HA5 := Lib.hid hA5; have HB5 := Lib.hid hB5; have HG5 := Lib.hid hG5; clear hA5 hB5 hG5)
      go_roundw
      case rel => exact ⟨k + 1, by go_num, by omega, by rw [htk.out]; exact HA5.out, HB5⟩
      case measure => simp [Go.RowKit.intOf]; omega
    · have hd : decide ((k : Int) < (D.seen.length : Int)) = false := decide_eq_false (by omega)
      have hke : Hid (D.seen.take k = D.seen) := Lib.hid (List.take_of_length_le (by omega))
      rw [hke.out] at HA
      clear hke
      go_wp2
      go_ret
      exact ⟨_, rfl, Gr.Own.base HA.out HS3.out.size, HS3.out.trans hS.out⟩
end Go.Proofs.YthebdlkmoailaaaGreatDoor

namespace Go.Proofs.YthebdlkmoailaaaGreatDoor
open Go.RowKit Go.Gr Go.Maps
open Go.Proofs (encStr)
set_option linter.unusedSimpArgs false
set_option linter.unusedVariables false
theorem stU64s : SliceTy Tryz.prog 124 32 Ty.u64.n := .mk' (z := .int .u64 0) (by_ := 8) Tryz.underlying124 (by kernel_rfl) rfl (by decide) (by omega)
theorem decS_len (n : Nat) : (decS n).length ≤ 2 := by unfold decS; split <;> simp
/-- All files are a journal's: their names are those of just these serials. -/
structure JNames (pre : List UInt8) (fs : List DPair) (ns : List Nat) : Prop where
  keys : fs.map DPair.key = ns.map (nameB pre)
  pos : ∀ n ∈ ns, 0 < n ∧ n < 100
theorem JNames.pre {pre : List UInt8} {fs : List DPair} {ns : List Nat} (h : JNames pre fs ns) (hp : pre.length ≤ 998) : ∀ x ∈ fs, x.key.length ≤ 1000 ∧ ∃ r, x.key = pre ++ r := fun x hx => by
  have h1 : x.key ∈ fs.map DPair.key := List.mem_map_of_mem hx
  rw [h.keys] at h1
  obtain ⟨n, hn, he⟩ := List.mem_map.1 h1
  rw [← he]
  unfold nameB
  have := decS_len n
  exact ⟨by rw [List.length_append]; omega, _, rfl⟩
theorem JNames.drop {pre : List UInt8} {fs : List DPair} {ns : List Nat} (h : JNames pre fs ns) : (fs.map fun x => x.key.drop pre.length) = ns.map decS := by
  have h1 : (fs.map fun x => x.key.drop pre.length) = (fs.map DPair.key).map (List.drop pre.length) := by rw [List.map_map]; rfl
  rw [h1, h.keys, List.map_map]
  refine List.map_congr_left fun n _ => ?_
  simp [nameB]
set_option maxRecDepth 100000 in
set_option maxHeartbeats 4000000 in
theorem jSerials_ {w : World} {M : Nat → Prop} {b l : Nat} {sf sn : Option Nat} {D : DDr} {pre : List UInt8} {most : Int} {fv : Value} {closed : Bool} {ns : List Nat} (h : DriveAt w M b sf sn D) (hdead : D.dead = false) (hl : LgAt w l b pre most fv closed) (hp : pre.length ≤ 998) (hn : JNames pre D.seen ns) :
    Calls Tryz.prog 74 #[.pointer (some ⟨l, 0, none⟩)] w fun e w' => ∃ v, e = .returned v ∧ Gr.Own Ty.u64 32 w' (fun _ => False) w.heap.size v (sortN ns) ∧ Step w w' := by
  have hfew := h.wf.seenFew
  have hnl : ns.length ≤ 1000000 := by
    have := congrArg List.length hn.keys
    rw [List.length_map, List.length_map] at this
    omega
  have HNM := Lib.hid (fun (W : World) (hW : Step w W) => dNames_ (h.step hW) hdead (by omega : pre.length ≤ 1000) (hn.pre hp))
  rw [hn.drop] at HNM
  have HPOS := Lib.hid hn.pos
  have l0 : w.cell? ⟨l, 0, none⟩ = some (.pointer (some ⟨b, 0, none⟩)) := hl.cell 0
  have l1 : w.cell? ⟨l, 1, none⟩ = some (encStr pre) := hl.cell 1
  have hllt := hl.lt
  have hei : ∀ W : World, (binOp .eql 151 .nilIface .nilIface).run Tryz.prog W = .ok (.bool true) W := fun W => by kernel_rfl
  clear h hl hn hfew
  go_enter Tryz.func74, Tryz.ntmps74
  go_upto_region 2 with fail
  refine wp_region_held_drew (S := (fun w' => w'.cell? ⟨l, 0, none⟩ = some (.pointer (some ⟨b, 0, none⟩)) ∧ w'.cell? ⟨l, 1, none⟩ = some (encStr pre))) (by kernel_rfl) ?_ (fun hHeld => ?_)
  · (go_keep)
  refine tkH 0 ?_
  try simp only [Act.put, gtA, gtB, gtC, gtD, gtE, gtF]
  refine tkH 1 ?_
  try simp only [Act.put, gtA, gtB, gtC, gtD, gtE, gtF]
  refine tkH 2 ?_
  try simp only [Act.put, gtA, gtB, gtC, gtD, gtE, gtF]
  refine tkH 3 ?_
  try simp only [Act.put, gtA, gtB, gtC, gtD, gtE, gtF]
  refine tkH 4 ?_
  try simp only [Act.put, gtA, gtB, gtC, gtD, gtE, gtF]
  refine tkH 5 ?_
  try simp only [Act.put, gtA, gtB, gtC, gtD, gtE, gtF]
  refine tkH 6 ?_
  try simp only [Act.put, gtA, gtB, gtC, gtD, gtE, gtF]
  refine tkH 7 ?_
  try simp only [Act.put, gtA, gtB, gtC, gtD, gtE, gtF]
  refine tkH 8 ?_
  try simp only [Act.put, gtA, gtB, gtC, gtD, gtE, gtF]
  refine tkH 11 ?_
  try simp only [Act.put, gtA, gtB, gtC, gtD, gtE, gtF]
  refine rdH (rs := [9]) (.cons rfl (fun K hK => ?_) .nil)
  try simp only [gtA, gtB, gtC]
  go_simp
  (go_at_call 91; refine (HNM.out _ stp).mono ?_; rintro e w3 ⟨v3, rfl, hA3, hS3⟩; have HA3 := Lib.hid (Gr.Own.rep' hA3 (fun _ _ h => h)); obtain ⟨a3, n3, c3, rfl, HN3⟩ := hA3.valN; have s3 : ∀ j, w3.cell? ⟨l, j, none⟩ = w.cell? ⟨l, j, none⟩ := fun j => (hS3.cell (by simpa using hllt) j).trans (Step.cell (stp : Step w _) hllt j); have HS3 : Hid (Step w w3) := Lib.hid (Step.trans stp hS3); clear hA3 hS3)
  refine hK.out _ _ ?_ (fun hHeld => ?_)
  · (go_keep)
  clear hK K
  try simp only [Act.put, gtA, gtB, gtC, gtD, gtE, gtF]
  refine tkH 10 ?_
  try simp only [Act.put, gtA, gtB, gtC, gtD, gtE, gtF]
  refine wpAnyH_done (by kernel_rfl) ?_ _
  go_wp2
  have hn3 := HN3.out
  rw [List.length_map] at hn3
  subst hn3
  clear HN3 s3 l0 l1
  go_loopw [3, 19] (fun ov iv w' => ∃ k : Nat, iv = .int .i64 (k : Int) ∧ k ≤ ns.length ∧ Gr.Own Ty.u64 32 w' (fun _ => False) w3.heap.size ov (ns.take k) ∧ Hid (Step w3 w')) (fun _ iv _ => ns.length - (Go.RowKit.intOf iv).toNat)
  case atStart => exact ⟨0, rfl, Nat.zero_le _, Gr.Own.nil, Lib.hid (Step.refl _)⟩
  case round =>
    obtain ⟨k, rfl, hk, hA, hS⟩ := hrel
    have HA := Lib.hid hA
    clear hA
    obtain ⟨oa, on, oc, rfl, HON⟩ := HA.out.valN
    by_cases hlt : k < ns.length
    · have hd : decide ((k : Int) < (ns.length : Int)) = true := decide_eq_true (by omega)
      obtain ⟨b4, o4, u4, rfl, hb4, _, hu4, hc4⟩ := Ty.slice_at1 rfl (Ty.step _ HA3.out hS.out) (k := k) (by simpa using hlt)
      obtain ⟨hu5, _⟩ := hu4
      obtain ⟨K, hK⟩ : ∃ K, K = ns[k] := ⟨_, rfl⟩
      have hu6 : u4 = encStr (decS K) := by rw [hK]; simpa using hu5
      subst hu6
      obtain ⟨hK0, hK1⟩ := HPOS.out _ (List.getElem_mem hlt)
      rw [← hK] at hK0 hK1
      have htk : Hid (ns.take (k + 1) = ns.take k ++ [K]) := Lib.hid (by rw [List.take_succ_eq_append_getElem hlt, hK])
      have hlm : Hid ((ns.take k).length + 1 ≤ lim) := Lib.hid (by rw [List.length_take, lim_eq]; omega)
      have HPU : Hid (∀ W : World, Calls Tryz.prog 92 #[.string ⟨(decS K).toArray⟩, .int .i64 10, .int .i64 64] W fun e w' => e = .returned (.tuple #[.int .u64 (K : Int), .nilIface]) ∧ Step W w') := Lib.hid (fun W => prsUint_ hK1)
      have HFM : Hid (∀ W : World, Calls Tryz.prog 81 #[.int .u64 (K : Int), .int .i64 10] W fun e w' => e = .returned (.string ⟨(decS K).toArray⟩) ∧ w' = W) := Lib.hid (fun W => fmtUint_ hK1)
      have hc4' : wr.cell? ⟨b4, o4 + k, none⟩ = some (.string ⟨(decS K).toArray⟩) := hc4
      have hbe : ((⟨(decS K).toArray⟩ : ByteArray) == ⟨(decS K).toArray⟩) = true := by rw [beq_strsP]; simp
      clear hu5 hK hc4
      generalize (⟨(decS K).toArray⟩ : ByteArray) = KS at *
      go_wp2_with (first
        | (go_at_call 92; refine (HPU.out _).mono ?_; rintro e w4 ⟨rfl, hS4⟩; have HS4 := Lib.hid hS4; clear hS4)
        | (go_at_call 81; refine (HFM.out _).mono ?_; rintro e w5 ⟨rfl, hw5⟩; subst w5)
        | (at_builtin; refine wpList_append_acc (w0 := w3) (ys := [K]) rfl (.tmp 40) (.tmp 42) rfl stU64s (hS.out.trans (HS4.out.trans stp)) (Gr.Own.step HA.out (HS4.out.trans stp)) (Src.oneAt (E := Ty.u64) (y := K) (by first | rfl | simp) ⟨rfl, by omega⟩) (hlm.out) (by rfl) (by rfl) ?_; intro v6 w6 hA6 hB6 hG6 _; have HA6 := Lib.hid hA6; have HB6 := Lib.hid hB6; clear hA6 hB6 hG6))
      go_roundw
      case rel => exact ⟨k + 1, by go_num, by omega, by rw [htk.out]; exact HA6.out, HB6⟩
      case measure => simp [Go.RowKit.intOf]; omega
    · have hd : decide ((k : Int) < (ns.length : Int)) = false := decide_eq_false (by omega)
      have hke : Hid (ns.take k = ns) := Lib.hid (List.take_of_length_le (by omega))
      rw [hke.out] at HA
      clear hke
      go_wp2_with (go_at_call 93; refine (sortU_ HA.out).mono ?_; rintro e w7 ⟨rfl, hA7, hT7⟩)
      go_ret
      exact ⟨_, rfl, Gr.Own.base hA7 HS3.out.size, HS3.out.trans (Turn.step hS.out hT7 (fun c hc => (HA.out.lt hc).1))⟩
end Go.Proofs.YthebdlkmoailaaaGreatDoor

namespace Go.Proofs.YthebdlkmoailaaaGreatDoor
open Go.RowKit Go.Gr Go.Maps
open Go.Proofs (encStr)
set_option linter.unusedSimpArgs false
set_option linter.unusedVariables false
structure DFile where
  serial : Nat
  from_ : Nat
  to_ : Nat
  size : Int
  deriving Inhabited, DecidableEq
def DFile.none : DFile := ⟨0, 0, 0, 0⟩
abbrev flC (f : DFile) : List Value := [.int .u64 (f.serial : Int), .int .u64 (f.from_ : Int), .int .u64 (f.to_ : Int), .int .i64 f.size]
/-- What is in range. -/
structure DFile.Ok (f : DFile) : Prop where
  serial : f.serial < 1000
  from_ : f.from_ < 18446744073709551616
  to_ : f.to_ < 18446744073709551616
  size : 0 ≤ f.size ∧ f.size ≤ 1152921504606846976
/-- The block that a slice's value stands in. -/
def blkOf : Value → Option Nat
  | .slice (some a) _ _ => some a.block
  | _ => .none
/-- A row of files, from some cell of its block on, with room behind it. -/
def FRow (w : World) (v : Value) (fs : List DFile) : Prop :=
  fs.length ≤ 1000000 ∧ (∀ f ∈ fs, f.Ok) ∧ ((v = .slice Option.none 0 0 ∧ fs = []) ∨ ∃ g off cap cur, v = .slice (some ⟨g, off, Option.none⟩) fs.length cap ∧ w.heap[g]? = some (.cells cur 89 (0, 0)) ∧ fs.length ≤ cap ∧ cap ≤ maxLen ∧ off + cap * 4 ≤ cur.size ∧
    ∀ i (hi : i < fs.length) j u, (flC fs[i])[j]? = some u → cur[off + i * 4 + j]? = some u)
theorem FRow.nil (w : World) : FRow w (.slice Option.none 0 0) [] := ⟨by simp, by simp, .inl ⟨rfl, rfl⟩⟩
theorem FRow.kept {w w' : World} {v : Value} {fs : List DFile} (h : FRow w v fs) (hk : ∀ g, blkOf v = some g → w'.heap[g]? = w.heap[g]?) : FRow w' v fs := by
  obtain ⟨h1, h2, h3⟩ := h
  refine ⟨h1, h2, h3.imp id ?_⟩
  rintro ⟨g, off, cap, cur, rfl, hg, rest⟩
  exact ⟨g, off, cap, cur, rfl, (hk g rfl).trans hg, rest⟩
theorem FRow.val {w : World} {v : Value} {fs : List DFile} (h : FRow w v fs) : ∃ a c, v = .slice a fs.length c := by
  rcases h.2.2 with ⟨rfl, rfl⟩ | ⟨g, off, cap, cur, rfl, _⟩
  · exact ⟨_, _, rfl⟩
  · exact ⟨_, _, rfl⟩
theorem FRow.lt {w : World} {v : Value} {fs : List DFile} (h : FRow w v fs) {g : Nat} (hg : blkOf v = some g) : g < w.heap.size := by
  rcases h.2.2 with ⟨rfl, rfl⟩ | ⟨g', off, cap, cur, rfl, hg', _⟩
  · cases hg
  · obtain rfl : g' = g := by simpa [blkOf] using hg
    exact (Array.getElem?_eq_some_iff.1 hg').1
theorem FRow.step {w w' : World} {v : Value} {fs : List DFile} (h : FRow w v fs) (hs : Step w w') : FRow w' v fs := h.kept fun g hg => hs.heap (h.lt hg)
/-- One of the files. -/
theorem FRow.at {w : World} {a : Option Addr} {n c k : Nat} {fs : List DFile} (h : FRow w (.slice a n c) fs) (hk : k < fs.length) :
    ∃ g off, a = some ⟨g, off, Option.none⟩ ∧ g < w.heap.size ∧ (∀ j u, (flC fs[k])[j]? = some u → w.cell? ⟨g, off + k * 4 + j, Option.none⟩ = some u) ∧ (∀ o, w.frozen? ⟨g, o, Option.none⟩ = false) := by
  rcases h.2.2 with ⟨hv, rfl⟩ | ⟨g, off, cap, cur, hv, hg, h1, h2, h3, h4⟩
  · simp at hk
  · simp only [Value.slice.injEq] at hv
    obtain ⟨rfl, rfl, rfl⟩ := hv
    refine ⟨g, off, rfl, (Array.getElem?_eq_some_iff.1 hg).1, fun j u hu => ?_, fun o => frozen_of_row w g o cur _ hg⟩
    rw [cell_of_row w g _ cur _ (0, 0) hg]
    exact h4 k hk j u hu
/-- The last file is turned. -/
theorem FRow.setLast {w : World} {g off n c : Nat} {fs : List DFile} {f0 f : DFile} (h : FRow w (.slice (some ⟨g, off, Option.none⟩) n c) (fs ++ [f0])) (hf : f.Ok) :
    FRow ((((w.setCell ⟨g, off + fs.length * 4, Option.none⟩ (.int .u64 (f.serial : Int))).setCell ⟨g, off + fs.length * 4 + 1, Option.none⟩ (.int .u64 (f.from_ : Int))).setCell ⟨g, off + fs.length * 4 + 2, Option.none⟩ (.int .u64 (f.to_ : Int))).setCell ⟨g, off + fs.length * 4 + 3, Option.none⟩ (.int .i64 f.size)) (.slice (some ⟨g, off, Option.none⟩) n c) (fs ++ [f]) := by
  obtain ⟨h1, h2, h3⟩ := h
  rcases h3 with ⟨hv, _⟩ | ⟨g', off', cap, cur, hv, hg, k1, k2, k3, k4⟩
  · cases hv
  · simp only [Value.slice.injEq, Option.some.injEq, Addr.mk.injEq, and_true] at hv
    obtain ⟨⟨rfl, rfl⟩, rfl, rfl⟩ := hv
    rw [List.length_append, List.length_singleton] at h1 k1
    refine ⟨by rw [List.length_append]; simpa using h1, fun x hx => ?_, .inr ⟨g, off, c, _, by simp, heap_setCell_same _ g _ _ _ _ (heap_setCell_same _ g _ _ _ _ (heap_setCell_same _ g _ _ _ _ (heap_setCell_same w g _ cur _ _ hg))), by simpa using k1, k2, by simpa using k3, fun i hi j u hu => ?_⟩⟩
    · rcases List.mem_append.1 hx with hx | hx
      · exact h2 x (List.mem_append_left _ hx)
      · obtain rfl : x = f := by simpa using hx
        exact hf
    · have hj : j < 4 := by
        have := (List.getElem?_eq_some_iff.1 hu).1
        simpa using this
      have hsz : off + fs.length * 4 + 3 < cur.size := by omega
      by_cases hil : i < fs.length
      · rw [List.getElem_append_left hil] at hu
        have := k4 i (by rw [List.length_append]; omega) j u (by rw [List.getElem_append_left hil]; exact hu)
        simp only [Array.getElem?_setIfInBounds]
        rw [if_neg (by omega), if_neg (by omega), if_neg (by omega), if_neg (by omega)]
        exact this
      · obtain rfl : i = fs.length := by rw [List.length_append, List.length_singleton] at hi; omega
        rw [List.getElem_append_right (by omega)] at hu
        simp only [Nat.sub_self, List.getElem_cons_zero] at hu
        rcases j with _ | _ | _ | _ | j
        · obtain rfl : _ = u := by simpa using hu
          simp [Array.getElem?_setIfInBounds, show off + fs.length * 4 < cur.size by omega]
        · obtain rfl : _ = u := by simpa using hu
          simp [Array.getElem?_setIfInBounds, show off + fs.length * 4 + 1 < cur.size by omega]
        · obtain rfl : _ = u := by simpa using hu
          simp [Array.getElem?_setIfInBounds, show off + fs.length * 4 + 2 < cur.size by omega]
        · obtain rfl : _ = u := by simpa using hu
          simp [Array.getElem?_setIfInBounds, show off + fs.length * 4 + 3 < cur.size by omega]
        · omega
end Go.Proofs.YthebdlkmoailaaaGreatDoor

namespace Go.Gr
open Go.RowKit
theorem run_append_room_at {P : Program} {w : World} (t ty e : TypeId) (i : TypeInfo) (ht : P.underlying t = some (.slice e)) (hi : P.info? e = some i)
    (g off sLen sCap : Nat) (cur : Array Value) (hg : w.heap[g]? = some (.cells cur e (0, 0)))
    (a : Addr) (m c : Nat) (news : List Value) (hl : news.length = m * i.size) (hnews : ∀ j u, news[j]? = some u → w.cell? (a.add j) = some u) (h1 : ∀ u ∈ news, u.oneCell' = true)
    (hroom : sLen + m ≤ sCap) (hfit : off + sLen * i.size + news.length ≤ cur.size) :
    (Builtin.append_ #[t, t] ty #[.slice (some ⟨g, off, none⟩) sLen sCap, .slice (some a) m c]).run P w =
      .ok (.slice (some ⟨g, off, none⟩) (sLen + m) sCap) (w.setRow g (cur.toList.take (off + sLen * i.size) ++ news ++ cur.toList.drop (off + sLen * i.size + news.length)).toArray) := by
  have hf := run_firstCells_some (P := P) w i.size m a m c news hl hnews
  have hst := run_storeCells_at P g (off + sLen * i.size) e news 0 cur w hg (by simpa using hfit) h1
  simp only [Nat.add_zero] at hst
  have hadd : (⟨g, off, none⟩ : Addr).add (sLen * i.size) = ⟨g, off + sLen * i.size, none⟩ := by
    unfold Addr.add
    split
    · rename_i h0; rw [h0]; rfl
    · rfl
  simp [Builtin.append_, run_underlying ht, sizeOf, typeInfo, hi, Builtin.lenOf, hroom, hf, hadd, hst]
end Go.Gr
namespace Go.Proofs.YthebdlkmoailaaaGreatDoor
open Go.RowKit Go.Gr Go.Maps
open Go.Proofs (encStr)
set_option linter.unusedSimpArgs false
set_option linter.unusedVariables false
theorem stFiles : SliceTy Tryz.prog 62 89 4 := .mk' (z := .agg #[.int .u64 0, .int .u64 0, .int .u64 0, .int .i64 0]) (by_ := 32) Tryz.underlying62 (by kernel_rfl) rfl (by decide) (by omega)
theorem flC_one (f : DFile) : ∀ u ∈ flC f, u.oneCell' = true := by
  intro u hu
  simp at hu
  rcases hu with rfl | rfl | rfl | rfl <;> rfl
/-- The cells of all files, one behind the other. -/
def flAll (fs : List DFile) : List Value := (fs.map flC).flatten
theorem flAll_len (fs : List DFile) : (flAll fs).length = fs.length * 4 := by
  induction fs with
  | nil => rfl
  | cons f fs ih => simp only [flAll, List.map_cons, List.flatten_cons, List.length_append, List.length_cons] at *; rw [ih]; simp; omega
theorem flAll_at : ∀ (fs : List DFile) (i : Nat) (hi : i < fs.length) (j : Nat) (hj : j < 4), (flAll fs)[i * 4 + j]? = (flC fs[i])[j]?
  | f :: fs, 0, _, j, hj => by
    show (flC f ++ flAll fs)[0 * 4 + j]? = _
    rw [List.getElem?_append_left (by simpa using hj)]
    simp
  | f :: fs, i + 1, hi, j, hj => by
    show (flC f ++ flAll fs)[(i + 1) * 4 + j]? = _
    rw [List.getElem?_append_right (by simp; omega)]
    have := flAll_at fs i (by simpa using hi) j hj
    rw [show (i + 1) * 4 + j - (flC f).length = i * 4 + j by simp; omega]
    simpa using this
theorem flAll_snoc (fs : List DFile) (f : DFile) : flAll (fs ++ [f]) = flAll fs ++ flC f := by simp [flAll]
/-- A fresh block holds all files. -/
theorem FRow.fresh {w' : World} {fs : List DFile} {g cap : Nat} {cur : Array Value} (h1 : fs.length ≤ 1000000) (h2 : ∀ f ∈ fs, f.Ok) (hg : w'.heap[g]? = some (.cells cur 89 (0, 0))) (hc : fs.length ≤ cap) (hm : cap ≤ maxLen) (hs : cap * 4 ≤ cur.size) (ht : cur.toList.take (fs.length * 4) = flAll fs) : FRow w' (.slice (some ⟨g, 0, Option.none⟩) fs.length cap) fs := by
  refine ⟨h1, h2, .inr ⟨g, 0, cap, cur, rfl, hg, hc, hm, by simpa using hs, fun i hi j u hu => ?_⟩⟩
  have hj : j < 4 := by
    have := (List.getElem?_eq_some_iff.1 hu).1
    simpa using this
  have := flAll_at fs i hi j hj
  rw [← ht, List.getElem?_take, if_pos (by omega)] at this
  rw [Nat.zero_add]
  rw [hu] at this
  simpa using this
theorem run_append_file {w : World} {v : Value} {fs : List DFile} {f : DFile} {k : Nat} (ty : TypeId) (h : FRow w v fs) (hf : f.Ok) (hl : fs.length < 1000000) (hk : ∀ j u, (flC f)[j]? = some u → w.cell? ⟨k, j, Option.none⟩ = some u) :
    ∃ v' w', (Builtin.append_ #[62, 62] ty #[v, .slice (some ⟨k, 0, Option.none⟩) 1 1]).run Tryz.prog w = .ok v' w' ∧ FRow w' v' (fs ++ [f]) ∧ Turn (fun c => blkOf v = some c) w w' ∧ (blkOf v' = blkOf v ∨ blkOf v' = some w.heap.size) := by
  obtain ⟨ht, i, z, hi, hz, hsize, hzs, hpos, hby⟩ := stFiles
  obtain ⟨h1, h2, h3⟩ := h
  have hnl : (flC f).length = 1 * i.size := by rw [hsize]; rfl
  have hadd : ∀ j u, (flC f)[j]? = some u → w.cell? ((⟨k, 0, Option.none⟩ : Addr).add j) = some u := fun j u hu => by
    have := hk j u hu
    unfold Addr.add
    split
    · rename_i h0; subst h0; simpa using this
    · simpa using this
  have hall : ∀ x ∈ fs ++ [f], x.Ok := fun x hx => by
    rcases List.mem_append.1 hx with hx | hx
    · exact h2 x hx
    · obtain rfl : x = f := by simpa using hx
      exact hf
  have hb48 : (fs.length + 1) * i.bytes ≤ 140737488355328 := by
    have : (fs.length + 1) * i.bytes ≤ 1000000 * 2048 := Nat.mul_le_mul (by omega) hby
    omega
  rcases h3 with ⟨rfl, rfl⟩ | ⟨g, off, cap, cur, rfl, hg, k1, k2, k3, k4⟩
  · have hrun := run_append_nil (P := Tryz.prog) w 62 ty 89 i z ht hi hz ⟨k, 0, Option.none⟩ 1 1 (flC f) hnl hadd (by omega) (by omega) (by simp at hb48; omega)
    refine ⟨_, _, hrun, ?_, Turn.of (((Step.refl w).drew).alloc _), .inr rfl⟩
    refine FRow.fresh (fs := [] ++ [f]) (by simp) hall (heap_alloc_new w.drew _) (by simpa using grownCap_ge w 1 0 _) (grownCap_le_maxLen _ _ _ _ (by simp [maxLen])) ?_ ?_
    · have := grownCap_ge w 1 0 89
      rw [Array.size_append, size_zeroCells, List.size_toArray, hzs]
      simp only [List.length_cons, List.length_nil]
      omega
    · rw [Array.toList_append]
      simp only [List.nil_append, List.length_cons, List.length_nil]
      rw [List.take_left' (by rfl)]
      simp [flAll]
  · by_cases hroom : fs.length + 1 ≤ cap
    · have hrun := run_append_room_at (P := Tryz.prog) (w := w) 62 ty 89 i ht hi g off fs.length cap cur hg ⟨k, 0, Option.none⟩ 1 1 (flC f) hnl hadd (flC_one f) hroom (by rw [hsize]; simp; omega)
      refine ⟨_, _, hrun, ⟨by simp; omega, hall, .inr ⟨g, off, cap, _, by simp, setRow_heap w g cur _ _ _ hg, by simpa using hroom, k2, ?_, fun i' hi' j u hu => ?_⟩⟩, ?_, .inl rfl⟩
      · rw [hsize]
        simp
        omega
      · have hj : j < 4 := by
          have := (List.getElem?_eq_some_iff.1 hu).1
          simpa using this
        rw [hsize]
        simp only [List.getElem?_toArray]
        have hcl : cur.toList.length = cur.size := by simp
        by_cases hil : i' < fs.length
        · rw [List.getElem_append_left hil] at hu
          rw [List.append_assoc, List.getElem?_append_left (by rw [List.length_take]; omega), List.getElem?_take, if_pos (by omega)]
          have := k4 i' hil j u hu
          simpa using this
        · obtain rfl : i' = fs.length := by rw [List.length_append, List.length_singleton] at hi'; omega
          rw [List.getElem_append_right (by omega)] at hu
          simp only [Nat.sub_self, List.getElem_cons_zero] at hu
          rw [List.append_assoc, List.getElem?_append_right (by rw [List.length_take]; omega), List.length_take, List.getElem?_append_left (by simp; omega)]
          rw [show off + fs.length * 4 + j - min (off + fs.length * 4) cur.toList.length = j by omega]
          exact hu
      · refine ⟨rfl, rfl, rfl, by simp [World.setRow], fun b hb hm => setRow_other w g b _ (fun e => hm (by rw [e]; rfl))⟩
    · have hol : (flAll fs).length = fs.length * i.size := by rw [hsize]; exact flAll_len fs
      have hadd1 : ∀ j u, (flAll fs)[j]? = some u → w.cell? ((⟨g, off, Option.none⟩ : Addr).add j) = some u := fun j u hu => by
        have hj : j < fs.length * 4 := by
          have := (List.getElem?_eq_some_iff.1 hu).1
          rw [flAll_len] at this
          exact this
        have h5 := flAll_at fs (j / 4) (by omega) (j % 4) (by omega)
        rw [show j / 4 * 4 + j % 4 = j by omega, hu] at h5
        have h6 := k4 (j / 4) (by omega) (j % 4) u h5.symm
        rw [show off + j / 4 * 4 + j % 4 = off + j by omega] at h6
        have h7 : w.cell? ⟨g, off + j, Option.none⟩ = some u := by rw [cell_of_row w g _ cur _ (0, 0) hg]; exact h6
        unfold Addr.add
        split
        · rename_i h0; subst h0; simpa using h7
        · exact h7
      have hrun := run_append_grow (P := Tryz.prog) w 62 ty 89 i z ht hi hz ⟨g, off, Option.none⟩ fs.length cap (flAll fs) hol hadd1 ⟨k, 0, Option.none⟩ 1 1 (flC f) hnl hadd (by omega) (by omega) (growslice_fits (by omega) hb48)
      refine ⟨_, _, hrun, ?_, Turn.of (((Step.refl w).drew).alloc _), .inr rfl⟩
      have hge := grownCap_ge w (fs.length + 1) cap 89
      have hlen : (fs ++ [f]).length = fs.length + 1 := by simp
      rw [← hlen]
      refine FRow.fresh (fs := fs ++ [f]) (by simp; omega) hall (heap_alloc_new w.drew _) (by rw [hlen]; exact hge) (grownCap_le_maxLen _ _ _ _ (by simp [maxLen]; omega)) ?_ ?_
      · rw [Array.size_append, Array.size_append, size_zeroCells, List.size_toArray, List.size_toArray, hol, hzs, hsize, hlen]
        simp only [List.length_cons, List.length_nil]
        omega
      · rw [Array.toList_append, Array.toList_append]
        rw [List.take_left' (by simp [flAll_len]; omega)]
        simp [flAll_snoc]
theorem wp_append_file {w : World} {v : Value} {fs : List DFile} {f : DFile} {k : Nat} {o : Oper} {ac : Act} {K : Act → World → Prop} {Q : Exit → Act → World → Prop} (s x : Operand)
    (ho : o.op = .call { callee := .builtin .append, args := #[s, x], argTypes := #[62, 62] }) (h : FRow w v fs) (hf : f.Ok) (hl : fs.length < 1000000) (hk : ∀ j u, (flC f)[j]? = some u → w.cell? ⟨k, j, Option.none⟩ = some u)
    (hs : ac.eval s = v) (hx : ac.eval x = .slice (some ⟨k, 0, Option.none⟩) 1 1) (hK : ∀ v' w', FRow w' v' (fs ++ [f]) → Turn (fun c => blkOf v = some c) w w' → (blkOf v' = blkOf v ∨ blkOf v' = some w.heap.size) → K (ac.put o.dst v') w') : o.wp Tryz.prog ac w K Q := by
  obtain ⟨v', w', hrun, h2, h3, h4⟩ := run_append_file o.type h hf hl hk
  unfold Oper.wp execOp
  simp only [ho, resolve, invoke, builtin, Sem.run_bind, Sem.run_pure, Result.andThen_ok, List.map_toArray, List.map_cons, List.map_nil, hs, hx, hrun]
  exact hK v' w' h2 h3 h4
end Go.Proofs.YthebdlkmoailaaaGreatDoor

namespace Go.Proofs.YthebdlkmoailaaaGreatDoor
open Go.RowKit Go.Gr Go.Maps
open Go.Proofs (encStr)
set_option linter.unusedSimpArgs false
set_option linter.unusedVariables false
/-- A journal. -/
structure DLog where
  most : Int
  files : List DFile
  closed : Bool
  deriving Inhabited
def lastF (fs : List DFile) : DFile := fs.getLast?.getD DFile.none
def firstL (fs : List DFile) : Nat := match fs with
  | [] => 0
  | f :: _ => f.from_
theorem lastF_snoc (fs : List DFile) (f : DFile) : lastF (fs ++ [f]) = f := by simp [lastF]
theorem files_cases (fs : List DFile) : fs = [] ∨ ∃ i f, fs = i ++ [f] := by
  rcases List.eq_nil_or_concat fs with h | ⟨i, f, h⟩
  · exact .inl h
  · exact .inr ⟨i, f, by simpa using h⟩
/-- Block l is a journal of the drive at block b that reads as L; g: the block of its row of files. -/
structure LogAt (w : World) (M : Nat → Prop) (l b : Nat) (g : Option Nat) (pre : List UInt8) (L : DLog) : Prop where
  row : ∃ fv, LgAt w l b pre L.most fv L.closed ∧ FRow w fv L.files ∧ blkOf fv = g
  own : M l
  gown : ∀ c, g = some c → M c ∧ c ≠ l ∧ c ≠ b
  ne : l ≠ b
  most : I64 L.most
/-- The blocks that a journal and its drive turn. -/
abbrev JM (b : Nat) (sf sn : Option Nat) (l : Nat) (g : Option Nat) (c : Nat) : Prop := DM b sf sn c ∨ c = l ∨ g = some c
/-- From w to w' a journal has been at work. -/
structure JGo (b l : Nat) (w : World) (M : Nat → Prop) (sf sn g : Option Nat) (w' : World) (M' : Nat → Prop) (sf' sn' g' : Option Nat) : Prop where
  turn : Turn (fun c => w.heap.size ≤ c ∨ JM b sf sn l g c) w w'
  more : ∀ c, M c → M' c
  less : ∀ c, c < w.heap.size → M' c → M c
  own : ∀ c, c < w.heap.size → JM b sf' sn' l g' c → JM b sf sn l g c
theorem JGo.refl (b l : Nat) (w : World) (M : Nat → Prop) (sf sn g : Option Nat) : JGo b l w M sf sn g w M sf sn g := ⟨Turn.refl _ _, fun _ h => h, fun _ _ h => h, fun _ _ h => h⟩
theorem JGo.trans {b l : Nat} {w w1 w2 : World} {M M1 M2 : Nat → Prop} {sf sn g sf1 sn1 g1 sf2 sn2 g2 : Option Nat} (h : JGo b l w M sf sn g w1 M1 sf1 sn1 g1) (k : JGo b l w1 M1 sf1 sn1 g1 w2 M2 sf2 sn2 g2) : JGo b l w M sf sn g w2 M2 sf2 sn2 g2 := by
  have hz := h.turn.size
  refine ⟨h.turn.trans (k.turn.mono fun c hc hm => ?_), fun c hm => k.more c (h.more c hm), fun c hc hm => h.less c hc (k.less c (by omega) hm), fun c hc hm => h.own c hc (k.own c (by omega) hm)⟩
  rcases Nat.lt_or_ge c w.heap.size with hlt | hge
  · rcases hm with hm | hm
    · omega
    · exact .inr (h.own c hlt hm)
  · exact .inl hge
theorem JGo.of {b l : Nat} {w w' : World} {M M' : Nat → Prop} {sf sn sf' sn' : Option Nat} (g : Option Nat) (h : DGo b w M sf sn w' M' sf' sn') : JGo b l w M sf sn g w' M' sf' sn' g :=
  ⟨h.turn.mono fun c _ hm => hm.imp id .inl, h.more, h.less, fun c hc hm => hm.imp (h.own c hc) id⟩
theorem JGo.then {b l : Nat} {w w1 w2 : World} {M M1 : Nat → Prop} {sf sn g sf1 sn1 g1 : Option Nat} (h : JGo b l w M sf sn g w1 M1 sf1 sn1 g1) (k : Step w1 w2) : JGo b l w M sf sn g w2 M1 sf1 sn1 g1 := ⟨h.turn.then k, h.more, h.less, h.own⟩
theorem JGo.from {b l : Nat} {w w1 w2 : World} {M M2 : Nat → Prop} {sf sn g sf2 sn2 g2 : Option Nat} (h : Step w w1) (k : JGo b l w1 M sf sn g w2 M2 sf2 sn2 g2) : JGo b l w M sf sn g w2 M2 sf2 sn2 g2 := by
  have hz := h.size
  refine ⟨(Turn.of h).trans (k.turn.mono fun c hc hm => ?_), k.more, fun c hc hm => k.less c (by omega) hm, fun c hc hm => k.own c (by omega) hm⟩
  rcases hm with hm | hm
  · exact .inl (by omega)
  · exact .inr hm
/-- A drive's blocks are none of a journal's. -/
theorem DriveAt.notDM {w : World} {M : Nat → Prop} {b l : Nat} {sf sn : Option Nat} {D : DDr} (h : DriveAt w M b sf sn D) {cs : Array Value} {e : TypeId} {z : Nat × Nat} (hl : w.heap[l]? = some (.cells cs e z)) (hne : l ≠ b) : ¬ DM b sf sn l := by
  intro hd
  have key : ∀ v : Option Nat, ∀ fs, FilesAt w M (.map v) fs → v ≠ some l := fun v fs hf hv => by
    rcases hf with ⟨h1, _⟩ | ⟨m', h1, _, hmp⟩
    · rw [hv] at h1; cases h1
    · obtain rfl : l = m' := by rw [hv] at h1; injection h1 with h1; injection h1
      obtain ⟨es, cl, hob⟩ := MapR.obj hmp
      rw [hl] at hob
      cases hob
  rcases hd with hd | hd | hd
  · exact hne hd
  · exact key _ _ h.safe hd
  · exact key _ _ h.seen hd
theorem FRow.obj {w : World} {v : Value} {fs : List DFile} (h : FRow w v fs) {g : Nat} (hg : blkOf v = some g) : ∃ cur, w.heap[g]? = some (.cells cur 89 (0, 0)) := by
  rcases h.2.2 with ⟨rfl, rfl⟩ | ⟨g', off, cap, cur, rfl, hg', _⟩
  · cases hg
  · obtain rfl : g' = g := by simpa [blkOf] using hg
    exact ⟨_, hg'⟩
/-- A journal beside its drive, where the drive has been at work. -/
theorem LogAt.beside {w w' : World} {M M' : Nat → Prop} {l b : Nat} {sf sn sf' sn' g : Option Nat} {pre : List UInt8} {L : DLog} {D : DDr} (h : LogAt w M l b g pre L) (hD : DriveAt w M b sf sn D) (hG : DGo b w M sf sn w' M' sf' sn') : LogAt w' M' l b g pre L := by
  obtain ⟨⟨fv, h1, h2, h3⟩, h4, h5, h6, h7⟩ := h
  have hl := hD.notDM (l := l) h1 h6
  refine ⟨⟨fv, h1.kept (hG.turn.block l h1.lt (fun hx => hx.elim (fun h => by have := h1.lt; omega) hl)), h2.kept fun c hc => ?_, h3⟩, hG.more l h4, fun c hc => ⟨hG.more c (h5 c hc).1, (h5 c hc).2⟩, h6, h7⟩
  obtain ⟨cur, hcur⟩ := h2.obj hc
  have hlt := h2.lt hc
  exact hG.turn.block c hlt (fun hx => hx.elim (fun h => by omega) (hD.notDM (l := c) hcur (h5 c (by rw [← h3, hc])).2.2))
theorem LogAt.step {w w' : World} {M : Nat → Prop} {l b : Nat} {g : Option Nat} {pre : List UInt8} {L : DLog} (h : LogAt w M l b g pre L) (hs : Step w w') : LogAt w' M l b g pre L := by
  obtain ⟨⟨fv, h1, h2, h3⟩, h4, h5, h6, h7⟩ := h
  exact ⟨⟨fv, CellsAt.step h1 hs, h2.step hs, h3⟩, h4, h5, h6, h7⟩
abbrev flV (f : DFile) : Array Value := #[.int .u64 (f.serial : Int), .int .u64 (f.from_ : Int), .int .u64 (f.to_ : Int), .int .i64 f.size]
theorem FRow.cells {w : World} {a : Option Addr} {n c : Nat} {fs : List DFile} {k : Nat} (h : FRow w (.slice a n c) fs) (hk : k < fs.length) :
    ∃ g off, a = some ⟨g, off, Option.none⟩ ∧ g < w.heap.size ∧ w.cell? ⟨g, off + k * 4, Option.none⟩ = some (.int .u64 (fs[k].serial : Int)) ∧ w.cell? ⟨g, off + k * 4 + 1, Option.none⟩ = some (.int .u64 (fs[k].from_ : Int)) ∧ w.cell? ⟨g, off + k * 4 + 2, Option.none⟩ = some (.int .u64 (fs[k].to_ : Int)) ∧ w.cell? ⟨g, off + k * 4 + 3, Option.none⟩ = some (.int .i64 fs[k].size) ∧ (∀ o, w.frozen? ⟨g, o, Option.none⟩ = false) := by
  obtain ⟨g, off, rfl, h1, h2, h3⟩ := h.at hk
  exact ⟨g, off, rfl, h1, h2 0 _ rfl, h2 1 _ rfl, h2 2 _ rfl, h2 3 _ rfl, h3⟩
set_option maxRecDepth 100000 in
set_option maxHeartbeats 2000000 in
theorem jLast_ {w : World} {l b : Nat} {pre : List UInt8} {most : Int} {fv : Value} {closed : Bool} {fs : List DFile} (hl : LgAt w l b pre most fv closed) (hf : FRow w fv fs) :
    Calls Tryz.prog 48 #[.pointer (some ⟨l, 0, none⟩)] w fun e w' => e = .returned (.agg (flV (lastF fs))) ∧ Step w w' := by
  have hllt := hl.lt
  rcases files_cases fs with rfl | ⟨i, f, rfl⟩
  · obtain ⟨a, c, rfl⟩ := hf.val
    have l3 : w.cell? ⟨l, 3, none⟩ = some (.slice a 0 c) := hl.cell 3
    clear hl hf
    go_enter Tryz.func48, Tryz.ntmps48
    go_wp2
    refine bodyPost_ret (results_cell_row Tryz.results48 _ _ w.heap.size 89 (flV DFile.none) _ _ rfl (heap_alloc_new _ _) Tryz.underlying89 rfl (by kernel_rfl)) rfl ?_
    exact ⟨rfl, by (repeat (first | exact Step.refl _ | refine Step.alloc ?_ _ | refine Step.drew ?_ | refine Step.drewN ?_ _ | refine Step.setCell ?_ (by first | exact Nat.le_refl _ | assumption | omega | (simp; done) | (simp; omega)) _ | assumption | refine Step.trans ?_ (by assumption : Step _ _)))⟩
  · obtain ⟨a, c, rfl⟩ := hf.val
    obtain ⟨g, off, rfl, hg, q0, q1, q2, q3, _⟩ := hf.cells (k := i.length) (by simp)
    rw [List.getElem_append_right (Nat.le_refl _)] at q0 q1 q2 q3
    simp only [Nat.sub_self, List.getElem_cons_zero] at q0 q1 q2 q3
    have l3 : w.cell? ⟨l, 3, none⟩ = some (.slice (some ⟨g, off, none⟩) (i.length + 1) c) := by rw [hl.cell 3]; simp
    rw [lastF_snoc]
    have hle := hf.1
    simp only [List.length_append, List.length_singleton] at hle ⊢
    clear hl hf
    generalize i.length = n at *
    have hwn : IntKind.i64.wrap (n : Int) = (n : Int) := by rw [IntKind.wrap_i64]; omega
    have hnlt : (n : Int) < (n : Int) + 1 := by omega
    go_enter Tryz.func48, Tryz.ntmps48
    go_upto_region 3 with fail
    refine wp_region_held_drew (S := (fun w' => w'.cell? ⟨l, 3, none⟩ = some (.slice (some ⟨g, off, none⟩) (n + 1) c) ∧ w'.cell? ⟨g, off + n * 4, none⟩ = some (.int .u64 (f.serial : Int)) ∧ w'.cell? ⟨g, off + n * 4 + 1, none⟩ = some (.int .u64 (f.from_ : Int)) ∧ w'.cell? ⟨g, off + n * 4 + 2, none⟩ = some (.int .u64 (f.to_ : Int)) ∧ w'.cell? ⟨g, off + n * 4 + 3, none⟩ = some (.int .i64 f.size))) (by kernel_rfl) ?_ (fun hHeld => ?_)
    · (go_keep)
    refine tkH 0 ?_
    try simp only [Act.put, gtA, gtB, gtC, gtD, gtE, gtF]
    refine tkH 1 ?_
    try simp only [Act.put, gtA, gtB, gtC, gtD, gtE, gtF]
    refine tkH 2 ?_
    try simp only [Act.put, gtA, gtB, gtC, gtD, gtE, gtF]
    refine tkH 3 ?_
    try simp only [Act.put, gtA, gtB, gtC, gtD, gtE, gtF]
    refine tkH 4 ?_
    try simp only [Act.put, gtA, gtB, gtC, gtD, gtE, gtF]
    refine tkH 5 ?_
    try simp only [Act.put, gtA, gtB, gtC, gtD, gtE, gtF]
    refine tkH 6 ?_
    try simp only [Act.put, gtA, gtB, gtC, gtD, gtE, gtF]
    refine tkH 7 ?_
    try simp only [Act.put, gtA, gtB, gtC, gtD, gtE, gtF]
    refine tkH 8 ?_
    try simp only [Act.put, gtA, gtB, gtC, gtD, gtE, gtF]
    refine tkH 9 ?_
    try simp only [Act.put, gtA, gtB, gtC, gtD, gtE, gtF]
    refine tkH 10 ?_
    try simp only [Act.put, gtA, gtB, gtC, gtD, gtE, gtF]
    refine tkH 11 ?_
    try simp only [Act.put, gtA, gtB, gtC, gtD, gtE, gtF]
    refine rdH (rs := [12]) (.cons rfl (fun K hK => ?_) .nil)
    try simp only [gtA, gtB, gtC]
    go_simp
    refine hK.out _ _ ?_ (fun hHeld => ?_)
    · (go_keep)
    clear hK K
    try simp only [Act.put, gtA, gtB, gtC, gtD, gtE, gtF]
    refine wpAnyH_done (by kernel_rfl) ?_ _
    go_wp2
    refine bodyPost_ret (results_cell_row Tryz.results48 _ _ w.heap.size 89 (flV f) (0, 0) _ rfl (heap_alloc_new _ _) Tryz.underlying89 rfl (by kernel_rfl)) rfl ?_
    exact ⟨rfl, by (repeat (first | exact Step.refl _ | refine Step.alloc ?_ _ | refine Step.drew ?_ | refine Step.drewN ?_ _ | refine Step.setCell ?_ (by first | exact Nat.le_refl _ | assumption | omega | (simp; done) | (simp; omega)) _ | assumption | refine Step.trans ?_ (by assumption : Step _ _)))⟩
set_option maxRecDepth 100000 in
theorem jNext_ {w : World} {l b : Nat} {pre : List UInt8} {most : Int} {fv : Value} {closed : Bool} {fs : List DFile} (hl : LgAt w l b pre most fv closed) (hf : FRow w fv fs) :
    Calls Tryz.prog 17 #[.pointer (some ⟨l, 0, none⟩)] w fun e w' => e = .returned (.int .u64 ((lastF fs).to_ : Int)) ∧ Step w w' := by
  obtain ⟨f, hfe⟩ : ∃ f, f = lastF fs := ⟨_, rfl⟩
  have HL : Hid (Calls Tryz.prog 48 #[.pointer (some ⟨l, 0, none⟩)] w fun e w' => e = .returned (.agg #[.int .u64 (f.serial : Int), .int .u64 (f.from_ : Int), .int .u64 (f.to_ : Int), .int .i64 f.size]) ∧ Step w w') := Lib.hid (by rw [hfe]; exact jLast_ hl hf)
  rw [← hfe]
  clear hl hf hfe
  have hfd : ∀ (W : World) (a b c d : Value), (Instr.field 89 (.agg #[a, b, c, d]) 1).run Tryz.prog W = .ok (.agg #[b, c]) W := fun W a b c d => by kernel_rfl
  have hfd2 : ∀ (W : World) (a b : Value), (Instr.field 75 (.agg #[a, b]) 1).run Tryz.prog W = .ok b W := fun W a b => by kernel_rfl
  go_enter Tryz.func17, Tryz.ntmps17
  go_wp2_with (go_at_call 48; refine HL.out.mono ?_; rintro e w1 ⟨rfl, hS1⟩)
  go_ret
  exact ⟨rfl, hS1⟩
set_option maxRecDepth 100000 in
theorem jFirst_ {w : World} {l b : Nat} {pre : List UInt8} {most : Int} {fv : Value} {closed : Bool} {fs : List DFile} (hl : LgAt w l b pre most fv closed) (hf : FRow w fv fs) :
    Calls Tryz.prog 39 #[.pointer (some ⟨l, 0, none⟩)] w fun e w' => e = .returned (.int .u64 (firstL fs : Int)) ∧ w' = w := by
  obtain ⟨a, c, rfl⟩ := hf.val
  have l3 : w.cell? ⟨l, 3, none⟩ = some (.slice a fs.length c) := hl.cell 3
  rcases fs with _ | ⟨f, fs⟩
  · clear hl hf
    go_enter Tryz.func39, Tryz.ntmps39
    go_wp2
    go_ret
    exact ⟨rfl, rfl⟩
  · obtain ⟨g, off, rfl, hg, q0, q1, q2, q3, _⟩ := hf.cells (k := 0) (by simp)
    simp only [List.getElem_cons_zero, Nat.zero_mul, Nat.add_zero, List.length_cons] at q0 q1 q2 q3 l3
    have hle := hf.1
    simp only [List.length_cons] at hle
    clear hl hf
    generalize fs.length = n at *
    go_enter Tryz.func39, Tryz.ntmps39
    go_wp2
    go_ret
    exact ⟨rfl, rfl⟩
end Go.Proofs.YthebdlkmoailaaaGreatDoor
