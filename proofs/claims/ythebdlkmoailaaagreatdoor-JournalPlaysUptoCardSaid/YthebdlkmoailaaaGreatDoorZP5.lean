/-
  Walks: deeds of a drive (write).
  A drive in plain words: deeds, what they make of files; the drive's memory.
  Walks: deeds of a drive (trim, remove), and what all deeds' calls answer.
-/
import Derived.Test.YthebdlkmoailaaaGreatDoorZP4
import Derived.Test.YthebdlkmoailaaaGreatDoorZP2
import Derived.Deep.CutBlock
set_option linter.unusedVariables false
set_option linter.unusedSimpArgs false
namespace Go.Proofs.YthebdlkmoailaaaGreatDoor
open Go.RowKit Go.Gr Go.Maps
set_option linter.unusedSimpArgs false
set_option linter.unusedVariables false
/-- Bytes at a place of others. -/
def writeB (old : List UInt8) (k : Nat) (d : List UInt8) : List UInt8 := old.take k ++ d ++ old.drop (k + d.length)
theorem writeB_len {old d : List UInt8} {k : Nat} (h : k ≤ old.length) : (writeB old k d).length = max old.length (k + d.length) := by
  unfold writeB
  simp only [List.length_append, List.length_take, List.length_drop]
  omega
theorem splice_write {old d : List UInt8} {k L : Nat} (h : k ≤ old.length) (hL : L = max old.length (k + d.length)) : splice (splice (List.replicate L (Value.int .u8 0)) 0 (old.map bv)) k (d.map bv) = (writeB old k d).map bv := by
  unfold splice writeB
  simp only [List.take_zero, List.nil_append, Nat.zero_add, List.length_map, List.drop_replicate, List.map_append, List.map_take, List.map_drop]
  rw [List.take_append_of_le_length (by rw [List.length_map]; exact h), List.append_assoc]
  congr 2
  rw [List.drop_append, List.length_map, List.drop_replicate]
  have : L - old.length - (k + d.length - old.length) = 0 := by omega
  rw [this]
  simp
theorem made_bytes (n : Nat) (hn : n ≤ 140737488355328) (W : World) : (Instr.makeSlice 40 (.int .i64 (n : Int)) (.int .i64 (n : Int))).run Tryz.prog W = .ok (.slice (some ⟨W.heap.size, 0, none⟩) n n) (W.alloc (.cells (madeCells #[.int .u8 0] n) 5)) := by
  obtain ⟨i, h1, h2, h3, h4⟩ := info_parts (show (Tryz.prog.info? 5).map (fun i => (i.zero, i.size, i.bytes)) = some (some (Value.int .u8 0), 1, 1) by kernel_rfl)
  have := run_make (P := Tryz.prog) W 40 5 i _ Tryz.underlying40 h1 h2 .i64 .i64 n n (by omega) (Int.le_refl _) (by rw [h4]; omega) (by omega)
  rw [Int.toNat_natCast, h3, Nat.mul_one] at this
  exact this
/-- A row's cells as bytes. -/
theorem bytes_of_cells {w : World} {M : Nat → Prop} {g c : Nat} {e : TypeId} {xs : List UInt8} (h : CellsAt w g (xs.map bv).toArray e) (hM : ¬ M g) (hc : xs.length ≤ c) (hm : c ≤ maxLen) (hl : xs.length ≤ lim) : Ty.bytes.rep w M [.slice (some ⟨g, 0, none⟩) xs.length c] xs := by
  refine ⟨_, c, rfl, hc, hm, hl, fun hn => ⟨g, 0, rfl, h.lt, hM, fun i hi => ⟨[bv xs[i]], rfl, fun j u hu => ?_⟩⟩⟩
  have hj : j = 0 := by
    rcases j with _ | j
    · rfl
    · simp at hu
  subst hj
  simp only [List.getElem?_cons_zero, Option.some.injEq] at hu
  subst hu
  have := h.cell i
  rw [show 0 + i * Ty.byte.n + 0 = i by simp [Ty.byte], this]
  simp [hi]
/-- Bytes that a copy takes. -/
theorem src_bytes {w : World} {M : Nat → Prop} {a : Option Addr} {n c : Nat} {xs : List UInt8} (h : Ty.bytes.rep w M [.slice a n c] xs) {k : Nat} (hp : 0 < ((xs.take k).map bv).length) : ∃ ad, a = some ad ∧ ∀ j v, ((xs.take k).map bv)[j]? = some v → w.cell? (ad.add j) = some v := by
  have hx : 0 < xs.length := by simp at hp; omega
  obtain ⟨b, off, u, rfl, _⟩ := Ty.slice_at1 rfl h hx
  refine ⟨⟨b, off, none⟩, rfl, fun j v hv => ?_⟩
  have hj : j < ((xs.take k).map bv).length := (List.getElem?_eq_some_iff.1 hv).1
  have hj2 : j < xs.length := by simp at hj; omega
  obtain ⟨b', off', u', h1, _, _, hr, hc⟩ := Ty.slice_at1 rfl h hj2
  obtain ⟨rfl, rfl⟩ : b = b' ∧ off = off' := by simpa using h1
  have hu : [u'] = [bv xs[j]] := hr
  simp only [List.cons.injEq, and_true] at hu
  have hv' : v = bv xs[j] := by
    rw [List.getElem?_eq_getElem hj] at hv
    simpa using hv.symm
  rw [hv', ← hu]
  unfold Addr.add
  split
  · rename_i h0; subst h0; simpa using hc
  · exact hc
theorem wUnits_ {w : World} {M : Nat → Prop} {name d : List UInt8} {at_ : Int} {dv : Value} (hd : Ty.bytes.rep w M [dv] d) :
    Calls Tryz.prog 200 #[.agg #[encStr name, .int .i64 at_, dv]] w fun x w' => x = .returned (.int .i64 (d.length + 1 : Nat)) ∧ Step w w' := by
  obtain ⟨a, c, rfl, _, _, hl⟩ := Ty.slice_val hd
  rw [lim_eq] at hl
  clear hd
  go_enter Tryz.func200, Tryz.ntmps200
  go_wp2
  go_ret
  exact ⟨by simp, by (repeat (first | exact Step.refl _ | refine Step.alloc ?_ _ | refine Step.drew ?_ | refine Step.drewN ?_ _ | refine Step.setCell ?_ (by first | exact Nat.le_refl _ | assumption | omega | (simp; done) | (simp; omega)) _ | assumption | refine Step.trans ?_ (by assumption : Step _ _)))⟩
set_option maxRecDepth 100000 in
set_option maxHeartbeats 8000000 in
theorem wDo_ {w : World} {M : Nat → Prop} {mb at_ n : Nat} {name d : List UInt8} {dv : Value} {fs : List DPair} (hd : Ty.bytes.rep w M [dv] d) (hm : MapR Tryz.prog 9 DPair.key flR w M mb fs) (hM : M mb) (hMl : ∀ b, M b → b < w.heap.size) (h1 : 1 ≤ n) (h2 : n ≤ d.length + 1) (hat : at_ ≤ (dataB fs name).length) (hlen : at_ + d.length ≤ 68719476736) (hfs : fs.length < maxLen) (hname : name.length ≤ maxLen) :
    Calls Tryz.prog 199 #[.agg #[encStr name, .int .i64 (at_ : Int), dv], .map (some mb), .int .i64 (n : Int)] w fun x w' => x = .returned (.tuple #[]) ∧ MapR Tryz.prog 9 DPair.key flR w' M mb (putK DPair.key ⟨name, writeB (dataB fs name) at_ (d.take (n - 1))⟩ fs) ∧ Turn (· = mb) w w' := by
  obtain ⟨a, c, rfl, hdc, hdm, hl⟩ := Ty.slice_val hd
  have hfa : FilesAt w M (.map (some mb)) fs := .inr ⟨mb, rfl, hM, hm⟩
  obtain ⟨ov, hov, hlk⟩ := hfa.look (s := name) hname
  obtain ⟨oa, oc, rfl, _, _, hol⟩ := Ty.slice_val hov
  rw [lim_eq] at hl hol
  have hmbl := hm.lt
  have hlk1 := hlk (w.alloc (.cells #[encStr name, .int .i64 (at_ : Int), .slice a d.length c] 139)) (fun b e => by injection e with e; injection e with e; subst e; exact Below.heap_alloc _ _ _ hm.lt) false
  simp only [Bool.false_eq_true, if_false] at hlk1
  have HD := Lib.hid hd
  have HM := Lib.hid hm
  have HOV := Lib.hid hov
  obtain ⟨m, rfl⟩ : ∃ m, n = m + 1 := ⟨n - 1, by omega⟩
  obtain ⟨old, ho⟩ : ∃ o, dataB fs name = o := ⟨_, rfl⟩
  rw [ho] at hlk1 HOV hat hol ⊢
  have HO := Lib.hid ho
  have hmk := made_bytes
  clear hd hm hfa hlk hov ho
  go_enter Tryz.func199, Tryz.ntmps199
  go_upto_region 3 with fail
  obtain ⟨L, hL⟩ : ∃ L, L = max old.length (at_ + m) := ⟨_, rfl⟩
  have HSRC1 : Hid (∀ W : World, Step w W → 0 < (old.map bv).length → ∃ ad, oa = some ad ∧ ∀ j v, (old.map bv)[j]? = some v → W.cell? (ad.add j) = some v) := Lib.hid (fun W hW hp => by
    have h := src_bytes (Ty.step _ HOV.out hW) (k := old.length)
    rw [List.take_length] at h
    exact h hp)
  have HSRC2 : Hid (∀ W : World, Step w W → 0 < ((d.take m).map bv).length → ∃ ad, a = some ad ∧ ∀ j v, ((d.take m).map bv)[j]? = some v → W.cell? (ad.add j) = some v) := Lib.hid (fun W hW hp => src_bytes (Ty.step _ HD.out hW) hp)
  by_cases hmx : at_ + m ≤ old.length
  · have hmkL : ∀ W : World, (Instr.makeSlice 40 (.int .i64 (old.length : Int)) (.int .i64 (old.length : Int))).run Tryz.prog W = .ok (.slice (some ⟨W.heap.size, 0, none⟩) L L) (W.alloc (.cells (madeCells #[.int .u8 0] L) 5)) := fun W => by rw [show L = old.length by omega]; exact hmk _ (by omega) W
    have HL := Lib.hid hL
    clear hmk hL
    go_upto_region 4 with fail
    refine wp_code (fun wx => CellsAt wx (w.heap.size + 1) (List.replicate L (Value.int .u8 0)).toArray 5 ∧ CellsAt wx w.heap.size #[encStr name, .int .i64 (at_ : Int), .slice a d.length c] 139 ∧ Step w wx) ?_ ?_
    · refine ⟨?_, CellsAt.step (CellsAt.new rfl) ((Step.refl _).alloc _), by (repeat (first | exact Step.refl _ | refine Step.alloc ?_ _ | refine Step.drew ?_ | refine Step.drewN ?_ _ | refine Step.setCell ?_ (by first | exact Nat.le_refl _ | assumption | omega | (simp; done) | (simp; omega)) _ | assumption | refine Step.trans ?_ (by assumption : Step _ _)))⟩
      unfold CellsAt
      rw [heap_alloc_at (by simp)]
      congr 2
      apply Array.ext'
      rw [toList_madeCells_one]
    rintro w4 ⟨hr4, hb4, hS4⟩
    have HB4 := Lib.hid hb4
    have HR4 := Lib.hid hr4
    have HS4 := Lib.hid hS4
    clear hr4 hb4 hS4
    go_upto_region 5 with (refine wpList_copy_splice (o := ⟨some 29, _, _, _, _, _⟩) rfl (.tmp 27) (.tmp 28) 40 40 rfl 5 Tryz.underlying40 (by kernel_rfl) (some ⟨w.heap.size + 1, 0, none⟩) oa L L old.length oc (by rfl) (by rfl) (w.heap.size + 1) 0 (List.replicate L (Value.int .u8 0)) 5 HR4.out (old.map bv) (by rw [List.length_map]; exact (Nat.min_eq_left (by have := HL.out; omega)).symm) (fun hp => ⟨rfl, HSRC1.out w4 HS4.out hp⟩) (by rw [List.length_map, List.length_replicate]; have := HL.out; omega) (fun v hv => by obtain ⟨x, _, rfl⟩ := List.mem_map.1 hv; rfl) (w.heap.size + 1) w4 (Below.refl _ _) (Nat.le_refl _) ?_; intro w5 hr5 hb5; have HR5 := hr5; have HB5 := Lib.hid hb5; clear hr5 hb5)
    have hz4 := HS4.out.size
    have hbl4 := HB4.out.lt
    have hS5 : Step w w5 := Step.of (HS4.out.out.trans (HB5.out.mono (by omega)))
    have hbox5 := HB4.out.kept (HB5.out.block w.heap.size (by omega))
    have x0 : w5.cell? ⟨w.heap.size, 0, none⟩ = some (encStr name) := hbox5.cell 0
    have x1 : w5.cell? ⟨w.heap.size, 1, none⟩ = some (.int .i64 (at_ : Int)) := hbox5.cell 1
    have hdm : (d.take m).length = m := by rw [List.length_take]; omega
    have HDM := Lib.hid hdm
    have hatL : at_ + m ≤ L := by have := HL.out; omega
    have HS5 := Lib.hid hS5
    have HBX5 := Lib.hid hbox5
    have hcl : (splice (List.replicate L (Value.int .u8 0)) 0 (old.map bv)).length = L := by rw [length_splice _ _ _ (by rw [List.length_map, List.length_replicate]; have := HL.out; omega), List.length_replicate]
    have HCL := Lib.hid hcl
    have HSW : Hid (splice (splice (List.replicate L (Value.int .u8 0)) 0 (old.map bv)) at_ ((d.take m).map bv) = (writeB old at_ (d.take m)).map bv) := Lib.hid (splice_write hat (by rw [HDM.out]; exact HL.out))
    have HWL : Hid ((writeB old at_ (d.take m)).length = L) := Lib.hid (by rw [writeB_len hat, HDM.out]; exact HL.out.symm)
    clear hS5 hbox5 hdm hcl HR4 HB4
    have hatL2 : at_ ≤ L := by omega
    go_upto_region 6 with (refine wpList_copy_splice (o := ⟨some 35, _, _, _, _, _⟩) rfl (.tmp 33) (.tmp 34) 40 40 rfl 5 Tryz.underlying40 (by kernel_rfl) (if L = at_ then some ⟨w.heap.size + 1, 0, none⟩ else some ⟨w.heap.size + 1, at_, none⟩) a (L - at_) (L - at_) m c (by rfl) (by rfl) (w.heap.size + 1) at_ (splice (List.replicate L (Value.int .u8 0)) 0 (old.map bv)) 5 HR5.out ((d.take m).map bv) (by rw [List.length_map, HDM.out]; exact (Nat.min_eq_left (by omega)).symm) (fun hp => ⟨by rw [List.length_map, HDM.out] at hp; exact if_neg (by omega), HSRC2.out w5 HS5.out hp⟩) (by rw [List.length_map, HDM.out, HCL.out]; exact hatL) (fun v hv => by obtain ⟨x, _, rfl⟩ := List.mem_map.1 hv; rfl) (w.heap.size + 1) w5 (Below.refl _ _) (Nat.le_refl _) ?_; intro w6 hr6 hb6; have HR6 := hr6; have HB6 := Lib.hid hb6; clear hr6 hb6)
    obtain ⟨X, hX⟩ : ∃ X : Option Addr, X = (if L = at_ then some ⟨w.heap.size + 1, 0, none⟩ else some ⟨w.heap.size + 1, at_, none⟩) := ⟨_, rfl⟩
    rw [← hX]
    clear hX
    have hS6 : Step w w6 := Step.of (HS5.out.out.trans (HB6.out.mono (by omega)))
    have hz5 := HS5.out.size
    have hbl5 := HBX5.out.lt
    have hbox6 := HBX5.out.kept (HB6.out.block w.heap.size (by omega))
    have y0 : w6.cell? ⟨w.heap.size, 0, none⟩ = some (encStr name) := hbox6.cell 0
    have hM6 := HM.out.step keep_flR hS6
    have hLl : L ≤ 68719476736 := by have := HL.out; omega
    have hr7 : CellsAt w6 (w.heap.size + 1) ((writeB old at_ (d.take m)).map bv).toArray 5 := by
      have h := HR6.out
      rw [HSW.out] at h
      exact h
    have hv7 := bytes_of_cells (M := M) (c := L) hr7 (fun h => by have := hMl _ h; omega) (by rw [HWL.out]; exact Nat.le_refl _) (by unfold maxLen; omega) (by rw [HWL.out, lim_eq]; exact hLl)
    rw [HWL.out] at hv7
    have HM6 := Lib.hid hM6
    have HV7 := Lib.hid hv7
    have HS6 := Lib.hid hS6
    clear hS6 hbox6 hM6 hr7 hv7 x0 x1 HR6 HR5
    go_wp2_with (at_mapUpdate; refine wpList_mapUpdate_R (x := (⟨name, writeB old at_ (d.take m)⟩ : DPair)) keep_flR rfl (.tmp 36) (.tmp 38) (.tmp 39) rfl HM6.out Tryz.underlying9 Tryz.underlying83 hfs hname HV7.out hM rfl rfl rfl ?_; intro w8 hm8 hg8; have HM8 := Lib.hid hm8; have HG8 := Lib.hid hg8; clear hm8 hg8)
    refine bodyPost_end (results_none rfl _ _ _) rfl ⟨rfl, ?_, (Turn.of HS6.out).grown HG8.out (fun q e _ => by simpa using e.symm)⟩
    simpa using HM8.out

  · have hmkL : ∀ W : World, (Instr.makeSlice 40 (.int .i64 ((at_ : Int) + (m : Int))) (.int .i64 ((at_ : Int) + (m : Int)))).run Tryz.prog W = .ok (.slice (some ⟨W.heap.size, 0, none⟩) L L) (W.alloc (.cells (madeCells #[.int .u8 0] L) 5)) := fun W => by rw [show L = at_ + m by omega]; simpa using hmk (at_ + m) (by omega) W
    have HL := Lib.hid hL
    clear hmk hL
    go_upto_region 4 with fail
    refine wp_code (fun wx => CellsAt wx (w.heap.size + 1) (List.replicate L (Value.int .u8 0)).toArray 5 ∧ CellsAt wx w.heap.size #[encStr name, .int .i64 (at_ : Int), .slice a d.length c] 139 ∧ Step w wx) ?_ ?_
    · refine ⟨?_, CellsAt.step (CellsAt.new rfl) ((Step.refl _).alloc _), by (repeat (first | exact Step.refl _ | refine Step.alloc ?_ _ | refine Step.drew ?_ | refine Step.drewN ?_ _ | refine Step.setCell ?_ (by first | exact Nat.le_refl _ | assumption | omega | (simp; done) | (simp; omega)) _ | assumption | refine Step.trans ?_ (by assumption : Step _ _)))⟩
      unfold CellsAt
      rw [heap_alloc_at (by simp)]
      congr 2
      apply Array.ext'
      rw [toList_madeCells_one]
    rintro w4 ⟨hr4, hb4, hS4⟩
    have HB4 := Lib.hid hb4
    have HR4 := Lib.hid hr4
    have HS4 := Lib.hid hS4
    clear hr4 hb4 hS4
    go_upto_region 5 with (refine wpList_copy_splice (o := ⟨some 29, _, _, _, _, _⟩) rfl (.tmp 27) (.tmp 28) 40 40 rfl 5 Tryz.underlying40 (by kernel_rfl) (some ⟨w.heap.size + 1, 0, none⟩) oa L L old.length oc (by rfl) (by rfl) (w.heap.size + 1) 0 (List.replicate L (Value.int .u8 0)) 5 HR4.out (old.map bv) (by rw [List.length_map]; exact (Nat.min_eq_left (by have := HL.out; omega)).symm) (fun hp => ⟨rfl, HSRC1.out w4 HS4.out hp⟩) (by rw [List.length_map, List.length_replicate]; have := HL.out; omega) (fun v hv => by obtain ⟨x, _, rfl⟩ := List.mem_map.1 hv; rfl) (w.heap.size + 1) w4 (Below.refl _ _) (Nat.le_refl _) ?_; intro w5 hr5 hb5; have HR5 := hr5; have HB5 := Lib.hid hb5; clear hr5 hb5)
    have hz4 := HS4.out.size
    have hbl4 := HB4.out.lt
    have hS5 : Step w w5 := Step.of (HS4.out.out.trans (HB5.out.mono (by omega)))
    have hbox5 := HB4.out.kept (HB5.out.block w.heap.size (by omega))
    have x0 : w5.cell? ⟨w.heap.size, 0, none⟩ = some (encStr name) := hbox5.cell 0
    have x1 : w5.cell? ⟨w.heap.size, 1, none⟩ = some (.int .i64 (at_ : Int)) := hbox5.cell 1
    have hdm : (d.take m).length = m := by rw [List.length_take]; omega
    have HDM := Lib.hid hdm
    have hatL : at_ + m ≤ L := by have := HL.out; omega
    have HS5 := Lib.hid hS5
    have HBX5 := Lib.hid hbox5
    have hcl : (splice (List.replicate L (Value.int .u8 0)) 0 (old.map bv)).length = L := by rw [length_splice _ _ _ (by rw [List.length_map, List.length_replicate]; have := HL.out; omega), List.length_replicate]
    have HCL := Lib.hid hcl
    have HSW : Hid (splice (splice (List.replicate L (Value.int .u8 0)) 0 (old.map bv)) at_ ((d.take m).map bv) = (writeB old at_ (d.take m)).map bv) := Lib.hid (splice_write hat (by rw [HDM.out]; exact HL.out))
    have HWL : Hid ((writeB old at_ (d.take m)).length = L) := Lib.hid (by rw [writeB_len hat, HDM.out]; exact HL.out.symm)
    clear hS5 hbox5 hdm hcl HR4 HB4
    have hatL2 : at_ ≤ L := by omega
    go_upto_region 6 with (refine wpList_copy_splice (o := ⟨some 35, _, _, _, _, _⟩) rfl (.tmp 33) (.tmp 34) 40 40 rfl 5 Tryz.underlying40 (by kernel_rfl) (if L = at_ then some ⟨w.heap.size + 1, 0, none⟩ else some ⟨w.heap.size + 1, at_, none⟩) a (L - at_) (L - at_) m c (by rfl) (by rfl) (w.heap.size + 1) at_ (splice (List.replicate L (Value.int .u8 0)) 0 (old.map bv)) 5 HR5.out ((d.take m).map bv) (by rw [List.length_map, HDM.out]; exact (Nat.min_eq_left (by omega)).symm) (fun hp => ⟨by rw [List.length_map, HDM.out] at hp; exact if_neg (by omega), HSRC2.out w5 HS5.out hp⟩) (by rw [List.length_map, HDM.out, HCL.out]; exact hatL) (fun v hv => by obtain ⟨x, _, rfl⟩ := List.mem_map.1 hv; rfl) (w.heap.size + 1) w5 (Below.refl _ _) (Nat.le_refl _) ?_; intro w6 hr6 hb6; have HR6 := hr6; have HB6 := Lib.hid hb6; clear hr6 hb6)
    obtain ⟨X, hX⟩ : ∃ X : Option Addr, X = (if L = at_ then some ⟨w.heap.size + 1, 0, none⟩ else some ⟨w.heap.size + 1, at_, none⟩) := ⟨_, rfl⟩
    rw [← hX]
    clear hX
    have hS6 : Step w w6 := Step.of (HS5.out.out.trans (HB6.out.mono (by omega)))
    have hz5 := HS5.out.size
    have hbl5 := HBX5.out.lt
    have hbox6 := HBX5.out.kept (HB6.out.block w.heap.size (by omega))
    have y0 : w6.cell? ⟨w.heap.size, 0, none⟩ = some (encStr name) := hbox6.cell 0
    have hM6 := HM.out.step keep_flR hS6
    have hLl : L ≤ 68719476736 := by have := HL.out; omega
    have hr7 : CellsAt w6 (w.heap.size + 1) ((writeB old at_ (d.take m)).map bv).toArray 5 := by
      have h := HR6.out
      rw [HSW.out] at h
      exact h
    have hv7 := bytes_of_cells (M := M) (c := L) hr7 (fun h => by have := hMl _ h; omega) (by rw [HWL.out]; exact Nat.le_refl _) (by unfold maxLen; omega) (by rw [HWL.out, lim_eq]; exact hLl)
    rw [HWL.out] at hv7
    have HM6 := Lib.hid hM6
    have HV7 := Lib.hid hv7
    have HS6 := Lib.hid hS6
    clear hS6 hbox6 hM6 hr7 hv7 x0 x1 HR6 HR5
    go_wp2_with (at_mapUpdate; refine wpList_mapUpdate_R (x := (⟨name, writeB old at_ (d.take m)⟩ : DPair)) keep_flR rfl (.tmp 36) (.tmp 38) (.tmp 39) rfl HM6.out Tryz.underlying9 Tryz.underlying83 hfs hname HV7.out hM rfl rfl rfl ?_; intro w8 hm8 hg8; have HM8 := Lib.hid hm8; have HG8 := Lib.hid hg8; clear hm8 hg8)
    refine bodyPost_end (results_none rfl _ _ _) rfl ⟨rfl, ?_, (Turn.of HS6.out).grown HG8.out (fun q e _ => by simpa using e.symm)⟩
    simpa using HM8.out

end Go.Proofs.YthebdlkmoailaaaGreatDoor

namespace Go.Proofs.YthebdlkmoailaaaGreatDoor
open Go.RowKit Go.Gr Go.Maps
open Go.Proofs (encStr)
set_option linter.unusedSimpArgs false
set_option linter.unusedVariables false
inductive DDeed where
  | wr (name : List UInt8) (at_ : Nat) (data : List UInt8)
  | tr (name : List UInt8) (size : Nat)
  | rm (name : List UInt8)
  deriving Inhabited
namespace DDeed
def units : DDeed → Nat
  | .wr _ _ d => d.length + 1
  | _ => 1
/-- What a deed makes of files when its first n units are kept. -/
def doB : DDeed → Nat → List DPair → List DPair
  | .wr s k d, n, fs => putK DPair.key ⟨s, writeB (dataB fs s) k (d.take (n - 1))⟩ fs
  | .tr s z, _, fs => putK DPair.key ⟨s, (dataB fs s).take z⟩ fs
  | .rm s, _, fs => dropK DPair.key s fs
def fits : DDeed → List DPair → Prop
  | .wr s k d, fs => k ≤ (dataB fs s).length ∧ k + d.length ≤ 68719476736 ∧ s.length ≤ 1000
  | .tr s z, fs => z ≤ (dataB fs s).length ∧ s.length ≤ 1000
  | .rm s, _ => s.length ≤ 1000
theorem units_pos (x : DDeed) : 1 ≤ x.units := by cases x <;> simp [units]
end DDeed
def fitsQ : List DDeed → List DPair → Prop
  | [], _ => True
  | x :: q, f => x.fits f ∧ fitsQ q (x.doB x.units f)
/-- All deeds, one behind the other. -/
def doAll : List DDeed → List DPair → List DPair
  | [], f => f
  | x :: q, f => doAll q (x.doB x.units f)
theorem doAll_snoc (q : List DDeed) (x : DDeed) : ∀ f, doAll (q ++ [x]) f = x.doB x.units (doAll q f) := by
  induction q with
  | nil => intro f; rfl
  | cons y q ih => intro f; exact ih _
theorem fitsQ_snoc {q : List DDeed} {x : DDeed} : ∀ {f : List DPair}, fitsQ q f → x.fits (doAll q f) → fitsQ (q ++ [x]) f := by
  induction q with
  | nil => intro f _ h; exact ⟨h, trivial⟩
  | cons y q ih => intro f h h2; exact ⟨h.1, ih h.2 h2⟩
/-- A drive. -/
structure DDr where
  safe : List DPair
  seen : List DPair
  queue : List DDeed
  room : Int
  armed : Bool
  left : Int
  dead : Bool
  deriving Inhabited
def DDr.new (room : Int) : DDr := ⟨[], [], [], max 0 room, false, 0, false⟩
/-- A raw operation that would answer e. -/
def rawB (D : DDr) (x : DDeed) (e : Int) : DDr × Int :=
  let m := mayB D.armed D.left D.dead e
  if m.1.1 = true ∨ m.1.2.1 = true then ({ D with seen := x.doB x.units D.seen, queue := D.queue ++ [x], left := m.2.1, dead := m.2.2 }, m.1.2.2)
  else ({ D with left := m.2.1, dead := m.2.2 }, m.1.2.2)
def appendD (D : DDr) (s : List UInt8) (d : List UInt8) : DDr × Int :=
  rawB D (.wr s (dataB D.seen s).length d) (if D.room - (usedB D.seen : Int) < (d.length : Int) then 8 else 0)
def removeD (D : DDr) (s : List UInt8) : DDr × Int := rawB D (.rm s) (noneB D.seen s)
def flushD (D : DDr) : DDr × Int :=
  let m := mayB D.armed D.left D.dead 0
  if m.1.1 = true then ({ D with safe := D.seen, queue := [], left := m.2.1, dead := m.2.2 }, m.1.2.2)
  else ({ D with left := m.2.1, dead := m.2.2 }, m.1.2.2)
/-- A drive whose queue can be done again. -/
structure DDr.Wf (D : DDr) : Prop where
  fit : fitsQ D.queue D.safe
  same : D.seen = doAll D.queue D.safe
  few : D.safe.length + D.queue.length ≤ 1000000
  left0 : D.armed = true → 0 ≤ D.left
  leftI : I64 D.left
theorem doB_len (x : DDeed) (n : Nat) (f : List DPair) : (x.doB n f).length ≤ f.length + 1 := by
  cases x with
  | wr s k d => exact putK_length
  | tr s z => exact putK_length
  | rm s => exact Nat.le_succ_of_le dropK_length
theorem doAll_len (q : List DDeed) : ∀ f, (doAll q f).length ≤ f.length + q.length := by
  induction q with
  | nil => intro f; simp [doAll]
  | cons x q ih =>
    intro f
    have h1 := ih (x.doB x.units f)
    have h2 := doB_len x x.units f
    simp only [doAll, List.length_cons]
    omega
theorem DDr.Wf.seenFew {D : DDr} (h : D.Wf) : D.seen.length ≤ 1000000 := by
  have := doAll_len D.queue D.safe
  rw [h.same]
  have := h.few
  omega
/-- A deed, as it stands in the queue. -/
def tDeed : Ty DDeed where
  n := 1
  rep := fun w M cs x => match x with
    | .wr s k d => ∃ dv, cs = [.iface 139 (.agg #[encStr s, .int .i64 (k : Int), dv])] ∧ Ty.bytes.rep w M [dv] d
    | .tr s z => cs = [.iface 103 (.agg #[encStr s, .int .i64 (z : Int)])]
    | .rm s => cs = [.iface 144 (.agg #[encStr s])]
  len := by
    intro w M cs x h
    cases x with
    | wr s k d => obtain ⟨_, rfl, _⟩ := h; rfl
    | tr s z => subst h; rfl
    | rm s => subst h; rfl
  one := by
    intro w M cs x h u hu
    cases x with
    | wr s k d => obtain ⟨_, rfl, _⟩ := h; simp at hu; subst hu; rfl
    | tr s z => subst h; simp at hu; subst hu; rfl
    | rm s => subst h; simp at hu; subst hu; rfl
  keep := by
    intro w w' M M' cs x h hk
    cases x with
    | wr s k d => obtain ⟨dv, rfl, hd⟩ := h; exact ⟨dv, rfl, Ty.bytes.keep hd hk⟩
    | tr s z => exact h
    | rm s => exact h
/-- The blocks that a drive turns. -/
abbrev DM (b : Nat) (sf sn : Option Nat) (c : Nat) : Prop := c = b ∨ sf = some c ∨ sn = some c
/-- Block b is a drive that reads as D; sf, sn: its two maps; M: what turns, none of which is met in the readings. -/
structure DriveAt (w : World) (M : Nat → Prop) (b : Nat) (sf sn : Option Nat) (D : DDr) : Prop where
  row : ∃ queue, DrAt w b (.map sf) (.map sn) queue D.room D.armed D.left D.dead ∧ (Ty.slice tDeed).rep w M [queue] D.queue
  safe : FilesAt w M (.map sf) D.safe
  seen : FilesAt w M (.map sn) D.seen
  ne : ∀ m, sf = some m → sn ≠ some m
  own : ∀ c, DM b sf sn c → M c
  old : ∀ c, M c → c < w.heap.size
  wf : D.Wf
/-- From w to w' a drive has been at work: what has turned, and what turns from now on. -/
structure DGo (b : Nat) (w : World) (M : Nat → Prop) (sf sn : Option Nat) (w' : World) (M' : Nat → Prop) (sf' sn' : Option Nat) : Prop where
  turn : Turn (fun c => w.heap.size ≤ c ∨ DM b sf sn c) w w'
  more : ∀ c, M c → M' c
  less : ∀ c, c < w.heap.size → M' c → M c
  own : ∀ c, c < w.heap.size → DM b sf' sn' c → DM b sf sn c
theorem DGo.refl (b : Nat) (w : World) (M : Nat → Prop) (sf sn : Option Nat) : DGo b w M sf sn w M sf sn := ⟨Turn.refl _ _, fun _ h => h, fun _ _ h => h, fun _ _ h => h⟩
theorem DGo.trans {b : Nat} {w w1 w2 : World} {M M1 M2 : Nat → Prop} {sf sn sf1 sn1 sf2 sn2 : Option Nat} (h : DGo b w M sf sn w1 M1 sf1 sn1) (k : DGo b w1 M1 sf1 sn1 w2 M2 sf2 sn2) : DGo b w M sf sn w2 M2 sf2 sn2 := by
  have hz := h.turn.size
  refine ⟨h.turn.trans (k.turn.mono fun c hc hm => ?_), fun c hm => k.more c (h.more c hm), fun c hc hm => h.less c hc (k.less c (by omega) hm), fun c hc hm => h.own c hc (k.own c (by omega) hm)⟩
  rcases Nat.lt_or_ge c w.heap.size with hlt | hge
  · rcases hm with hm | hm
    · omega
    · exact .inr (h.own c hlt hm)
  · exact .inl hge
theorem DGo.then {b : Nat} {w w1 w2 : World} {M M1 : Nat → Prop} {sf sn sf1 sn1 : Option Nat} (h : DGo b w M sf sn w1 M1 sf1 sn1) (k : Step w1 w2) : DGo b w M sf sn w2 M1 sf1 sn1 :=
  ⟨h.turn.then k, h.more, h.less, h.own⟩
theorem DGo.from {b : Nat} {w w1 w2 : World} {M M2 : Nat → Prop} {sf sn sf2 sn2 : Option Nat} (h : Step w w1) (hM : ∀ c, M c → c < w.heap.size) (k : DGo b w1 M sf sn w2 M2 sf2 sn2) : DGo b w M sf sn w2 M2 sf2 sn2 := by
  have hz := h.size
  refine ⟨(Turn.of h).trans (k.turn.mono fun c hc hm => ?_), k.more, fun c hc hm => k.less c (by omega) hm, fun c hc hm => k.own c (by omega) hm⟩
  rcases hm with hm | hm
  · exact .inl (by omega)
  · exact .inr hm
/-- What is read in the old world is read in the new one. -/
theorem DGo.rep {α : Type} (E : Ty α) {b : Nat} {w w' : World} {M M' : Nat → Prop} {sf sn sf' sn' : Option Nat} {cs : List Value} {x : α} (h : DGo b w M sf sn w' M' sf' sn') (hM : ∀ c, DM b sf sn c → M c) (hr : E.rep w M cs x) : E.rep w' M' cs x :=
  E.keep hr fun c hc hm => ⟨h.turn.block c hc (fun hx => by rcases hx with hx | hx; omega; exact hm (hM c hx)), fun hx => hm (h.less c hc hx)⟩
theorem FilesAt.keep2 {w w' : World} {M M' : Nat → Prop} {v : Option Nat} {fs : List DPair} (h : FilesAt w M (.map v) fs) (hb : ∀ mb, v = some mb → w'.heap[mb]? = w.heap[mb]? ∧ M' mb) (hk : ∀ c, c < w.heap.size → ¬ M c → w'.heap[c]? = w.heap[c]? ∧ ¬ M' c) : FilesAt w' M' (.map v) fs :=
  h.keep (fun mb e => hb mb (by injection e)) hk
/-- A drive that is not touched. -/
theorem DriveAt.keep {w w' : World} {M M' : Nat → Prop} {b : Nat} {sf sn : Option Nat} {D : DDr} (h : DriveAt w M b sf sn D) (hb : ∀ c, DM b sf sn c → w'.heap[c]? = w.heap[c]? ∧ M' c) (hk : ∀ c, c < w.heap.size → ¬ M c → w'.heap[c]? = w.heap[c]? ∧ ¬ M' c) (hM : ∀ c, M' c → c < w'.heap.size) : DriveAt w' M' b sf sn D := by
  obtain ⟨⟨queue, hr, hq⟩, hs, hn, hne, ho, hold, hwf⟩ := h
  refine ⟨⟨queue, hr.kept (hb b (.inl rfl)).1, (Ty.slice tDeed).keep hq hk⟩, hs.keep2 (fun m e => hb m (.inr (.inl e))) hk, hn.keep2 (fun m e => hb m (.inr (.inr e))) hk, hne, fun c hc => (hb c hc).2, hM, hwf⟩
theorem DriveAt.lt {w : World} {M : Nat → Prop} {b : Nat} {sf sn : Option Nat} {D : DDr} (h : DriveAt w M b sf sn D) {c : Nat} (hc : DM b sf sn c) : c < w.heap.size := h.old c (h.own c hc)
theorem DriveAt.step {w w' : World} {M : Nat → Prop} {b : Nat} {sf sn : Option Nat} {D : DDr} (h : DriveAt w M b sf sn D) (hs : Step w w') : DriveAt w' M b sf sn D :=
  h.keep (fun c hc => ⟨hs.heap (h.lt hc), h.own c hc⟩) (fun c hc hm => ⟨hs.heap hc, hm⟩) (fun c hc => by have := h.old c hc; have := hs.size; omega)
end Go.Proofs.YthebdlkmoailaaaGreatDoor

namespace Go.Gr
open Go.RowKit
/-- An append to a slice that has no room: a row of its own comes of it. -/
theorem run_append_full {P : Program} {α : Type} {E : Ty α} {e t : TypeId} {w : World} {M : Nat → Prop} {a : Option Addr} {xs ys : List α} {sv : Value} (ty : TypeId) (hT : SliceTy P t e E.n) (h : (Ty.slice E).rep w M [.slice a xs.length xs.length] xs) (hsrc : Src E w M sv ys) (hp : 0 < ys.length) (hlim : xs.length + ys.length ≤ lim) :
    ∃ v' w', (Builtin.append_ #[t, t] ty #[.slice a xs.length xs.length, sv]).run P w = .ok v' w' ∧ Own E e w' M w.heap.size v' (xs ++ ys) ∧ Step w w' := by
  obtain ⟨ht, i, z, hi, hz, hsize, hzs, hpos, hby⟩ := hT
  obtain ⟨A, c, rfl, hs⟩ := hsrc
  obtain ⟨b2, off2, rfl, hc2⟩ := hs hp
  obtain ⟨news, hnl, hnc, hn1, hnr⟩ := all_cells E ys hc2
  have hadd : ∀ j u, news[j]? = some u → w.cell? ((⟨b2, off2, none⟩ : Addr).add j) = some u := fun j u hu => by
    have := hnc j u hu
    unfold Addr.add
    split
    · rename_i h0; subst h0; simpa using this
    · exact this
  obtain ⟨a', c', hv, g1, g2, g3, hold⟩ := h
  simp only [List.cons.injEq, Value.slice.injEq, and_true] at hv
  obtain ⟨rfl, _, rfl⟩ := hv
  have h63 : (xs.length + ys.length) * i.bytes ≤ 140737488355328 := by rw [lim_eq] at hlim; have : (xs.length + ys.length) * i.bytes ≤ 68719476736 * 2048 := Nat.mul_le_mul hlim hby; omega
  have hmx := lim_max hlim
  have keyE : ∀ {w' : World} {g : Nat} {cs : List Value} {x : α}, Step w w' → w.heap.size ≤ g → E.rep w M cs x → E.rep w' (fun b => M b ∨ some g = some b) cs x := fun hS hg hr =>
    E.keep hr fun b hb hn => ⟨hS.heap hb, fun hm => by
      rcases hm with hm | hm
      · exact hn hm
      · injection hm with hm; omega⟩
  rcases a with _ | ad
  · have hx : xs = [] := by
      rcases xs with _ | ⟨x, xs⟩
      · rfl
      · obtain ⟨_, _, h, _⟩ := hold (by simp)
        cases h
    subst hx
    have hrun := run_append_nil (P := P) w t ty e i z ht hi hz ⟨b2, off2, none⟩ ys.length c news (by rw [hnl, hsize]) hadd hp (by rw [lim_eq] at hlim; simp at hlim; omega) (by simp at h63; omega)
    refine ⟨_, _, hrun, ?_, ((Step.refl w).drew).alloc _⟩
    refine ⟨by simpa using hlim, news, ⟨by simpa using hnl, .inr ⟨w.heap.size, _, _, by rw [List.nil_append], Nat.le_refl _, heap_alloc_new w.drew _, by simpa using grownCap_ge w ys.length 0 e, grownCap_le_maxLen _ _ _ _ (by simpa using hmx), ?_, ?_⟩⟩, fun k hk => ?_⟩
    · have := grownCap_ge w ys.length 0 e
      rw [Array.size_append, size_zeroCells, List.size_toArray, hnl, hzs, Nat.sub_mul, Nat.add_sub_cancel' (Nat.mul_le_mul_right _ this)]
    · rw [Array.toList_append]
      simp only [List.nil_append]
      rw [List.take_left' hnl]
    · simp only [List.nil_append]
      exact keyE (((Step.refl w).drew).alloc _) (Nat.le_refl _) (hnr k (by simpa using hk))
  · obtain ⟨olds, hol, hadd1, hor⟩ : ∃ olds : List Value, olds.length = xs.length * E.n ∧ (∀ j u, olds[j]? = some u → w.cell? (ad.add j) = some u) ∧ ∀ i (hi : i < xs.length), E.rep w M (grp olds E.n i) xs[i] := by
      by_cases hx : xs = []
      · subst hx
        exact ⟨[], by simp, fun j u hu => by simp at hu, fun i hi => absurd hi (by simp)⟩
      obtain ⟨b1, off1, hb1a, hb1, hM1, hc1⟩ := hold (List.length_pos_iff.2 hx)
      injection hb1a with hb1a
      subst hb1a
      obtain ⟨olds, hol, hoc, ho1, hor⟩ := all_cells E xs hc1
      refine ⟨olds, hol, fun j u hu => ?_, hor⟩
      have := hoc j u hu
      unfold Addr.add
      split
      · rename_i h0; subst h0; simpa using this
      · exact this
    have hrun := run_append_grow (P := P) w t ty e i z ht hi hz ad xs.length xs.length olds (by rw [hol, hsize]) hadd1 ⟨b2, off2, none⟩ ys.length c news (by rw [hnl, hsize]) hadd (by omega) (by rw [lim_eq] at hlim; omega)
      (growslice_fits (by omega) h63)
    refine ⟨_, _, hrun, ?_, ((Step.refl w).drew).alloc _⟩
    refine ⟨by simpa using hlim, olds ++ news, ⟨by simp [hol, hnl, Nat.add_mul], .inr ⟨w.heap.size, _, _, by rw [List.length_append], Nat.le_refl _, heap_alloc_new w.drew _, by simpa using grownCap_ge w (xs.length + ys.length) xs.length e, grownCap_le_maxLen _ _ _ _ hmx, ?_, ?_⟩⟩, fun k hk => ?_⟩
    · have := grownCap_ge w (xs.length + ys.length) xs.length e
      rw [Array.size_append, Array.size_append, size_zeroCells, List.size_toArray, List.size_toArray, hol, hnl, hzs, ← Nat.add_mul, Nat.sub_mul, Nat.add_sub_cancel' (Nat.mul_le_mul_right _ this)]
    · rw [Array.toList_append, Array.toList_append]
      rw [List.take_left' (by simp [hol, hnl, Nat.add_mul])]
    · have hS : Step w (w.drew.alloc (.cells (olds.toArray ++ news.toArray ++ Builtin.zeroCells z.cells (grownCap w (xs.length + ys.length) xs.length e - (xs.length + ys.length))) e)) := ((Step.refl w).drew).alloc _
      rcases Nat.lt_or_ge k xs.length with hk1 | hk1
      · rw [grp_append_left hol hk1, List.getElem_append_left hk1]
        exact keyE hS (Nat.le_refl _) (hor k hk1)
      · obtain ⟨m, rfl⟩ : ∃ m, k = xs.length + m := ⟨k - xs.length, by omega⟩
        rw [grp_append_right hol, List.getElem_append_right (by omega)]
        have hm : m < ys.length := by rw [List.length_append] at hk; omega
        have := keyE hS (Nat.le_refl _) (hnr m hm)
        simpa [Value.ownBlock] using this
theorem wp_append_full {P : Program} {α : Type} {E : Ty α} {e t : TypeId} {w : World} {M : Nat → Prop} {a : Option Addr} {xs ys : List α} {sv : Value} {o : Oper} {ac : Act} {K : Act → World → Prop} {Q : Exit → Act → World → Prop} (s x : Operand)
    (ho : o.op = .call { callee := .builtin .append, args := #[s, x], argTypes := #[t, t] }) (hT : SliceTy P t e E.n) (h : (Ty.slice E).rep w M [.slice a xs.length xs.length] xs) (hsrc : Src E w M sv ys) (hp : 0 < ys.length) (hlim : xs.length + ys.length ≤ lim)
    (hs : ac.eval s = .slice a xs.length xs.length) (hx : ac.eval x = sv) (hK : ∀ v' w', Own E e w' M w.heap.size v' (xs ++ ys) → Step w w' → K (ac.put o.dst v') w') : o.wp P ac w K Q := by
  obtain ⟨v', w', hrun, h2, h3⟩ := run_append_full (P := P) o.type hT h hsrc hp hlim
  unfold Oper.wp execOp
  simp only [ho, resolve, invoke, builtin, Sem.run_bind, Sem.run_pure, Result.andThen_ok, List.map_toArray, List.map_cons, List.map_nil, hs, hx, hrun]
  exact hK v' w' h2 h3
end Go.Gr
namespace Go.Proofs.YthebdlkmoailaaaGreatDoor
open Go.RowKit Go.Gr Go.Maps
open Go.Proofs (encStr)
set_option linter.unusedSimpArgs false
set_option linter.unusedVariables false
theorem tUnits_ (w : World) (s : List UInt8) (z : Int) : Calls Tryz.prog 198 #[.agg #[encStr s, .int .i64 z]] w fun x w' => x = .returned (.int .i64 1) ∧ Step w w' := by
  go_enter Tryz.func198, Tryz.ntmps198
  go_wp2
  go_ret
  exact ⟨rfl, by (repeat (first | exact Step.refl _ | refine Step.alloc ?_ _ | refine Step.drew ?_ | refine Step.drewN ?_ _ | refine Step.setCell ?_ (by first | exact Nat.le_refl _ | assumption | omega | (simp; done) | (simp; omega)) _ | assumption | refine Step.trans ?_ (by assumption : Step _ _)))⟩
theorem rmUnits_ (w : World) (s : List UInt8) : Calls Tryz.prog 202 #[.agg #[encStr s]] w fun x w' => x = .returned (.int .i64 1) ∧ Step w w' := by
  go_enter Tryz.func202, Tryz.ntmps202
  go_wp2
  go_ret
  exact ⟨rfl, by (repeat (first | exact Step.refl _ | refine Step.alloc ?_ _ | refine Step.drew ?_ | refine Step.drewN ?_ _ | refine Step.setCell ?_ (by first | exact Nat.le_refl _ | assumption | omega | (simp; done) | (simp; omega)) _ | assumption | refine Step.trans ?_ (by assumption : Step _ _)))⟩
set_option maxRecDepth 100000 in
set_option maxHeartbeats 2000000 in
theorem rmDo_ {w : World} {M : Nat → Prop} {mb : Nat} {n : Int} {s : List UInt8} {fs : List DPair} (hm : MapR Tryz.prog 9 DPair.key flR w M mb fs) (hM : M mb) (hs : s.length ≤ maxLen) :
    Calls Tryz.prog 201 #[.agg #[encStr s], .map (some mb), .int .i64 n] w fun x w' => x = .returned (.tuple #[]) ∧ MapR Tryz.prog 9 DPair.key flR w' M mb (dropK DPair.key s fs) ∧ Turn (· = mb) w w' := by
  have HM := Lib.hid hm
  have hmbl := hm.lt
  clear hm
  go_enter Tryz.func201, Tryz.ntmps201
  go_upto_region 1 with fail
  go_wp2_with (refine wpList_delete_R keep_flR rfl (.tmp 6) (.tmp 8) rfl (HM.out.step keep_flR ((Step.refl w).alloc _)) Tryz.underlying9 Tryz.underlying83 hs hM rfl rfl ?_; intro w5 hm5 hg5)
  refine bodyPost_end (results_none rfl _ _ _) rfl ⟨rfl, hm5, ((Turn.refl _ w).alloc _).grown hg5 (fun q e _ => by injection e with e; exact e.symm)⟩
set_option maxRecDepth 100000 in
set_option maxHeartbeats 4000000 in
theorem tDo_ {w : World} {M : Nat → Prop} {mb z : Nat} {n : Int} {s : List UInt8} {fs : List DPair} (hm : MapR Tryz.prog 9 DPair.key flR w M mb fs) (hM : M mb) (hMl : ∀ b, M b → b < w.heap.size) (hs : s.length ≤ maxLen) (hfs : fs.length < maxLen) (hz : z ≤ (dataB fs s).length) :
    Calls Tryz.prog 197 #[.agg #[encStr s, .int .i64 (z : Int)], .map (some mb), .int .i64 n] w fun x w' => x = .returned (.tuple #[]) ∧ MapR Tryz.prog 9 DPair.key flR w' M mb (putK DPair.key ⟨s, (dataB fs s).take z⟩ fs) ∧ Turn (· = mb) w w' := by
  have hfa : FilesAt w M (.map (some mb)) fs := .inr ⟨mb, rfl, hM, hm⟩
  obtain ⟨ov, hov, hlk⟩ := hfa.look (s := s) hs
  obtain ⟨oa, oc, rfl, hoc, hom, hol⟩ := Ty.slice_val hov
  rw [lim_eq] at hol
  have hmbl := hm.lt
  have HLK : Hid (∀ W : World, Step w W → (Instr.lookup 83 (.map (some mb)) (encStr s) false).run Tryz.prog W = .ok (.slice oa (dataB fs s).length oc) W) := Lib.hid (fun W hW => by
    have := hlk W (fun b e => by injection e with e; injection e with e; subst e; exact hW.heap hm.lt) false
    simpa using this)
  have HM := Lib.hid hm
  have HV : Hid (Ty.bytes.rep w M [.slice oa z z] ((dataB fs s).take z)) := Lib.hid (by
    have h1 := Ty.slice_take hov hz
    obtain ⟨a', c', hv, g1, g2, g3, hc⟩ := h1
    have hl : ((dataB fs s).take z).length = z := by rw [List.length_take]; omega
    simp only [List.cons.injEq, Value.slice.injEq, and_true] at hv
    obtain ⟨rfl, hzz, rfl⟩ := hv
    refine ⟨oa, z, by rw [hl], by rw [hl]; exact Nat.le_refl _, by omega, g3, hc⟩)
  clear hfa hov hlk hm
  generalize hDL : (dataB fs s).length = DL at *
  have hzi : (z : Int) ≤ (oc : Int) := by omega
  go_enter Tryz.func197, Tryz.ntmps197
  go_upto_region 1 with fail
  have hbx : CellsAt (w.alloc (.cells #[encStr s, .int .i64 (z : Int)] 103)) w.heap.size #[encStr s, .int .i64 (z : Int)] 103 := CellsAt.new rfl
  have b0 := hbx.cell 0
  have b1 := hbx.cell 1
  have HB := Lib.hid hbx
  refine wp_code (fun wx => CellsAt wx w.heap.size #[encStr s, .int .i64 (z : Int)] 103 ∧ Step w wx) ⟨hbx, by (repeat (first | exact Step.refl _ | refine Step.alloc ?_ _ | refine Step.drew ?_ | refine Step.drewN ?_ _ | refine Step.setCell ?_ (by first | exact Nat.le_refl _ | assumption | omega | (simp; done) | (simp; omega)) _ | assumption | refine Step.trans ?_ (by assumption : Step _ _)))⟩ ?_
  clear b0 b1 hbx HB
  rintro w1 ⟨hbx, hS1⟩
  have b0 : w1.cell? ⟨w.heap.size, 0, none⟩ = some (encStr s) := hbx.cell 0
  have b1 : w1.cell? ⟨w.heap.size, 1, none⟩ = some (.int .i64 (z : Int)) := hbx.cell 1
  have hlk1 := HLK.out w1 hS1
  have HS1 := Lib.hid hS1
  clear hbx hS1
  refine wp_region_cut (S := (fun w' => w'.cell? ⟨w.heap.size, 0, none⟩ = some (encStr s) ∧ w'.cell? ⟨w.heap.size, 1, none⟩ = some (.int .i64 (z : Int)) ∧ (Instr.lookup 83 (.map (some mb)) (encStr s) false).run Tryz.prog w' = .ok (.slice oa DL oc) w')) 12 (by kernel_rfl) ?_ (fun hHeld => ?_)
  · (first | (refine ⟨?_, ?_, HLK.out _ (HS1.out.trans stp)⟩ <;> go_keep) | go_keep | trivial)
  refine tkC 0 [12] ?_
  try simp only [Act.put, gtA, gtB, gtC, gtD, gtE, gtF]
  refine tkC 1 [2, 12] ?_
  try simp only [Act.put, gtA, gtB, gtC, gtD, gtE, gtF]
  refine tkC 2 [12] ?_
  try simp only [Act.put, gtA, gtB, gtC, gtD, gtE, gtF]
  refine tkC 3 [6, 11, 12] ?_
  try simp only [Act.put, gtA, gtB, gtC, gtD, gtE, gtF]
  refine tkC 4 [5, 6, 11, 12] ?_
  try simp only [Act.put, gtA, gtB, gtC, gtD, gtE, gtF]
  refine tkC 5 [6, 11, 12] ?_
  try simp only [Act.put, gtA, gtB, gtC, gtD, gtE, gtF]
  refine tkC 6 [11, 12] ?_
  try simp only [Act.put, gtA, gtB, gtC, gtD, gtE, gtF]
  refine tkC 7 [8, 11, 12] ?_
  try simp only [Act.put, gtA, gtB, gtC, gtD, gtE, gtF]
  refine tkC 8 [11, 12] ?_
  try simp only [Act.put, gtA, gtB, gtC, gtD, gtE, gtF]
  refine tkC 9 [10, 11, 12] ?_
  try simp only [Act.put, gtA, gtB, gtC, gtD, gtE, gtF]
  refine tkC 10 [11, 12] ?_
  try simp only [Act.put, gtA, gtB, gtC, gtD, gtE, gtF]
  refine tkC 11 [12] ?_
  try simp only [Act.put, gtA, gtB, gtC, gtD, gtE, gtF]
  refine rdC (rs := [12]) (.cut rfl (fun K hK => ?_))
  try simp only [gtA, gtB, gtC]
  refine ite_then rfl ?_; refine wp_mapUpdate_R (x := (⟨s, (dataB fs s).take z⟩ : DPair)) keep_flR (.tmp 6) (.tmp 8) (.tmp 17) rfl (HM.out.step keep_flR (HS1.out.trans stp)) Tryz.underlying9 Tryz.underlying83 hfs hs (Ty.step _ HV.out (HS1.out.trans stp)) hM (by rfl) (by rfl) (by rfl) ?_; intro w5 hm5 hg5; have HM5 := Lib.hid hm5; have HG5 := Lib.hid hg5; clear hm5 hg5
  refine hK.out _ _ trivial (fun hHeld => ?_)
  clear hK K
  try simp only [Act.put, gtA, gtB, gtC, gtD, gtE, gtF]
  have hTrue : True := trivial
  refine wpAnyH_done (by kernel_rfl) ?_ _
  refine bodyPost_end (results_none rfl _ _ _) rfl ⟨rfl, HM5.out, (((Turn.of HS1.out).drew).grown HG5.out (fun q e _ => by injection e with e; exact e.symm))⟩
end Go.Proofs.YthebdlkmoailaaaGreatDoor
