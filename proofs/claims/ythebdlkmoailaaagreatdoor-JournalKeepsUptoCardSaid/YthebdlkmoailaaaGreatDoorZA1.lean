/-
  Walks: what shows that memory is apart (Spare, Kept, Over, tint, stamp).
-/
import Derived.Test.YthebdlkmoailaaaGreatDoorZW2
import Derived.Test.YthebdlkmoailaaaGreatDoorZP2
set_option linter.unusedVariables false
set_option linter.unusedSimpArgs false
namespace Go.Proofs.YthebdlkmoailaaaGreatDoor
open Go.RowKit Go.Gr
set_option linter.unusedSimpArgs false
def tintB (i : Nat) : UInt8 := UInt8.ofNat (81 + 7 * (i % 31))
def stampB (i k : Nat) : UInt8 := UInt8.ofNat (3 * i + 11 * k + 1)
theorem bv_ofNat (n : Nat) : bv (UInt8.ofNat n) = .int .u8 (((n % 256 : Nat) : Int)) := by simp [bv, UInt8.toNat_ofNat']
theorem tint_ {w : World} {i : Nat} (hi : i ≤ 1099511627776) : Calls Tryz.prog 54 #[.int .i64 (i : Int)] w fun e w' => e = .returned (bv (tintB i)) ∧ w' = w := by
  unfold tintB
  rw [bv_ofNat]
  go_enter Tryz.func54, Tryz.ntmps54
  go_wp2
  go_ret
  refine ⟨?_, rfl⟩
  go_num
theorem stamp_ {w : World} {i k : Nat} (hi : i ≤ 1099511627776) (hk : k ≤ 1099511627776) : Calls Tryz.prog 56 #[.int .i64 (i : Int), .int .i64 (k : Int)] w fun e w' => e = .returned (bv (stampB i k)) ∧ w' = w := by
  unfold stampB
  rw [bv_ofNat]
  go_enter Tryz.func56, Tryz.ntmps56
  go_wp2
  go_ret
  refine ⟨?_, rfl⟩
  go_num

/-- Every row of bytes is a row of as many bytes still. -/
def Rows (e : TypeId) (w w' : World) : Prop := ∀ u zs, BR e w u zs → ∃ zs' : List UInt8, zs'.length = zs.length ∧ BR e w' u zs'
theorem Rows.refl {e : TypeId} (w : World) : Rows e w w := fun _ zs h => ⟨zs, rfl, h⟩
theorem Rows.trans {e : TypeId} {a b c : World} (h : Rows e a b) (k : Rows e b c) : Rows e a c := fun u zs hu => by
  obtain ⟨z1, h1, h2⟩ := h u zs hu
  obtain ⟨z2, h3, h4⟩ := k u z1 h2
  exact ⟨z2, h3.trans h1, h4⟩
theorem Rows.set {e : TypeId} (w : World) (g k : Nat) (b : UInt8) : Rows e w (w.setCell ⟨g, k, none⟩ (bv b)) := fun u zs hu => by
  by_cases hg : u.ownBlock = some g
  · obtain ⟨c, rfl⟩ := hu.form hg
    exact ⟨zs.set k b, by simp, hu.store b⟩
  · exact ⟨zs, rfl, hu.kept fun g' hg' => heap_setCell_other _ _ _ _ (by show g' ≠ g; exact fun e => hg (e ▸ hg'))⟩
theorem set_len {e : TypeId} {w : World} {g n c k : Nat} {xs : List UInt8} (b : UInt8) (h : BR e w (.slice (some ⟨g, 0, none⟩) n c) xs) : BR e (w.setCell ⟨g, k, none⟩ (bv b)) (.slice (some ⟨g, 0, none⟩) n c) (xs.set k b) := h.store b
theorem xor255 (b : UInt8) : ∃ c : UInt8, Value.int .u8 (bits .xor .u8 (b.toNat : Int) 255) = bv c := by
  have h : ∃ z : Int, bits .xor .u8 (b.toNat : Int) 255 = IntKind.u8.wrap z := ⟨_, rfl⟩
  obtain ⟨z, hz⟩ := h
  rw [hz, IntKind.wrap_u8]
  refine ⟨UInt8.ofNat (z % 256).toNat, ?_⟩
  rw [bv_ofNat]
  congr 1
  omega
set_option maxRecDepth 100000 in
set_option maxHeartbeats 1000000 in
theorem Over_ {w : World} {v : Value} {xs : List UInt8} (h : BR 5 w v xs) :
    Calls Tryz.prog 21 #[v] w fun e w' => e = .returned (.tuple #[]) ∧ Rows 5 w w' ∧ Turn (fun b => v.ownBlock = some b) w w' := by
  obtain ⟨a, c, rfl⟩ := h.val
  have hl := h.le
  rw [lim_eq] at hl
  have H := Lib.hid h
  generalize hnn : xs.length = n at *
  clear h
  go_enter Tryz.func21, Tryz.ntmps21
  go_wp2
  go_loopw [2] (fun i w' => ∃ (k : Nat) (ys : List UInt8), i = .int .i64 k ∧ k ≤ n ∧ ys.length = n ∧ BR 5 w' (.slice a n c) ys ∧ Rows 5 w w' ∧ Turn (fun b => (Value.slice a n c).ownBlock = some b) w w') (fun i _ => n - (Go.RowKit.intOf i).toNat)
  case atStart => exact ⟨0, xs, rfl, by omega, hnn, H.out, Rows.refl _, Turn.refl _ _⟩
  case round =>
    obtain ⟨k, ys, rfl, hk, hy, hB, hR, hT⟩ := hrel
    have HR := Lib.hid hR
    have HT := Lib.hid hT
    have HB := Lib.hid hB
    clear hR hT hB
    by_cases hlt : k < n
    · obtain ⟨g, rfl, hg, hc, hf⟩ := HB.out.at (k := k) (by omega)
      obtain ⟨b, hb⟩ := xor255 ys[k]
      go_wp2
      go_roundw
      case rel => exact ⟨k + 1, ys.set k b, by go_num, by omega, by simpa using hy, HB.out.store _, HR.out.trans (Rows.set _ _ _ _), HT.out.setCell (p := ⟨g, k, none⟩) (fun _ => rfl) _⟩
      case measure => simp [Go.RowKit.intOf]; omega
    · go_wp2
      refine bodyPost_end (results_none rfl _ _ _) rfl ?_
      exact ⟨rfl, HR.out, HT.out⟩
/-- A copy with tinted room behind it. -/
def spareB (b : List UInt8) : List UInt8 := b ++ (List.range 33).map fun j => tintB (b.length + j)
theorem spareB_len {b : List UInt8} : (spareB b).length = b.length + 33 := by simp [spareB]
theorem spareB_head {b : List UInt8} {k : Nat} (h : k < b.length) : (spareB b)[k]'(by rw [spareB_len]; omega) = b[k] := by
  simp [spareB, List.getElem_append, h]
theorem spareB_tail {b : List UInt8} {k : Nat} (h : k < b.length + 33) (h2 : b.length ≤ k) : (spareB b)[k]'(by rw [spareB_len]; exact h) = tintB k := by
  have : ¬ k < b.length := by omega
  simp only [spareB, List.getElem_append, this]
  simp
  congr 1
  omega
theorem fill_next {l : List UInt8} {k : Nat} {z : UInt8} (h : k < l.length) : (l.take k ++ List.replicate (l.length - k) z).set k l[k] = l.take (k + 1) ++ List.replicate (l.length - (k + 1)) z := by
  have hk : (l.take k).length = k := by rw [List.length_take]; omega
  rw [List.set_append_right _ _ (by omega), List.take_succ_eq_append_getElem h, hk, Nat.sub_self]
  have : l.length - k = (l.length - (k + 1)) + 1 := by omega
  rw [this, List.replicate_succ, List.set_cons_zero, List.append_assoc]
  rfl
theorem made_bytesA (n : Nat) (hn : n ≤ 8589934592) (W : World) : (Instr.makeSlice 40 (.int .i64 (n : Int)) (.int .i64 (n : Int))).run Tryz.prog W = .ok (.slice (some ⟨W.heap.size, 0, none⟩) n n) (W.alloc (.cells (madeCells #[.int .u8 0] n) 5)) := by
  obtain ⟨i, h1, h2, h3, h4⟩ := info_parts (show (Tryz.prog.info? 5).map (fun i => (i.zero, i.size, i.bytes)) = some (some (Value.int .u8 0), 1, 1) by kernel_rfl)
  have := run_make (P := Tryz.prog) W 40 5 i _ Tryz.underlying40 h1 h2 .i64 .i64 n n (by omega) (Int.le_refl _) (by rw [h4]; omega) (by omega)
  rw [Int.toNat_natCast, h3, Nat.mul_one] at this
  exact this
theorem made_br (n : Nat) (hn : n ≤ 8589934592) (W : World) : BR 5 (W.alloc (.cells (madeCells #[.int .u8 0] n) 5)) (.slice (some ⟨W.heap.size, 0, none⟩) n n) (List.replicate n 0) := by
  refine ⟨by rw [List.length_replicate, lim_eq]; omega, ?_⟩
  have h := World.ownsRow_lit (base := 0) (e := 5) (size := 1) W (madeCells #[.int .u8 0] n) n (Nat.zero_le _) (by unfold maxLen; omega) (by simp [madeCells])
  rw [List.length_replicate, List.map_replicate]
  rw [toList_madeCells_one] at h
  exact h
set_option maxRecDepth 100000 in
set_option maxHeartbeats 2000000 in
theorem Spare_ {w : World} {M : Nat → Prop} {v : Value} {b : List UInt8} (h : Ty.bytes.rep w M [v] b) (hl : b.length ≤ 4294967296) :
    Calls Tryz.prog 19 #[v] w fun e w' => ∃ g, e = .returned (.tuple #[.slice (some ⟨g, 0, none⟩) b.length (b.length + 33), .slice (some ⟨g, 0, none⟩) (b.length + 33) (b.length + 33)]) ∧ w.heap.size ≤ g ∧
      BR 5 w' (.slice (some ⟨g, 0, none⟩) (b.length + 33) (b.length + 33)) (spareB b) ∧ Step w w' := by
  obtain ⟨a, c, rfl, _⟩ := Ty.slice_val h
  have H := Lib.hid h
  have hmk := made_bytesA (b.length + 33) (by omega)
  have hmb := Lib.hid (made_br (b.length + 33) (by omega))
  have hcast : ((b.length + 33 : Nat) : Int) = (b.length : Int) + 33 := by omega
  rw [hcast] at hmk
  clear h
  have HSL := Lib.hid (spareB_len (b := b))
  go_enter Tryz.func19, Tryz.ntmps19
  go_wp2
  go_loopw [5] (fun i w' => ∃ k : Nat, i = .int .i64 k ∧ k ≤ b.length + 33 ∧ Hid (BR 5 w' (.slice (some ⟨w.heap.size, 0, none⟩) (b.length + 33) (b.length + 33)) ((spareB b).take k ++ List.replicate ((spareB b).length - k) 0)) ∧ Step w w') (fun i _ => b.length + 33 - (Go.RowKit.intOf i).toNat)
  case atStart => exact ⟨0, rfl, by omega, Lib.hid (by rw [spareB_len]; simpa using hmb.out w), by (repeat (first | exact Step.refl _ | refine Step.alloc ?_ _ | refine Step.drew ?_ | refine Step.drewN ?_ _ | refine Step.setCell ?_ (by first | exact Nat.le_refl _ | assumption | omega | (simp; done) | (simp; omega)) _ | assumption | refine Step.trans ?_ (by assumption : Step _ _)))⟩
  case round =>
    obtain ⟨k, rfl, hk, hB, hS⟩ := hrel
    by_cases hlt : k < b.length + 33
    · have hk2 : k < (spareB b).length := by rw [HSL.out]; exact hlt
      have HN := Lib.hid (fill_next (z := 0) hk2)
      have HK2 := Lib.hid hk2
      obtain ⟨g, hgg, hg, hc, hf⟩ := hB.out.at (k := k) (by simp only [List.length_append, List.length_take, List.length_replicate]; omega)
      obtain rfl : w.heap.size = g := by injection hgg with h1; injection h1
      clear hgg
      have hsz := hS.size
      by_cases hkb : k < b.length
      · obtain ⟨sb, so, su, rfl, hsb, _, hsu, hcu⟩ := Ty.slice_at1 rfl H.out hkb
        have hne : ¬ sb = w.heap.size := by omega
        have hcu' : wr.cell? ⟨sb, so + k, none⟩ = some su := (hS.cell hsb _).trans hcu
        obtain rfl : su = bv b[k] := by simpa [Ty.byte] using hsu
        have HD := Lib.hid (spareB_head hkb)
        clear hcu hsu
        go_wp2_with (go_at_call 54; refine (tint_ (i := k) (by omega)).mono ?_; rintro e w2 ⟨rfl, rfl⟩)
        go_roundw
        case rel =>
          refine ⟨k + 1, by go_num, by omega, Lib.hid ?_, Step.setCell (Step.setCell hS (Nat.le_refl _) _) (Nat.le_refl _) _⟩
          have h1 := (hB.out.store (k := k) (tintB k)).store (k := k) b[k]
          have h2 := HN.out
          rw [HD.out] at h2
          rw [List.set_set, h2] at h1
          exact h1
        case measure => simp [Go.RowKit.intOf]; omega
      · have HD := Lib.hid (spareB_tail hlt (by omega))
        go_wp2_with (go_at_call 54; refine (tint_ (i := k) (by omega)).mono ?_; rintro e w2 ⟨rfl, rfl⟩)
        go_roundw
        case rel =>
          refine ⟨k + 1, by go_num, by omega, Lib.hid ?_, Step.setCell hS (Nat.le_refl _) _⟩
          have h1 := hB.out.store (k := k) (tintB k)
          have h2 := HN.out
          rw [HD.out] at h2
          rw [h2] at h1
          exact h1
        case measure => simp [Go.RowKit.intOf]; omega
    · obtain rfl : k = b.length + 33 := by omega
      go_wp2
      go_ret2
      refine ⟨w.heap.size, rfl, Nat.le_refl _, ?_, hS⟩
      have h1 := hB.out
      rw [← HSL.out] at h1 ⊢
      rw [List.take_length, Nat.sub_self, List.replicate_zero, List.append_nil] at h1
      exact h1
end Go.Proofs.YthebdlkmoailaaaGreatDoor
namespace Go.Proofs.YthebdlkmoailaaaGreatDoor
open Go.RowKit Go.Gr
set_option linter.unusedSimpArgs false
set_option maxRecDepth 100000 in
set_option maxHeartbeats 2000000 in
theorem Kept_ {w : World} {M M' : Nat → Prop} {v1 v2 : Value} {b : List UInt8} (h1 : Ty.bytes.rep w M [v1] (spareB b)) (h2 : Ty.bytes.rep w M' [v2] b) (hl : b.length ≤ 4294967296) :
    Calls Tryz.prog 20 #[v1, v2] w fun e w' => e = .returned (.bool true) ∧ Step w w' := by
  obtain ⟨a1, c1, rfl, _⟩ := Ty.slice_val h1
  obtain ⟨a2, c2, rfl, _⟩ := Ty.slice_val h2
  have H1 := Lib.hid h1
  have H2 := Lib.hid h2
  clear h1 h2
  rw [spareB_len] at H1 ⊢
  go_enter Tryz.func20, Tryz.ntmps20
  go_wp2
  go_loopw [5] (fun i w' => ∃ k : Nat, i = .int .i64 k ∧ k ≤ b.length + 33 ∧ Step w w') (fun i _ => b.length + 33 - (Go.RowKit.intOf i).toNat)
  case atStart => exact ⟨0, rfl, by omega, Step.refl _⟩
  case round =>
    obtain ⟨k, rfl, hk, hS⟩ := hrel
    have HS := Lib.hid hS
    clear hS
    by_cases hlt : k < b.length + 33
    · have hk2 : k < (spareB b).length := by rw [spareB_len]; exact hlt
      obtain ⟨b1, o1, u1, rfl, hb1, _, hu1, hc1⟩ := Ty.slice_at1 rfl H1.out hk2
      obtain rfl : u1 = bv (spareB b)[k] := by simpa [Ty.byte] using hu1
      have q1 : wr.cell? ⟨b1, o1 + k, none⟩ = some (bv (spareB b)[k]) := (HS.out.cell hb1 _).trans hc1
      clear hc1 hu1
      by_cases hkb : k < b.length
      · obtain ⟨b2, o2, u2, rfl, hb2, _, hu2, hc2⟩ := Ty.slice_at1 rfl H2.out hkb
        obtain rfl : u2 = bv b[k] := by simpa [Ty.byte] using hu2
        have q2 : wr.cell? ⟨b2, o2 + k, none⟩ = some (bv b[k]) := (HS.out.cell hb2 _).trans hc2
        rw [spareB_head hkb] at q1
        clear hc2 hu2 hk2 H1 H2
        generalize b[k] = z at *
        generalize b.length = n at *
        have d1 : decide ((k : Int) < (n : Int)) = true := decide_eq_true (by omega)
        have d2 : decide ((k : Int) ≥ (n : Int)) = false := decide_eq_false (by omega)
        have d3 : decide ((n : Int) ≤ (k : Int)) = false := decide_eq_false (by omega)
        have d4 : decide (n ≤ k) = false := decide_eq_false (by omega)
        have d5 : (n ≤ k) = False := eq_false (by omega)
        go_wp2
        go_quiet (exact Calls.quiet_of_same (tint_ (by omega)))
        go_wp2
        go_roundw
        case rel => exact ⟨k + 1, by go_num, by omega, by (repeat (first | exact Step.refl _ | refine Step.alloc ?_ _ | refine Step.drew ?_ | refine Step.drewN ?_ _ | refine Step.setCell ?_ (by first | exact Nat.le_refl _ | assumption | omega | (simp; done) | (simp; omega)) _ | assumption | refine Step.trans ?_ (by assumption : Step _ _)))⟩
        case measure => simp [Go.RowKit.intOf]; omega
      · rw [spareB_tail hlt (by omega)] at q1
        clear hk2 H1 H2
        generalize b.length = n at *
        have d1 : decide ((k : Int) < (n : Int)) = false := decide_eq_false (by omega)
        have d6 : decide (k < n) = false := decide_eq_false (by omega)
        have d7 : (k < n) = False := eq_false (by omega)
        have d2 : decide ((k : Int) ≥ (n : Int)) = true := decide_eq_true (by omega)
        have d3 : decide ((n : Int) ≤ (k : Int)) = true := decide_eq_true (by omega)
        have d4 : decide (n ≤ k) = true := decide_eq_true (by omega)
        have d5 : (n ≤ k) = True := eq_true (by omega)
        go_wp2
        go_quiet (exact Calls.quiet_of_same (tint_ (i := k) (by omega)))
        go_wp2
        go_roundw
        case rel => exact ⟨k + 1, by go_num, by omega, by (repeat (first | exact Step.refl _ | refine Step.alloc ?_ _ | refine Step.drew ?_ | refine Step.drewN ?_ _ | refine Step.setCell ?_ (by first | exact Nat.le_refl _ | assumption | omega | (simp; done) | (simp; omega)) _ | assumption | refine Step.trans ?_ (by assumption : Step _ _)))⟩
        case measure => simp [Go.RowKit.intOf]; omega
    · go_wp2
      go_ret
      exact ⟨rfl, HS.out⟩
end Go.Proofs.YthebdlkmoailaaaGreatDoor
