/-
  Walks: the reference's cell and Seal: how long they come out; the length of a sealed record.
  Walks: the reference's End, Next, First, Closed, All.
  Walks: the reference's Number and Drop.
-/
import Derived.Test.YthebdlkmoailaaaGreatDoorZN3
import Derived.Test.YthebdlkmoailaaaGreatDoorZP7
import Derived.Test.YthebdlkmoailaaaGreatDoorZN0
set_option linter.unusedVariables false
set_option linter.unusedSimpArgs false
namespace Go.Proofs.YthebdlkmoailaaaGreatDoor
open Go.RowKit Go.Gr
set_option linter.unusedSimpArgs false
set_option linter.unusedVariables false
theorem byte_yv {w : World} {M : Nat → Prop} {n : Nat} (h : n < 256) : Ty.byte.rep w M [yv n] (UInt8.ofNat n) := by
  show [yv n] = [Value.int .u8 ((UInt8.ofNat n).toNat : Int)]
  rw [UInt8.toNat_ofNat', Nat.mod_eq_of_lt (by omega)]
theorem src_old {w w2 : World} {g x y z u : Nat} {M : Nat → Prop} {e : TypeId} (hS : Step (w.alloc (.cells #[yv x, yv y, yv z, yv u] e)) w2) (hg : w.heap.size = g) (hx : x < 256) (hy : y < 256) (hz : z < 256) (hu : u < 256) : Src Ty.byte w2 M (.slice (some ⟨g, 0, none⟩) 4 4) [UInt8.ofNat x, UInt8.ofNat y, UInt8.ofNat z, UInt8.ofNat u] := by
  subst hg
  have h1 : CellsAt w2 w.heap.size #[yv x, yv y, yv z, yv u] e := (CellsAt.new rfl).step hS
  refine ⟨_, _, rfl, fun _ => ⟨_, _, rfl, fun i hi => ?_⟩⟩
  simp only [List.length_cons, List.length_nil] at hi
  have key : ∀ n v j, n < 256 → [yv n][j]? = some v → w2.cell? ⟨w.heap.size, i, none⟩ = some (yv n) → w2.cell? ⟨w.heap.size, 0 + i * Ty.byte.n + j, none⟩ = some v := fun n v j hn hv hc => by
    rcases j with _ | j
    · obtain rfl : yv n = v := by simpa using hv
      rw [show 0 + i * Ty.byte.n + 0 = i by simp [Ty.byte]]
      exact hc
    · simp at hv
  rcases i with _ | _ | _ | _ | i
  · exact ⟨_, byte_yv hx, fun j v hv => key x v j hx hv (h1.cell 0)⟩
  · exact ⟨_, byte_yv hy, fun j v hv => key y v j hy hv (h1.cell 1)⟩
  · exact ⟨_, byte_yv hz, fun j v hv => key z v j hz hv (h1.cell 2)⟩
  · exact ⟨_, byte_yv hu, fun j v hv => key u v j hu hv (h1.cell 3)⟩
  · omega
theorem four_at {x y z u : Nat} (hx : x < 256) (hy : y < 256) (hz : z < 256) (hu : u < 256) {w : World} {M : Nat → Prop} {i : Nat} (hi : i < [UInt8.ofNat x, UInt8.ofNat y, UInt8.ofNat z, UInt8.ofNat u].length) : Ty.byte.rep w M (grp (#[yv x, yv y, yv z, yv u] : Array Value).toList Ty.byte.n i) [UInt8.ofNat x, UInt8.ofNat y, UInt8.ofNat z, UInt8.ofNat u][i] := by
  simp only [List.length_cons, List.length_nil] at hi
  rcases i with _ | _ | _ | _ | i
  · exact byte_yv hx
  · exact byte_yv hy
  · exact byte_yv hz
  · exact byte_yv hu
  · omega
set_option maxRecDepth 100000 in
set_option maxHeartbeats 4000000 in
theorem r3cell_ {w : World} {M : Nat → Prop} {v : Value} {b : List UInt8} (h : Ty.bytes.rep w M [v] b) (hn : b.length ≤ 1048576) :
    Calls Tryz.prog 103 #[v] w fun e w' => ∃ (v' : Value) (c : List UInt8), e = .returned v' ∧ Gr.Own Ty.byte 5 w' (· < w.heap.size) w.heap.size v' c ∧ c.length = b.length + 4 ∧ Step w w' := by
  have H := Lib.hid h
  clear h
  go_enter Tryz.func103, Tryz.ntmps103
  go_upto_region 2 with (go_at_call 121; refine (r3Check_ (Ty.step _ H.out stp) hn).mono ?_; rintro e w1 ⟨x, y, z, u, rfl, ⟨hx, hy, hz, hu⟩, hS1⟩; have HS1 : Hid (Step w w1) := Lib.hid (Step.trans stp hS1); clear hS1)
  refine wp_codeN (fun wx => CellsAt wx w1.heap.size #[yv x, yv y, yv z, yv u] 163 ∧ Step w wx) ⟨CellsAt.new rfl, HS1.out.trans stp⟩ ?_
  rintro w2 ⟨hc2, hS2⟩
  obtain ⟨cb, hcb⟩ : ∃ cb, cb = w1.heap.size := ⟨_, rfl⟩
  rw [← hcb] at hc2 ⊢
  have HS2 := Lib.hid hS2
  have c0 : w2.cell? ⟨cb, 0, none⟩ = some (yv x) := hc2.cell 0
  have c1 : w2.cell? ⟨cb, 1, none⟩ = some (yv y) := hc2.cell 1
  have c2 : w2.cell? ⟨cb, 2, none⟩ = some (yv z) := hc2.cell 2
  have c3 : w2.cell? ⟨cb, 3, none⟩ = some (yv u) := hc2.cell 3
  have hcl := hc2.lt
  clear hc2 hS2 hcb HS1
  refine wp_region_held_drew (S := (fun w' => w'.cell? ⟨cb, 0, none⟩ = some (yv x) ∧ w'.cell? ⟨cb, 1, none⟩ = some (yv y) ∧ w'.cell? ⟨cb, 2, none⟩ = some (yv z) ∧ w'.cell? ⟨cb, 3, none⟩ = some (yv u))) (by kernel_rfl) ?_ (fun hHeld => ?_)
  · (go_keep)
  refine tkH 0 ?_
  try simp only [Act.put, gtA, gtB, gtC, gtD, gtE, gtF]
  refine tkH 2 ?_
  try simp only [Act.put, gtA, gtB, gtC, gtD, gtE, gtF]
  refine tkH 3 ?_
  try simp only [Act.put, gtA, gtB, gtC, gtD, gtE, gtF]
  refine tkH 4 ?_
  try simp only [Act.put, gtA, gtB, gtC, gtD, gtE, gtF]
  refine tkH 5 ?_
  try simp only [Act.put, gtA, gtB, gtC, gtD, gtE, gtF]
  refine tkH 6 ?_
  try simp only [Act.put, gtA, gtB, gtC, gtD, gtE, gtF]
  refine tkH 7 ?_
  try simp only [Act.put, gtA, gtB, gtC, gtD, gtE, gtF]
  refine tkH 8 ?_
  try simp only [Act.put, gtA, gtB, gtC, gtD, gtE, gtF]
  refine tkH 9 ?_
  try simp only [Act.put, gtA, gtB, gtC, gtD, gtE, gtF]
  refine rdH (rs := [1, 10]) (.cons rfl (fun K hK => ?_) (.cons rfl (fun K hK => ?_) .nil))
  · try simp only [gtA, gtB, gtC]
    go_simp
    (go_at_call 52; refine (Copy_ _ M _ _ (Ty.step _ H.out (HS2.out.trans stp))).mono ?_; rintro e4 w4 ⟨v4, rfl, hA4, hS4⟩; obtain ⟨b4, m4, rfl⟩ := hA4.val; have s4_0 : ∀ j, w4.cell? ⟨cb, j, none⟩ = _ := fun j => hS4.cell (by first | assumption | omega | (simp; done) | (simp; omega)) j; have z4_0 : cb < w4.heap.size := Nat.lt_of_lt_of_le (by first | assumption | omega | (simp; done) | (simp; omega)) hS4.size; have HA4 := Lib.hid hA4; clear hA4)
    refine hK.out _ _ ?_ (fun hHeld => ?_)
    · (go_keep)
    clear hK K
    try simp only [Act.put, gtA, gtB, gtC, gtD, gtE, gtF]
    refine rdH (rs := [10]) (.cons rfl (fun K hK => ?_) .nil)
    try simp only [gtA, gtB, gtC]
    go_simp
    refine hK.out _ _ ?_ (fun hHeld => ?_)
    · (go_keep)
    clear hK K
    try simp only [Act.put, gtA, gtB, gtC, gtD, gtE, gtF]
    refine rdH (rs := [11]) (.cons rfl (fun K hK => ?_) .nil)
    try simp only [gtA, gtB, gtC]
    refine ite_then rfl ?_; refine wp_append_gen (ys := [UInt8.ofNat x, UInt8.ofNat y, UInt8.ofNat z, UInt8.ofNat u]) (.tmp 7) (.tmp 16) rfl stBytes (Own.step HA4.out stp) (by first | exact src_old hS4 rfl hx hy hz hu | exact src_old (Step.refl _) rfl hx hy hz hu | (have hQ4 := Step.trans (Step.drew (Step.refl _)) hS4; exact src_old hQ4 rfl hx hy hz hu)) (by simp [lim_eq]; omega) (Step.size stp) rfl rfl ?_; intro v5 w5 hA5 hG5 hn5; have HS5 : Hid (Step w2 w5) := Lib.hid (Own.grown (w0 := w2) (Own.base (HA4.out.step stp) (by simp)) stp hG5); have HA5 := Lib.hid hA5; have s5a : ∀ j, w5.cell? ⟨cb, j, none⟩ = _ := fun j => HS5.out.cell hcl j; clear hA5 hG5 hn5
    refine hK.out _ _ ?_ (fun hHeld => ?_)
    · (go_keep)
    clear hK K
    try simp only [Act.put, gtA, gtB, gtC, gtD, gtE, gtF]
    refine tkH 12 ?_
    try simp only [Act.put, gtA, gtB, gtC, gtD, gtE, gtF]
    refine wpAnyH_done (by kernel_rfl) ?_ _
    go_wp2
    go_ret
    exact ⟨_, b ++ [UInt8.ofNat x, UInt8.ofNat y, UInt8.ofNat z, UInt8.ofNat u], rfl, Own.base (Own.less HA5.out (fun c _ hc => Nat.lt_of_lt_of_le hc (HS2.out.trans stp).size)) (HS2.out.trans stp).size, by simp, HS2.out.trans (HS5.out.trans stp)⟩
  · try simp only [gtA, gtB, gtC]
    go_simp
    refine hK.out _ _ ?_ (fun hHeld => ?_)
    · (go_keep)
    clear hK K
    try simp only [Act.put, gtA, gtB, gtC, gtD, gtE, gtF]
    refine rdH (rs := [1]) (.cons rfl (fun K hK => ?_) .nil)
    try simp only [gtA, gtB, gtC]
    go_simp
    (go_at_call 52; refine (Copy_ _ M _ _ (Ty.step _ H.out (HS2.out.trans stp))).mono ?_; rintro e4 w4 ⟨v4, rfl, hA4, hS4⟩; obtain ⟨b4, m4, rfl⟩ := hA4.val; have s4_0 : ∀ j, w4.cell? ⟨cb, j, none⟩ = _ := fun j => hS4.cell (by first | assumption | omega | (simp; done) | (simp; omega)) j; have z4_0 : cb < w4.heap.size := Nat.lt_of_lt_of_le (by first | assumption | omega | (simp; done) | (simp; omega)) hS4.size; have HA4 := Lib.hid hA4; clear hA4)
    refine hK.out _ _ ?_ (fun hHeld => ?_)
    · (go_keep)
    clear hK K
    try simp only [Act.put, gtA, gtB, gtC, gtD, gtE, gtF]
    refine rdH (rs := [11]) (.cons rfl (fun K hK => ?_) .nil)
    try simp only [gtA, gtB, gtC]
    refine ite_then rfl ?_; refine wp_append_gen (ys := [UInt8.ofNat x, UInt8.ofNat y, UInt8.ofNat z, UInt8.ofNat u]) (.tmp 7) (.tmp 16) rfl stBytes (Own.step HA4.out stp) (by first | exact src_old hS4 rfl hx hy hz hu | exact src_old (Step.refl _) rfl hx hy hz hu | (have hQ4 := Step.trans (Step.drew (Step.refl _)) hS4; exact src_old hQ4 rfl hx hy hz hu)) (by simp [lim_eq]; omega) (Step.size stp) rfl rfl ?_; intro v5 w5 hA5 hG5 hn5; have HS5 : Hid (Step w2 w5) := Lib.hid (Own.grown (w0 := w2) (Own.base (HA4.out.step stp) (by simp)) stp hG5); have HA5 := Lib.hid hA5; have s5a : ∀ j, w5.cell? ⟨cb, j, none⟩ = _ := fun j => HS5.out.cell hcl j; clear hA5 hG5 hn5
    refine hK.out _ _ ?_ (fun hHeld => ?_)
    · (go_keep)
    clear hK K
    try simp only [Act.put, gtA, gtB, gtC, gtD, gtE, gtF]
    refine tkH 12 ?_
    try simp only [Act.put, gtA, gtB, gtC, gtD, gtE, gtF]
    refine wpAnyH_done (by kernel_rfl) ?_ _
    go_wp2
    go_ret
    exact ⟨_, b ++ [UInt8.ofNat x, UInt8.ofNat y, UInt8.ofNat z, UInt8.ofNat u], rfl, Own.base (Own.less HA5.out (fun c _ hc => Nat.lt_of_lt_of_le hc (HS2.out.trans stp).size)) (HS2.out.trans stp).size, by simp, HS2.out.trans (HS5.out.trans stp)⟩
theorem rep_hdr {w : World} {n : Nat} {e : TypeId} (hn : n ≤ 1048576) : Ty.bytes.rep (w.alloc (.cells #[.int .u8 ((n : Int) / 16777216), .int .u8 ((n : Int) / 65536), .int .u8 ((n : Int) / 256 % 256), .int .u8 ((n : Int) % 256)] e)) (fun _ => False) [.slice (some ⟨w.heap.size, 0, none⟩) 4 4] [UInt8.ofNat (n / 16777216), UInt8.ofNat (n / 65536), UInt8.ofNat (n / 256 % 256), UInt8.ofNat (n % 256)] :=
  Own.rep (B := w.heap.size) (Own.lit (w := w) (cs := #[yv (n / 16777216), yv (n / 65536), yv (n / 256 % 256), yv (n % 256)]) (e := e) rfl (by rw [lim_eq]; omega) (Nat.le_refl _) rfl (fun i hi => four_at (by omega) (by omega) (by omega) (by omega) hi)) (fun _ h => h.elim)
/-- How long a record is sealed. -/
def cellsN (n : Nat) : Nat := n + 4 * ((n + 250) / 251)
set_option maxRecDepth 100000 in
set_option maxHeartbeats 1000000 in
theorem r3Seal_ {w : World} {M : Nat → Prop} {v : Value} {b : List UInt8} (h : Ty.bytes.rep w M [v] b) (hn : b.length ≤ 1048576) :
    Calls Tryz.prog 84 #[v] w fun e w' => ∃ (v' : Value) (c : List UInt8), e = .returned (.tuple #[v', .int .i64 0]) ∧ Gr.Own Ty.byte 5 w' (· < w.heap.size) w.heap.size v' c ∧ c.length = 8 + cellsN b.length ∧ Step w w' := by
  obtain ⟨a, c, rfl, hc, hm, hl⟩ := Ty.slice_val h
  have H := Lib.hid h
  clear h
  obtain ⟨n, hN⟩ : ∃ n, n = b.length := ⟨_, rfl⟩
  rw [← hN] at H hn hc hl ⊢
  have HN := Lib.hid hN
  clear hN
  have hd0 : decide ((1048576 : Int) < (n : Int)) = false := decide_eq_false (by omega)
  have hcm : (c : Int) ≤ 9223372036854775807 := by unfold maxLen at hm; omega
  go_enter Tryz.func84, Tryz.ntmps84
  go_upto_region 4 with fail
  go_upto_region 5 with (go_at_call 103; refine (r3cell_ (rep_hdr (w := w) (e := 5) hn) (by simp)).mono ?_; rintro e w1 ⟨v1, c1, rfl, hA1, hc1, hS1⟩; have HA1 := Lib.hid hA1; have HS1 : Hid (Step w w1) := Lib.hid (Step.trans stp hS1); clear hA1 hS1)
  have hc18 : c1.length = 8 := hc1
  have HA0 : Hid (Gr.Own Ty.byte 5 w1 (· < w.heap.size) w.heap.size v1 c1) := Lib.hid (Own.base (Own.less HA1.out (fun c _ hc => by simp only [World.size_alloc]; omega)) (by simp))
  have HS0 := HS1
  go_wp2
  clear HA1 HS1
  go_loopw [5, 6] (fun ov iv w' => ∃ (i : Nat) (ds : List UInt8), iv = .int .i64 (i : Int) ∧ i < n + 251 ∧ Hid (i % 251 = 0) ∧ Hid (Gr.Own Ty.byte 5 w' (· < w.heap.size) w.heap.size ov ds) ∧ Hid (Step w w') ∧ Hid (ds.length = 8 + (min i n + 4 * (i / 251)))) (fun _ iv _ => n + 251 - (Go.RowKit.intOf iv).toNat)
  case atStart => exact ⟨0, c1, rfl, by omega, Lib.hid rfl, HA0, HS0, Lib.hid (by rw [hc18]; simp)⟩
  case round =>
    obtain ⟨i, ds, rfl, hi, HI, HA, HS, HL⟩ := hrel
    by_cases hlt : i < n
    · have hd : decide ((i : Int) < (n : Int)) = true := decide_eq_true (by omega)
      obtain ⟨e2, he2⟩ : ∃ e2, e2 = min (i + 251) n := ⟨_, rfl⟩
      have hie : (i : Int) ≤ (e2 : Int) := by omega
      have hec : (e2 : Int) ≤ (c : Int) := by omega
      have hen : e2 ≤ n := by omega
      have hci : ¬ (c = i) := by omega
      obtain ⟨g9, o9, _, rfl, _⟩ := Ty.slice_at1 rfl H.out (show i < b.length by rw [← HN.out]; exact hlt)
      have hsub := Ty.slice_take (slice_dropP (k := i) rfl H.out (by rw [← HN.out]; omega)) (k := e2 - i) (by rw [List.length_drop, ← HN.out]; omega)
      rw [if_neg hci] at hsub
      have HSUB := Lib.hid hsub
      have hsl : Hid (((b.drop i).take (e2 - i)).length = e2 - i) := Lib.hid (by rw [List.length_take, List.length_drop, ← HN.out]; omega)
      have HE2 := Lib.hid he2
      clear hsub he2
      by_cases hgt : n < i + 251
      · have hg : decide ((n : Int) < (i : Int) + 251) = true := decide_eq_true (by omega)
        have hen2 : e2 = n := by rw [HE2.out]; omega
        subst hen2
        go_wp2_with (first
          | (go_at_call 103; refine (r3cell_ (Ty.step _ HSUB.out (HS.out.trans stp)) (by rw [hsl.out]; omega)).mono ?_; rintro e w5 ⟨v5, c5, rfl, hA5, hc5, hS5⟩; obtain ⟨a5, n5, k5, rfl, HN5⟩ := hA5.valN; have HA5 := Lib.hid hA5; have HC5 := Lib.hid hc5; have HS5 : Hid (Step w w5) := Lib.hid (HS.out.trans (Step.trans stp hS5)); have HR5 : Hid (Step wr w5) := Lib.hid (Step.trans stp hS5); clear hA5 hc5 hS5)
          | (at_builtin; refine wpList_append_acc (w0 := w) (ys := c5) rfl (.tmp 36) (.tmp 41) rfl stBytes (HS5.out.trans stp) (Gr.Own.step HA.out (HR5.out.trans stp)) (Src.flat Ty.flat_byte (Own.rep' (M := fun c => c < wr.heap.size) (HA5.out.step stp) (fun c hc hm => by have := (HA5.out.lt hc).1; (try simp only [World.size_drew, World.size_alloc] at this); omega))) (by have h1 := HL.out; have h2 := HC5.out; have h3 := hsl.out; rw [h1, h2, h3, lim_eq]; omega) rfl rfl ?_; intro v6 w6 hA6 hB6 _ _; have HA6 := Lib.hid hA6; have HS6 := Lib.hid hB6; clear hA6 hB6))
        go_roundw
        case rel => exact ⟨i + 251, ds ++ c5, by go_num, by omega, Lib.hid (by have := HI.out; omega), HA6, HS6, Lib.hid (by have h1 := HL.out; have h2 := HC5.out; have h3 := hsl.out; have h4 := HI.out; rw [List.length_append, h1, h2, h3]; omega)⟩
        case measure => simp [Go.RowKit.intOf]; omega

      · have hg : decide ((n : Int) < (i : Int) + 251) = false := decide_eq_false (by omega)
        have hen2 : ((i : Int) + 251) = (e2 : Int) := by rw [HE2.out]; omega
        go_wp2_with (first
          | (go_at_call 103; refine (r3cell_ (Ty.step _ HSUB.out (HS.out.trans stp)) (by rw [hsl.out]; omega)).mono ?_; rintro e w5 ⟨v5, c5, rfl, hA5, hc5, hS5⟩; obtain ⟨a5, n5, k5, rfl, HN5⟩ := hA5.valN; have HA5 := Lib.hid hA5; have HC5 := Lib.hid hc5; have HS5 : Hid (Step w w5) := Lib.hid (HS.out.trans (Step.trans stp hS5)); have HR5 : Hid (Step wr w5) := Lib.hid (Step.trans stp hS5); clear hA5 hc5 hS5)
          | (at_builtin; refine wpList_append_acc (w0 := w) (ys := c5) rfl (.tmp 36) (.tmp 41) rfl stBytes (HS5.out.trans stp) (Gr.Own.step HA.out (HR5.out.trans stp)) (Src.flat Ty.flat_byte (Own.rep' (M := fun c => c < wr.heap.size) (HA5.out.step stp) (fun c hc hm => by have := (HA5.out.lt hc).1; (try simp only [World.size_drew, World.size_alloc] at this); omega))) (by have h1 := HL.out; have h2 := HC5.out; have h3 := hsl.out; rw [h1, h2, h3, lim_eq]; omega) rfl rfl ?_; intro v6 w6 hA6 hB6 _ _; have HA6 := Lib.hid hA6; have HS6 := Lib.hid hB6; clear hA6 hB6))
        go_roundw
        case rel => exact ⟨i + 251, ds ++ c5, by go_num, by omega, Lib.hid (by have := HI.out; omega), HA6, HS6, Lib.hid (by have h1 := HL.out; have h2 := HC5.out; have h3 := hsl.out; have h4 := HI.out; rw [List.length_append, h1, h2, h3]; omega)⟩
        case measure => simp [Go.RowKit.intOf]; omega

    · have hd : decide ((i : Int) < (n : Int)) = false := decide_eq_false (by omega)
      go_wp2
      go_ret2
      refine ⟨_, ds, rfl, HA.out, ?_, HS.out⟩
      have h1 := HL.out
      have h2 := HI.out
      unfold cellsN
      omega
set_option maxRecDepth 100000 in
theorem rSealed_ {w : World} {M : Nat → Prop} {v : Value} {b : List UInt8} (h : Ty.bytes.rep w M [v] b) (hn : b.length ≤ 1048576) :
    Calls Tryz.prog 63 #[v] w fun e w' => e = .returned (.int .i64 ((8 + cellsN b.length : Nat) : Int)) ∧ Step w w' := by
  have H := Lib.hid h
  clear h
  go_enter Tryz.func63, Tryz.ntmps63
  go_wp2_with (go_at_call 84; refine (r3Seal_ (Ty.step _ H.out stp) hn).mono ?_; rintro e w1 ⟨v1, c1, rfl, hA1, hc1, hS1⟩; obtain ⟨a1, k1, rfl⟩ := hA1.val; have HS1 : Hid (Step w w1) := Lib.hid (Step.trans stp hS1); rw [hc1]; clear hA1 hS1)
  go_ret
  exact ⟨rfl, HS1.out.trans stp⟩
end Go.Proofs.YthebdlkmoailaaaGreatDoor

namespace Go.Proofs.YthebdlkmoailaaaGreatDoor
open Go.RowKit Go.Gr
set_option linter.unusedSimpArgs false
set_option linter.unusedVariables false
set_option maxRecDepth 100000 in
theorem rEnd_ {w : World} {f n c : Nat} {a : Option Addr} {sz : Int} (h : f + n < 18446744073709551616) (hn : n ≤ lim) :
    Calls Tryz.prog 61 #[.agg #[.int .u64 (f : Int), .slice a n c, .int .i64 sz]] w fun e w' => e = .returned (.int .u64 ((f + n : Nat) : Int)) ∧ Step w w' := by
  rw [lim_eq] at hn
  go_enter Tryz.func61, Tryz.ntmps61
  go_wp2
  go_ret
  exact ⟨by go_num, by (repeat (first | exact Step.refl _ | refine Step.alloc ?_ _ | refine Step.drew ?_ | refine Step.drewN ?_ _ | refine Step.setCell ?_ (by first | exact Nat.le_refl _ | assumption | omega | (simp; done) | (simp; omega)) _ | assumption | refine Step.trans ?_ (by assumption : Step _ _)))⟩
set_option maxRecDepth 100000 in
theorem rNext_ {w : World} {M : Nat → Prop} {fv : Value} {files : List RFile} {s : Nat} {cl : Bool} (h : (Ty.slice tRFile).rep w M [fv] files) :
    Calls Tryz.prog 29 #[.agg #[fv, .int .u64 (s : Int), .bool cl]] w fun e w' => e = .returned (.int .u64 (rNext files : Int)) ∧ Step w w' := by
  obtain ⟨a, c, rfl, _, _, hl⟩ := Ty.slice_val h
  rw [lim_eq] at hl
  rcases filesR_cases files with rfl | ⟨i, F, rfl⟩
  · clear h
    go_enter Tryz.func29, Tryz.ntmps29
    go_wp2
    go_ret
    exact ⟨rfl, by (repeat (first | exact Step.refl _ | refine Step.alloc ?_ _ | refine Step.drew ?_ | refine Step.drewN ?_ _ | refine Step.setCell ?_ (by first | exact Nat.le_refl _ | assumption | omega | (simp; done) | (simp; omega)) _ | assumption | refine Step.trans ?_ (by assumption : Step _ _)))⟩
  · obtain ⟨g, o, ra, rc, rfl, hg, q0, q1, q2, hb, hr, hs⟩ := tRFile.cells h (k := i.length) (by simp)
    rw [List.getElem_append_right (Nat.le_refl _)] at q0 q1 q2 hb hr hs
    simp only [Nat.sub_self, List.getElem_cons_zero] at q0 q1 q2 hb hr hs
    have hrl := Ty.slice_le hr
    have hE : rNext (i ++ [F]) = F.from_ + F.recs.length := by unfold rNext rEnd; rw [lastR_snoc]
    rw [hE]
    clear h hr hE
    simp only [List.length_append, List.length_singleton] at hl ⊢
    generalize i.length = n at *
    have hwn : IntKind.i64.wrap (n : Int) = (n : Int) := by rw [IntKind.wrap_i64]; omega
    have hnlt : (n : Int) < (n : Int) + 1 := by omega
    generalize F.recs.length = m at *
    generalize F.from_ = f at *
    go_enter Tryz.func29, Tryz.ntmps29
    go_wp2_with (go_at_call 61; refine (rEnd_ hb hrl).mono ?_; rintro e w1 ⟨rfl, hS1⟩)
    go_ret
    exact ⟨rfl, by (repeat (first | exact Step.refl _ | refine Step.alloc ?_ _ | refine Step.drew ?_ | refine Step.drewN ?_ _ | refine Step.setCell ?_ (by first | exact Nat.le_refl _ | assumption | omega | (simp; done) | (simp; omega)) _ | assumption | refine Step.trans ?_ (by assumption : Step _ _)))⟩
set_option maxRecDepth 100000 in
theorem rFirst_ {w : World} {M : Nat → Prop} {fv : Value} {files : List RFile} {s : Nat} {cl : Bool} (h : (Ty.slice tRFile).rep w M [fv] files) :
    Calls Tryz.prog 36 #[.agg #[fv, .int .u64 (s : Int), .bool cl]] w fun e w' => e = .returned (.int .u64 (rFirst files : Int)) ∧ Step w w' := by
  obtain ⟨a, c, rfl, _, _, hl⟩ := Ty.slice_val h
  rw [lim_eq] at hl
  rcases files with _ | ⟨F, fs⟩
  · clear h
    go_enter Tryz.func36, Tryz.ntmps36
    go_wp2
    go_ret
    exact ⟨rfl, by (repeat (first | exact Step.refl _ | refine Step.alloc ?_ _ | refine Step.drew ?_ | refine Step.drewN ?_ _ | refine Step.setCell ?_ (by first | exact Nat.le_refl _ | assumption | omega | (simp; done) | (simp; omega)) _ | assumption | refine Step.trans ?_ (by assumption : Step _ _)))⟩
  · obtain ⟨g, o, ra, rc, rfl, hg, q0, q1, q2, hb, hr, hs⟩ := tRFile.cells h (k := 0) (by simp)
    simp only [List.getElem_cons_zero, Nat.zero_mul, Nat.add_zero, List.length_cons] at q0 q1 q2 hl ⊢
    clear h hr hb hs q1 q2
    have hE : rFirst (F :: fs) = F.from_ := rfl
    rw [hE]
    clear hE
    generalize fs.length = n at *
    generalize F.from_ = f at *
    go_enter Tryz.func36, Tryz.ntmps36
    go_wp2
    go_ret
    exact ⟨rfl, by (repeat (first | exact Step.refl _ | refine Step.alloc ?_ _ | refine Step.drew ?_ | refine Step.drewN ?_ _ | refine Step.setCell ?_ (by first | exact Nat.le_refl _ | assumption | omega | (simp; done) | (simp; omega)) _ | assumption | refine Step.trans ?_ (by assumption : Step _ _)))⟩
set_option maxRecDepth 100000 in
theorem rClosed_ {w : World} {M : Nat → Prop} {fv : Value} {files : List RFile} {s : Nat} {cl : Bool} (h : (Ty.slice tRFile).rep w M [fv] files) :
    Calls Tryz.prog 67 #[.agg #[fv, .int .u64 (s : Int), .bool cl]] w fun e w' => e = .returned (.int .u64 (rClosed ⟨files, s, cl⟩ : Int)) ∧ Step w w' := by
  have HN : Hid (∀ W : World, Step w W → Calls Tryz.prog 29 #[.agg #[fv, .int .u64 (s : Int), .bool cl]] W fun e w' => e = .returned (.int .u64 (rNext files : Int)) ∧ Step W w') := Lib.hid (fun W hW => rNext_ (Ty.step _ h hW))
  obtain ⟨a, c, rfl, _, _, hl⟩ := Ty.slice_val h
  rw [lim_eq] at hl
  cases cl with
  | true =>
    have hE : rClosed ⟨files, s, true⟩ = rNext files := rfl
    rw [hE]
    clear h hE
    go_enter Tryz.func67, Tryz.ntmps67
    go_wp2_with (go_at_call 29; refine (HN.out _ stp).mono ?_; rintro e w1 ⟨rfl, hS1⟩; have HS1 : Hid (Step w w1) := Lib.hid (Step.trans stp hS1); clear hS1)
    go_ret
    exact ⟨rfl, HS1.out.trans stp⟩
  | false =>
    rcases filesR_cases files with rfl | ⟨i, F, rfl⟩
    · clear h
      go_enter Tryz.func67, Tryz.ntmps67
      go_wp2_with (go_at_call 29; refine (HN.out _ stp).mono ?_; rintro e w1 ⟨rfl, hS1⟩; have HS1 : Hid (Step w w1) := Lib.hid (Step.trans stp hS1); clear hS1)
      go_ret
      exact ⟨rfl, HS1.out.trans stp⟩
    · obtain ⟨g, o, ra, rc, rfl, hg, q0, q1, q2, hb, hr, hs⟩ := tRFile.cells h (k := i.length) (by simp)
      rw [List.getElem_append_right (Nat.le_refl _)] at q0
      simp only [Nat.sub_self, List.getElem_cons_zero] at q0
      have hE : rClosed ⟨i ++ [F], s, false⟩ = F.from_ := by unfold rClosed; rw [lastR_snoc]; simp
      rw [hE]
      clear h hr hE q1 q2 HN hb hs
      simp only [List.length_append, List.length_singleton] at hl ⊢
      generalize i.length = n at *
      have hwn : IntKind.i64.wrap (n : Int) = (n : Int) := by rw [IntKind.wrap_i64]; omega
      have hnlt : (n : Int) < (n : Int) + 1 := by omega
      generalize F.from_ = f at *
      go_enter Tryz.func67, Tryz.ntmps67
      go_wp2
      go_ret
      exact ⟨rfl, by (repeat (first | exact Step.refl _ | refine Step.alloc ?_ _ | refine Step.drew ?_ | refine Step.drewN ?_ _ | refine Step.setCell ?_ (by first | exact Nat.le_refl _ | assumption | omega | (simp; done) | (simp; omega)) _ | assumption | refine Step.trans ?_ (by assumption : Step _ _)))⟩
theorem rAll_take (fs : List RFile) {k : Nat} (h : k < fs.length) : rAll (fs.take (k + 1)) = rAll (fs.take k) ++ fs[k].recs := by
  unfold rAll
  rw [List.take_succ_eq_append_getElem h, List.map_append, List.flatten_append]
  simp
theorem rAll_le (fs : List RFile) (k : Nat) : (rAll (fs.take k)).length ≤ (rAll fs).length := by
  have h : rAll fs = rAll (fs.take k) ++ rAll (fs.drop k) := by
    unfold rAll
    rw [← List.flatten_append, ← List.map_append, List.take_append_drop]
  rw [h, List.length_append]
  omega
set_option maxRecDepth 100000 in
set_option maxHeartbeats 2000000 in
theorem rAll_ {w : World} {M : Nat → Prop} {fv : Value} {files : List RFile} {s : Nat} {cl : Bool} (h : (Ty.slice tRFile).rep w M [fv] files) (hle : (rAll files).length ≤ 1000000000) :
    Calls Tryz.prog 68 #[.agg #[fv, .int .u64 (s : Int), .bool cl]] w fun e w' => ∃ v, e = .returned v ∧ Gr.Own Ty.bytes 40 w' M w.heap.size v (rAll files) ∧ Step w w' := by
  obtain ⟨a, c, rfl, _, _, hl⟩ := Ty.slice_val h
  rw [lim_eq] at hl
  have H := Lib.hid h
  have HLE := Lib.hid hle
  clear h hle
  go_enter Tryz.func68, Tryz.ntmps68
  go_upto_region 1 with fail
  refine wp_codeN (fun wx => CellsAt wx w.heap.size #[.slice a files.length c, .int .u64 (s : Int), .bool cl] 55 ∧ Step w wx) ⟨CellsAt.new rfl, by (repeat (first | exact Step.refl _ | refine Step.alloc ?_ _ | refine Step.drew ?_ | refine Step.drewN ?_ _ | refine Step.setCell ?_ (by first | exact Nat.le_refl _ | assumption | omega | (simp; done) | (simp; omega)) _ | assumption | refine Step.trans ?_ (by assumption : Step _ _)))⟩ ?_
  rintro w1 ⟨hb1, hS1⟩
  obtain ⟨fb, hfb⟩ : ∃ fb, fb = w.heap.size := ⟨_, rfl⟩
  have hfw : w.heap.size ≤ fb := by omega
  rw [← hfb] at hb1 ⊢
  have HB1 := Lib.hid hb1
  have HS1 := Lib.hid hS1
  have HFB := Lib.hid hfb
  clear hb1 hS1 hfb
  go_wp2
  go_loopw [3, 4] (fun ov iv w' => ∃ k : Nat, iv = .int .i64 (k : Int) ∧ k ≤ files.length ∧ Hid (Gr.Own Ty.bytes 40 w' M w1.heap.size ov (rAll (files.take k))) ∧ Hid (CellsAt w' fb #[.slice a files.length c, .int .u64 (s : Int), .bool cl] 55) ∧ Hid (Step w1 w')) (fun _ iv _ => files.length - (Go.RowKit.intOf iv).toNat)
  case atStart => exact ⟨0, rfl, Nat.zero_le _, Lib.hid Gr.Own.nil, HB1, Lib.hid (Step.refl _)⟩
  case round =>
    obtain ⟨k, rfl, hk, HA, HB, HS⟩ := hrel
    have b0 : wr.cell? ⟨fb, 0, none⟩ = some (.slice a files.length c) := HB.out.cell 0
    have hfl := HB.out.lt
    by_cases hlt : k < files.length
    · have hd : decide ((k : Int) < (files.length : Int)) = true := decide_eq_true (by omega)
      obtain ⟨g9, o9, ra, rc, rfl, hg9, q0, q1, q2, _, hr, _⟩ := tRFile.cells H.out hlt
      have q1 := ((HS1.out.trans HS.out).cell hg9 _).trans q1
      have htk : Hid (rAll (files.take (k + 1)) = rAll (files.take k) ++ files[k].recs) := Lib.hid (rAll_take files hlt)
      have hlim : Hid ((rAll (files.take k)).length + files[k].recs.length ≤ lim) := Lib.hid (by have h1 := rAll_le files (k + 1); rw [htk.out, List.length_append] at h1; have := HLE.out; rw [lim_eq]; omega)
      have HR := Lib.hid hr
      have HLT : Hid (k + 1 ≤ files.length) := Lib.hid hlt
      clear hr q0 q2
      generalize files[k].recs = R at *
      go_wp2_with (at_builtin; refine wpList_append_acc (w0 := w1) (E := Ty.bytes) (ys := R) rfl (.tmp 12) (.tmp 18) rfl stList (HS.out.trans stp) (Gr.Own.step HA.out stp) (Src.later HR.out (HS1.out.trans (HS.out.trans stp)) (fun d hd hm => hm.elim id (fun hm => by have h1 := (HA.out.lt hm).1; have h2 := HS1.out.size; omega))) hlim.out rfl rfl ?_; intro v6 w6 hA6 hB6 hG6 _; have HA6 := Lib.hid hA6; have HS6 := Lib.hid hB6; have HB6 := Lib.hid (CellsAt.kept HB.out (hG6.block fb (by first | exact hfl | simpa using hfl) (fun e => by have h1 := (HA.out.lt e.symm).1; have h2 := HB1.out.lt; omega))); clear hA6 hB6 hG6)
      go_roundw
      case rel => exact ⟨k + 1, by go_num, HLT.out, by rw [htk.out]; exact HA6, HB6, HS6⟩
      case measure => simp [Go.RowKit.intOf]; omega
    · have hd : decide ((k : Int) < (files.length : Int)) = false := decide_eq_false (by omega)
      have hke : files.take k = files := List.take_of_length_le (by omega)
      rw [hke] at HA
      go_wp2
      go_ret
      exact ⟨_, rfl, Own.base HA.out HS1.out.size, HS1.out.trans HS.out⟩
end Go.Proofs.YthebdlkmoailaaaGreatDoor

namespace Go.Proofs.YthebdlkmoailaaaGreatDoor
open Go.RowKit Go.Gr
set_option linter.unusedSimpArgs false
set_option linter.unusedVariables false
theorem byte_1 {w : World} {M : Nat → Prop} {n : Nat} (h : 247 + n < 256) : Ty.byte.rep w M (grp (#[Value.int .u8 (247 + (n : Int))] : Array Value).toList Ty.byte.n 0) (UInt8.ofNat (247 + n)) := by
  have h2 := @byte_small w M (247 + n) h
  rw [show ((247 + n : Nat) : Int) = 247 + (n : Int) by simp] at h2
  exact h2
set_option maxRecDepth 100000 in
set_option maxHeartbeats 2000000 in
theorem rNumber_ {w : World} {n : Nat} (hn : n < 18446744073709551616) :
    Calls Tryz.prog 62 #[.int .u64 (n : Int)] w fun e w' => ∃ (v : Value) (ds : List UInt8), e = .returned v ∧ Gr.Own Ty.byte 5 w' (· < w.heap.size) w.heap.size v ds ∧ ds.length = (numB n).length ∧ Step w w' := by
  by_cases hs : n ≤ 247
  · have hd : decide ((n : Int) < 248) = true := decide_eq_true (by omega)
    have hl : (numB n).length = 1 := by unfold numB; rw [if_pos hs]; rfl
    rw [hl]
    go_enter Tryz.func62, Tryz.ntmps62
    go_wp2
    go_ret
    exact ⟨_, [UInt8.ofNat n], rfl, Own.lit (w := w) rfl (by rw [lim_eq]; simp) (Nat.le_refl _) rfl (fun i hi => by
      obtain rfl : i = 0 := by simpa using hi
      first | exact byte_of n | exact byte_small (by omega)), rfl, by (repeat (first | exact Step.refl _ | refine Step.alloc ?_ _ | refine Step.drew ?_ | refine Step.drewN ?_ _ | refine Step.setCell ?_ (by first | exact Nat.le_refl _ | assumption | omega | (simp; done) | (simp; omega)) _ | assumption | refine Step.trans ?_ (by assumption : Step _ _)))⟩
  · have hd : decide ((n : Int) < 248) = false := decide_eq_false (by omega)
    have hl : (numB n).length = 1 + (beB n).length := by unfold numB; rw [if_neg hs]; simp; omega
    have h8 := beB_len 8 n (by omega)
    rw [hl]
    go_enter Tryz.func62, Tryz.ntmps62
    go_wp2
    go_loopw [3, 4] (fun ov mv w' => ∃ (m : Nat) (ds : List UInt8), mv = .int .u64 (m : Int) ∧ Hid (ds.length + (beB m).length = (beB n).length) ∧ m < 18446744073709551616 ∧ Hid (Gr.Own Ty.byte 5 w' (· < w.heap.size) w.heap.size ov ds) ∧ Hid (Step w w')) (fun _ mv _ => (Go.RowKit.intOf mv).toNat)
    case atStart => exact ⟨n, [], rfl, Lib.hid (by simp), hn, Lib.hid Gr.Own.nil, Lib.hid (Step.refl _)⟩
    case round =>
      obtain ⟨m, ds, rfl, HL, hm, HA, HS⟩ := hrel
      obtain ⟨oa, on, oc, rfl, HON⟩ := HA.out.valN
      by_cases h0 : m = 0
      · subst h0
        have hd0 : Hid (ds.length = (beB n).length) := Lib.hid (by have := HL.out; rw [beB_zero] at this; simpa using this)
        have hon : on ≤ 8 := by have := hd0.out; have := HON.out; omega
        go_wp2_with (at_builtin; refine wpList_append_acc (w0 := w) (xs := [UInt8.ofNat (247 + on)]) (ys := ds) rfl (.tmp 24) (.tmp 25) rfl stBytes (HS.out.trans stp) (M := (· < w.heap.size)) (Own.base (Own.lit (w := wr) rfl (by rw [lim_eq]; simp) (Nat.le_refl _) rfl (fun i hi => (by (obtain rfl : i = 0 := by simpa using hi); exact byte_1 (n := on) (by have := hd0.out; have := HON.out; omega)))) HS.out.size) (Src.flat Ty.flat_byte (Own.rep' (HA.out.step stp) (fun c hc hm => by have := (HA.out.lt hc).1; omega))) (by have := hd0.out; rw [lim_eq]; simp only [List.length_cons, List.length_nil]; omega) rfl rfl ?_; intro v3 w3 hA3 hB3 _ _; have HA3 := Lib.hid hA3; clear hA3)
        go_ret
        exact ⟨_, _, rfl, HA3.out, by have := hd0.out; simp; omega, hB3⟩
      · have hd0 : decide ((0 : Int) < (m : Int)) = true := decide_eq_true (by omega)
        have hbp : Hid ((beB m).length = (beB (m / 256)).length + 1) := Lib.hid (by rw [beB_pos (by omega)]; simp)
        go_wp2_with (at_builtin; refine wpList_append_acc (w0 := w) (xs := [UInt8.ofNat m]) (ys := ds) rfl (.tmp 17) (.tmp 18) rfl stBytes (HS.out.trans stp) (M := (· < w.heap.size)) (Own.base (Own.lit (w := wr) rfl (by rw [lim_eq]; simp) (Nat.le_refl _) rfl (fun i hi => (by (obtain rfl : i = 0 := by simpa using hi); first | exact byte_of m | exact byte_small (by omega)))) HS.out.size) (Src.flat Ty.flat_byte (Own.rep' (HA.out.step stp) (fun c hc hm => by have := (HA.out.lt hc).1; omega))) (by have := HL.out; have := hbp.out; rw [lim_eq]; simp only [List.length_cons, List.length_nil]; omega) rfl rfl ?_; intro v3 w3 hA3 hB3 _ _; have HA3 := Lib.hid hA3; clear hA3)
        go_roundw
        case rel => exact ⟨m / 256, _, by simp, Lib.hid (by have := HL.out; have := hbp.out; simp; omega), by omega, HA3, Lib.hid hB3⟩
        case measure => simp [Go.RowKit.intOf]; omega
/-- What may be appended: a row without its first element. -/
theorem src_tail {α : Type} {E : Ty α} {w w2 : World} {M : Nat → Prop} {x : α} {xs : List α} {g o n c c' : Nat} (hn : n = xs.length) (h : (Ty.slice E).rep w M [.slice (some ⟨g, o, none⟩) (n + 1) c] (x :: xs)) (k : Step w w2) {M' : Nat → Prop} (hM : ∀ b, b < w.heap.size → M' b → M b) : Src E w2 M' (.slice (some ⟨g, o + E.n, none⟩) n c') xs := by
  subst hn
  refine ⟨_, _, rfl, fun _ => ⟨_, _, rfl, fun i hi => ?_⟩⟩
  obtain ⟨b, off, es, ha, hb, _, he, hc⟩ := Ty.slice_at h (show i + 1 < (x :: xs).length by simpa using hi)
  simp only [Option.some.injEq, Addr.mk.injEq, and_true] at ha
  obtain ⟨rfl, rfl⟩ := ha
  refine ⟨es, E.keep he (fun d h1 h2 => ⟨k.heap h1, fun h3 => h2 (hM d h1 h3)⟩), fun j u hu => ?_⟩
  have := (k.cell hb _).trans (hc j u hu)
  rwa [Nat.add_mul, Nat.one_mul, show o + (i * E.n + E.n) + j = o + E.n + i * E.n + j by omega] at this
theorem step_set3 {w w' : World} {b : Nat} {x y z : Value} (h : Step w w') (hb : w.heap.size ≤ b) : Step w (((w'.setCell ⟨b, 0, none⟩ x).setCell ⟨b, 1, none⟩ y).setCell ⟨b, 2, none⟩ z) := ((h.setCell (p := ⟨b, 0, none⟩) hb x).setCell (p := ⟨b, 1, none⟩) hb y).setCell (p := ⟨b, 2, none⟩) hb z
set_option maxRecDepth 100000 in
set_option maxHeartbeats 4000000 in
theorem rDrop_ {w : World} {M : Nat → Prop} {fv : Value} {files : List RFile} {s below : Nat} {cl : Bool} (h : (Ty.slice tRFile).rep w M [fv] files) (hM : ∀ c, M c → c < w.heap.size) (hb : below < 18446744073709551616) :
    Calls Tryz.prog 34 #[.agg #[fv, .int .u64 (s : Int), .bool cl], .int .u64 (below : Int)] w fun e w' => ∃ fv', e = .returned (.agg #[fv', .int .u64 (s : Int), .bool cl]) ∧ (Ty.slice tRFile).rep w' M [fv'] (rDrop below files) ∧ Step w w' := by
  have h0 : (Ty.slice tRFile).rep w (fun c => M c ∨ c = w.heap.size ∨ c = w.heap.size + 1) [fv] files := Ty.keep _ h (fun c hc hm => ⟨rfl, fun hx => hx.elim hm (fun hx => by omega)⟩)
  have H := Lib.hid h0
  have HM := Lib.hid hM
  obtain ⟨a, c, rfl, _, _, hl⟩ := Ty.slice_val h
  rw [lim_eq] at hl
  clear h h0 hM
  go_enter Tryz.func34, Tryz.ntmps34
  go_upto_block 0 with fail
  refine wp_codeN (fun wx => CellsAt wx w.heap.size #[.slice a files.length c, .int .u64 (s : Int), .bool cl] 55 ∧ CellsAt wx (w.heap.size + 1) #[.slice none 0 0, .int .u64 0, .bool false] 55 ∧ Step w wx) ⟨CellsAt.step (CellsAt.new rfl) ((Step.refl _).alloc _), CellsAt.new (by simp), by (repeat (first | exact Step.refl _ | refine Step.alloc ?_ _ | refine Step.drew ?_ | refine Step.drewN ?_ _ | refine Step.setCell ?_ (by first | exact Nat.le_refl _ | assumption | omega | (simp; done) | (simp; omega)) _ | assumption | refine Step.trans ?_ (by assumption : Step _ _)))⟩ ?_
  rintro w1 ⟨ht1, hr1, hS1⟩
  have HT := Lib.hid ht1
  have HR := Lib.hid hr1
  have HS1 := Lib.hid hS1
  clear ht1 hr1 hS1
  go_wp2
  go_loopw [5] (fun _ w' => ∃ (fs : List RFile) (fa : Option Addr) (fc : Nat), Hid (rDrop below files = rDrop below fs) ∧ Hid ((Ty.slice tRFile).rep w' (fun c => M c ∨ c = w.heap.size ∨ c = w.heap.size + 1) [.slice fa fs.length fc] fs) ∧ Hid (CellsAt w' w.heap.size #[.slice fa fs.length fc, .int .u64 (s : Int), .bool cl] 55) ∧ Hid (CellsAt w' (w.heap.size + 1) #[.slice none 0 0, .int .u64 0, .bool false] 55) ∧ Hid (Step w w')) (fun _ w' => match w'.cell? ⟨w.heap.size, 0, none⟩ with | some (.slice _ n _) => n | _ => 0)
  case atStart => exact ⟨files, a, c, Lib.hid rfl, Lib.hid (Ty.step _ H.out HS1.out), HT, HR, HS1⟩
  case round =>
    obtain ⟨fs, fa, fc, HE, HF, HT, HRB, HS⟩ := hrel
    have t0 : wr.cell? ⟨w.heap.size, 0, none⟩ = some (.slice fa fs.length fc) := HT.out.cell 0
    have t1 : wr.cell? ⟨w.heap.size, 1, none⟩ = some (.int .u64 (s : Int)) := HT.out.cell 1
    have t2 : wr.cell? ⟨w.heap.size, 2, none⟩ = some (.bool cl) := HT.out.cell 2
    have r0 : wr.cell? ⟨w.heap.size + 1, 0, none⟩ = some (.slice none 0 0) := HRB.out.cell 0
    have r1 : wr.cell? ⟨w.heap.size + 1, 1, none⟩ = some (.int .u64 0) := HRB.out.cell 1
    have r2 : wr.cell? ⟨w.heap.size + 1, 2, none⟩ = some (.bool false) := HRB.out.cell 2
    have fr : ∀ j, wr.frozen? ⟨w.heap.size + 1, j, none⟩ = false := HRB.out.frozen
    have ft : ∀ j, wr.frozen? ⟨w.heap.size, j, none⟩ = false := HT.out.frozen
    have HRF := Lib.hid (Step.refl wr)
    rcases fs with _ | ⟨F, _ | ⟨G, fs⟩⟩
    · have hdd : decide ((1 : Int) < 0) = false := by decide
      have HFEW : Hid (rDrop below [] = []) := Lib.hid rfl
      clear HT
      go_wp2_with (go_at_call 61; refine (rEnd_ hbd hrl).mono ?_; rintro e w2 ⟨rfl, hS2⟩; have HS2 : Hid (Step wr w2) := Lib.hid (Step.trans stp hS2); have u0 : ∀ j, w2.cell? ⟨w.heap.size, j, none⟩ = _ := fun j => HS2.out.cell htl j; have v0 : ∀ j, w2.cell? ⟨w.heap.size + 1, j, none⟩ = _ := fun j => HS2.out.cell hrbl j; have fr2 : ∀ j, w2.frozen? ⟨w.heap.size + 1, j, none⟩ = false := fun j => (HRB.out.step HS2.out).frozen j; have HRB2 := Lib.hid (HRB.out.step HS2.out); clear hS2)
      refine bodyPost_ret (results_cell_row Tryz.results34 _ _ (w.heap.size + 1) 55 #[_, .int .u64 (s : Int), .bool cl] (0, 0) _ rfl (CellsAt.set (CellsAt.set (CellsAt.set HRB.out 0 _) 1 _) 2 _) Tryz.underlying55 rfl (by kernel_rfl)) rfl ?_
      refine ⟨_, rfl, ?_, step_set3 (HS.out.trans HRF.out) (Nat.le_succ _)⟩
      rw [HE.out, HFEW.out]
      refine Ty.keep _ (Ty.step _ HF.out HRF.out) (fun c hc hm => ⟨?_, fun hx => hm (Or.inl hx)⟩)
      have hne : c ≠ w.heap.size + 1 := fun e => hm (Or.inr (Or.inr e))
      rw [heap_setCell_other _ _ _ _ hne, heap_setCell_other _ _ _ _ hne, heap_setCell_other _ _ _ _ hne]

    · have hdd : decide ((1 : Int) < 1) = false := by decide
      have HFEW : Hid (rDrop below [F] = [F]) := Lib.hid rfl
      clear HT
      go_wp2_with (go_at_call 61; refine (rEnd_ hbd hrl).mono ?_; rintro e w2 ⟨rfl, hS2⟩; have HS2 : Hid (Step wr w2) := Lib.hid (Step.trans stp hS2); have u0 : ∀ j, w2.cell? ⟨w.heap.size, j, none⟩ = _ := fun j => HS2.out.cell htl j; have v0 : ∀ j, w2.cell? ⟨w.heap.size + 1, j, none⟩ = _ := fun j => HS2.out.cell hrbl j; have fr2 : ∀ j, w2.frozen? ⟨w.heap.size + 1, j, none⟩ = false := fun j => (HRB.out.step HS2.out).frozen j; have HRB2 := Lib.hid (HRB.out.step HS2.out); clear hS2)
      refine bodyPost_ret (results_cell_row Tryz.results34 _ _ (w.heap.size + 1) 55 #[_, .int .u64 (s : Int), .bool cl] (0, 0) _ rfl (CellsAt.set (CellsAt.set (CellsAt.set HRB.out 0 _) 1 _) 2 _) Tryz.underlying55 rfl (by kernel_rfl)) rfl ?_
      refine ⟨_, rfl, ?_, step_set3 (HS.out.trans HRF.out) (Nat.le_succ _)⟩
      rw [HE.out, HFEW.out]
      refine Ty.keep _ (Ty.step _ HF.out HRF.out) (fun c hc hm => ⟨?_, fun hx => hm (Or.inl hx)⟩)
      have hne : c ≠ w.heap.size + 1 := fun e => hm (Or.inr (Or.inr e))
      rw [heap_setCell_other _ _ _ _ hne, heap_setCell_other _ _ _ _ hne, heap_setCell_other _ _ _ _ hne]

    · obtain ⟨g9, o9, ra, rc, rfl, hg9, q0, q1, q2, hbd, hr, _⟩ := tRFile.cells HF.out (k := 0) (by simp)
      simp only [List.getElem_cons_zero, Nat.zero_mul, Nat.add_zero, List.length_cons] at q0 q1 q2 hbd t0
      have hln := Ty.slice_le HF.out
      have hrl := Ty.slice_le hr
      simp only [List.getElem_cons_zero] at hrl
      rw [lim_eq] at hln
      simp only [List.length_cons] at hln
      have hst : rDrop below (F :: G :: fs) = if rEnd F ≤ below then rDrop below (G :: fs) else F :: G :: fs := rfl
      have hre : rEnd F = F.from_ + F.recs.length := rfl
      have HST := Lib.hid hst
      have HRE := Lib.hid hre
      have hd1 : decide ((1 : Int) < (fs.length : Int) + 1 + 1) = true := decide_eq_true (by omega)
      clear hst hre hr
      have htl := HT.out.lt
      have hrbl := HRB.out.lt
      have hfc : ¬ (fc = 1) := by
        obtain ⟨_, c', hv, hle, _⟩ := HF.out
        simp only [List.cons.injEq, Value.slice.injEq, and_true] at hv
        simp only [List.length_cons] at hle
        omega
      by_cases hle : F.from_ + F.recs.length ≤ below
      · have hd : decide (((F.from_ + F.recs.length : Nat) : Int) ≤ (below : Int)) = true := decide_eq_true (by omega)
        have hd2 : decide ((F.from_ : Int) + (F.recs.length : Int) ≤ (below : Int)) = true := decide_eq_true (by omega)
        have HN : Hid (rDrop below files = rDrop below (G :: fs)) := Lib.hid (by rw [HE.out, HST.out, HRE.out, if_pos hle])
        go_wp2_with (first
          | (go_at_call 61; refine (rEnd_ hbd hrl).mono ?_; rintro e w2 ⟨rfl, hS2⟩; have HS2 : Hid (Step wr w2) := Lib.hid (Step.trans stp hS2); have u0 : w2.cell? ⟨w.heap.size, 0, none⟩ = some (.slice (some ⟨g9, o9, none⟩) (fs.length + 1 + 1) fc) := (HS2.out.cell htl 0).trans t0; have u1 : ∀ o, (w2.alloc o).cell? ⟨w.heap.size, 0, none⟩ = some (.slice (some ⟨g9, o9, none⟩) (fs.length + 1 + 1) fc) := fun o => (Step.cell (Step.alloc (Step.refl _) o) (Nat.lt_of_lt_of_le htl HS2.out.size) 0).trans u0; have ft2 : ∀ j, w2.frozen? ⟨w.heap.size, j, none⟩ = false := fun j => (HT.out.step HS2.out).frozen j; clear hS2)
          | (at_builtin; refine wpList_append_acc (w0 := wr) (E := tRFile) (xs := []) (ys := G :: fs) rfl (.tmp 18) (.tmp 21) rfl stRFile (HS2.out.trans stp) (M := fun c => M c ∨ c = w.heap.size ∨ c = w.heap.size + 1) (Own.base (Own.lit (w := w2) rfl (by rw [lim_eq]; simp) (Nat.le_refl _) rfl (by simp)) HS2.out.size) (src_tail (by simp) HF.out (HS2.out.trans stp) (fun d hd hm => (by rcases hm with hm | hm; exact hm; (have h9 := HS2.out.size; simp [Value.ownBlock] at hm; omega)))) (by rw [lim_eq]; simp only [List.length_nil, List.length_cons]; omega) rfl rfl ?_; intro v3 w3 hA3 hB3 hG3 _; obtain ⟨a3, n3, c3, hv3, HN3⟩ := hA3.valN; subst hv3; have hn3 : n3 = fs.length + 1 := HN3.out; subst hn3; have HA3 := Lib.hid hA3; have HS3 := Lib.hid hB3; have u3 : w3.cell? ⟨w.heap.size, 0, none⟩ = some (.slice (some ⟨g9, o9, none⟩) (fs.length + 1 + 1) fc) := (HS3.out.cell htl 0).trans t0; have ft3 : ∀ j, w3.frozen? ⟨w.heap.size, j, none⟩ = false := fun j => (HT.out.step HS3.out).frozen j; clear hA3 hB3 hG3))
        go_roundw
        case rel =>
          have h3 : Step w w3 := HS.out.trans HS3.out
          have hk : ∀ d, d ≠ w.heap.size → (w3.setCell ⟨w.heap.size, 0, none⟩ (.slice a3 (fs.length + 1) c3)).heap[d]? = w3.heap[d]? := fun d hd => heap_setCell_other _ _ _ _ (by simpa using hd)
          have hF3 : (Ty.slice tRFile).rep w3 (fun c => M c ∨ c = w.heap.size ∨ c = w.heap.size + 1) [.slice a3 (fs.length + 1) c3] (G :: fs) := Own.rep' (Own.less HA3.out (fun c _ hc => hc)) (fun c hc hm => by
            have h1 := (HA3.out.lt hc).1
            rcases hm with hm | hm
            · have h2 := HM.out c hm
              have h4 := HS.out.size
              omega
            · omega)
          exact ⟨G :: fs, a3, c3, HN, Lib.hid (Ty.keep _ hF3 (fun c _ hm => ⟨hk c (fun e => hm (Or.inr (Or.inl e))), hm⟩)), Lib.hid (CellsAt.set (HT.out.step HS3.out) 0 _), Lib.hid (CellsAt.other (p := ⟨w.heap.size, 0, none⟩) (HRB.out.step HS3.out) (by show w.heap.size + 1 ≠ w.heap.size; omega) _), Lib.hid (h3.setCell (p := ⟨w.heap.size, 0, none⟩) (Nat.le_refl _) _)⟩
        case measure =>
          have e1 : (w3.setCell ⟨w.heap.size, 0, none⟩ (.slice a3 (fs.length + 1) c3)).cell? ⟨w.heap.size, 0, none⟩ = some (.slice a3 (fs.length + 1) c3) := (CellsAt.set (HT.out.step HS3.out) 0 _).cell 0
          rw [e1, t0]
          exact Nat.lt_succ_self _
      · have hd : decide (((F.from_ + F.recs.length : Nat) : Int) ≤ (below : Int)) = false := decide_eq_false (by omega)
        have hd2 : decide ((F.from_ : Int) + (F.recs.length : Int) ≤ (below : Int)) = false := decide_eq_false (by omega)
        have HFEW : Hid (rDrop below (F :: G :: fs) = F :: G :: fs) := Lib.hid (by rw [HST.out, HRE.out, if_neg hle])
        go_wp2_with (go_at_call 61; refine (rEnd_ hbd hrl).mono ?_; rintro e w2 ⟨rfl, hS2⟩; have HS2 : Hid (Step wr w2) := Lib.hid (Step.trans stp hS2); have u0 : ∀ j, w2.cell? ⟨w.heap.size, j, none⟩ = _ := fun j => HS2.out.cell htl j; have v0 : ∀ j, w2.cell? ⟨w.heap.size + 1, j, none⟩ = _ := fun j => HS2.out.cell hrbl j; have fr2 : ∀ j, w2.frozen? ⟨w.heap.size + 1, j, none⟩ = false := fun j => (HRB.out.step HS2.out).frozen j; have HRB2 := Lib.hid (HRB.out.step HS2.out); clear hS2)
        refine bodyPost_ret (results_cell_row Tryz.results34 _ _ (w.heap.size + 1) 55 #[_, .int .u64 (s : Int), .bool cl] (0, 0) _ rfl (CellsAt.set (CellsAt.set (CellsAt.set HRB2.out 0 _) 1 _) 2 _) Tryz.underlying55 rfl (by kernel_rfl)) rfl ?_
        refine ⟨_, rfl, ?_, step_set3 (HS.out.trans HS2.out) (Nat.le_succ _)⟩
        rw [HE.out, HFEW.out]
        refine Ty.keep _ (Ty.step _ HF.out HS2.out) (fun c hc hm => ⟨?_, fun hx => hm (Or.inl hx)⟩)
        have hne : c ≠ w.heap.size + 1 := fun e => hm (Or.inr (Or.inr e))
        rw [heap_setCell_other _ _ _ _ hne, heap_setCell_other _ _ _ _ hne, heap_setCell_other _ _ _ _ hne]

end Go.Proofs.YthebdlkmoailaaaGreatDoor
