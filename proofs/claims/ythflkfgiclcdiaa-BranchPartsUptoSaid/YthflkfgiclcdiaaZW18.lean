/-
  Walks: a record of one shard as bytes (Rec.Bytes at the kind One).
-/
import Derived.Test.YthflkfgiclcdiaaZP8
import Derived.Test.YthflkfgiclcdiaaZP3
import Derived.Lib.OthersKept
set_option linter.unusedVariables false
set_option linter.unusedSimpArgs false
namespace Go.Proofs.Ythflkfgiclcdiaa
open Go.RowKit Go.Gr
set_option linter.unusedSimpArgs false
theorem recFields_one (w : World) : Calls Try.prog 110 #[.int .i64 4] w fun e w' => e = .returned (.string ⟨#[84, 87, 65]⟩) ∧ w' = w := by
  go_enter Try.func110, Try.ntmps110
  go_wp2
  go_ret
  exact ⟨rfl, rfl⟩
/-- A record of the kind One as bytes. -/
def oneParts (x : DTxn) (ws : List DWrite) (reply : List UInt8) : List (List UInt8) := [[4], numsB [x.boot, x.session, x.seq], joinB (triB ws), reply]
def oneB (x : DTxn) (ws : List DWrite) (reply : List UInt8) : List UInt8 := joinB (oneParts x ws reply)
theorem _root_.Go.Gr.Turn.iterAt {M : Nat → Prop} {w w' : World} (h : Turn M w w') {k : Nat} (hM : M k) (s : ByteArray) (pos : Nat) : Turn M w (w'.iterAt k s pos) :=
  ⟨h.os, h.tape, h.output, by rw [Lib.iterAt_size]; exact h.size, fun b h1 h2 => (Lib.iterAt_other w' k b s pos (fun e => h2 (e ▸ hM))).trans (h.block b h1 h2)⟩
def twa : ByteArray := ⟨#[84, 87, 65]⟩
def twaAt (j : Nat) : Int := if j = 0 then 84 else if j = 1 then 87 else 65
theorem next_twa {P : Program} (w : World) (k j : Nat) (ty : TypeId) (hk : w.heap[k]? = some (.stringIter twa j)) (hj : j < 3) :
    (Instr.next (.pointer (some ⟨k, 0, none⟩)) true ty).run P w = .ok (.tuple #[.bool true, .int .i64 j, .int .i32 (twaAt j)]) (w.iterAt k twa (j + 1)) := by
  have h1 : ∀ (j : Nat) (h : j < twa.size), (twa[j]'h).toNat < 128 ∧ ((twa[j]'h).toNat : Int) = twaAt j := by
    intro j h
    have : j = 0 ∨ j = 1 ∨ j = 2 := by
      have : j < 3 := h
      omega
    rcases this with rfl | rfl | rfl
    · exact ⟨(show (84 : UInt8).toNat < 128 by decide), rfl⟩
    · exact ⟨(show (87 : UInt8).toNat < 128 by decide), rfl⟩
    · exact ⟨(show (65 : UInt8).toNat < 128 by decide), rfl⟩
  have hz : j < twa.size := hj
  have h2 := h1 j hz
  rw [Lib.run_next_ascii_at w k twa j ty hk hz h2.1, h2.2]
theorem bytes_start (w : World) (cs : Array Value) (e1 e2 e3 : TypeId) :
    let W := (((w.alloc (.cells cs e1)).alloc (.cells #[.int .u8 4] e2)).alloc (.cells #[.slice (some ⟨w.heap.size + 1, 0, none⟩) 1 1] e3)).alloc (.stringIter twa 0)
    W.heap[w.heap.size + 1 + 1 + 1]? = some (.stringIter twa 0) ∧ W.heap[w.heap.size]? = some (.cells cs e1 (0, 0)) ∧
      Own Ty.bytes e3 W (· = w.heap.size + 1 + 1 + 1) (w.heap.size + 1) (.slice (some ⟨w.heap.size + 1 + 1, 0, none⟩) 1 1) [[4]] ∧ Step w W ∧ W.heap.size = w.heap.size + 1 + 1 + 1 + 1 := by
  have s1 : (w.alloc (.cells cs e1)).heap.size = w.heap.size + 1 := by simp
  have s2 : ((w.alloc (.cells cs e1)).alloc (.cells #[.int .u8 4] e2)).heap.size = w.heap.size + 1 + 1 := by simp
  have s3 : (((w.alloc (.cells cs e1)).alloc (.cells #[.int .u8 4] e2)).alloc (.cells #[.slice (some ⟨w.heap.size + 1, 0, none⟩) 1 1] e3)).heap.size = w.heap.size + 1 + 1 + 1 := by simp
  refine ⟨heap_alloc_at s3.symm, ?_, ?_, by (repeat (first | exact Step.refl _ | refine Step.alloc ?_ _ | refine Step.drew ?_ | refine Step.drewN ?_ _ | refine Step.setCell ?_ (by first | exact Nat.le_refl _ | assumption | omega | (simp; done) | (simp; omega)) _ | assumption | refine Step.trans ?_ (by assumption : Step _ _))), by simp⟩
  · rw [Below.heap_alloc _ _ _ (by omega), Below.heap_alloc _ _ _ (by omega), Below.heap_alloc _ _ _ (by omega)]
    exact heap_alloc_at rfl
  · have h1 : Own Ty.byte e2 ((w.alloc (.cells cs e1)).alloc (.cells #[.int .u8 4] e2)) (· = w.heap.size + 1 + 1 + 1) (w.heap.size + 1) (.slice (some ⟨w.heap.size + 1, 0, none⟩) 1 1) [4] := by
      have := Own.lit (E := Ty.byte) (e := e2) (w := w.alloc (.cells cs e1)) (M := (· = w.heap.size + 1 + 1 + 1)) (B := w.heap.size + 1) (cs := #[.int .u8 4]) (xs := [4]) (n := 1) rfl (by simp [lim]) (by omega) rfl (fun i hi => by obtain rfl : i = 0 := (by simpa using hi); rfl)
      rwa [s1] at this
    refine Own.alloc ?_ _
    have := Own.lit (E := Ty.bytes) (e := e3) (w := (w.alloc (.cells cs e1)).alloc (.cells #[.int .u8 4] e2)) (M := (· = w.heap.size + 1 + 1 + 1)) (B := w.heap.size + 1) (cs := #[.slice (some ⟨w.heap.size + 1, 0, none⟩) 1 1]) (xs := [[4]]) (n := 1) rfl (by simp [lim]) (by omega) rfl (fun i hi => by
      obtain rfl : i = 0 := (by simpa using hi)
      exact Own.rep' h1 (fun b hb hm => by
        have : w.heap.size + 1 = b := by simpa [Value.ownBlock] using hb
        omega))
    rwa [s2] at this
set_option maxRecDepth 100000 in
set_option maxHeartbeats 2000000 in
theorem recBytes_one {w : World} {M : Nat → Prop} {x : DTxn} {ws : List DWrite} {reply : List UInt8} {a4 a8 : Option Addr} {n4 n8 c4 c8 : Nat} (hx : x.boot < 18446744073709551616 ∧ x.session < 18446744073709551616 ∧ x.seq < 18446744073709551616)
    (h : (Ty.slice tWrite).rep w M [.slice a4 n4 c4] ws) (hr : Ty.bytes.rep w M [.slice a8 n8 c8] reply) (hl : (oneB x ws reply).length ≤ lim) :
    Calls Try.prog 84 #[.agg #[.int .i64 4, .int .u64 (x.boot : Int), .int .u64 (x.session : Int), .int .u64 (x.seq : Int), .slice a4 n4 c4, .slice none 0 0, .bool false, .slice none 0 0, .slice a8 n8 c8, .int .u64 0, .string ⟨#[]⟩]] w fun e w' =>
      ∃ v', e = .returned v' ∧ Own Ty.byte 5 w' (· < w.heap.size) w.heap.size v' (oneB x ws reply) ∧ Step w w' := by
  have H := Lib.hid h
  have HR := Lib.hid hr
  have HX := Lib.hid hx
  have HL := Lib.hid hl
  have HJ : Hid ((joinB (triB ws)).length ≤ lim) := Lib.hid (by
    have h1 : (oneB x ws reply).length ≤ lim := hl
    simp only [oneB, oneParts, joinB, textB, List.flatMap_cons, List.length_append] at h1 ⊢
    omega)
  clear h hr hx hl
  go_enter Try.func84, Try.ntmps84
  go_wp2_with (go_at_call 110; refine (recFields_one _).mono ?_; rintro e w1 ⟨rfl, rfl⟩)
  refine wp_code (fun wl => wl.heap[w.heap.size + 1 + 1 + 1]? = some (.stringIter twa 0) ∧
      wl.heap[w.heap.size]? = some (.cells #[.int .i64 4, .int .u64 (x.boot : Int), .int .u64 (x.session : Int), .int .u64 (x.seq : Int), .slice a4 n4 c4, .slice none 0 0, .bool false, .slice none 0 0, .slice a8 n8 c8, .int .u64 0, .string ⟨#[]⟩] 154 (0, 0)) ∧
      Own Ty.bytes 42 wl (· = w.heap.size + 1 + 1 + 1) (w.heap.size + 1) (.slice (some ⟨w.heap.size + 1 + 1, 0, none⟩) 1 1) [[4]] ∧ Step w wl ∧ wl.heap.size = w.heap.size + 1 + 1 + 1 + 1) (bytes_start w _ _ _ _) ?_
  obtain ⟨ib, hib⟩ : ∃ ib, ib = w.heap.size + 1 + 1 + 1 := ⟨_, rfl⟩
  rw [← hib]
  rintro wl ⟨hit, hbx, hA, hS, hz⟩
  have HIT := Lib.hid hit
  have HBX := Lib.hid hbx
  have HA := Lib.hid hA
  have hz1 : w.heap.size + 1 < ib := by omega
  have hz2 : ib < wl.heap.size := by omega
  have hz3 : wl.heap.size ≤ w.heap.size + 4 := by omega
  have hnb : Hid (∀ g, (Value.slice (some ⟨w.heap.size + 1 + 1, 0, none⟩) 1 1).ownBlock = some g → g ≠ ib) := Lib.hid (fun g hg => by
    have : w.heap.size + 1 + 1 = g := by simpa [Value.ownBlock] using hg
    omega)
  clear hit hbx hA hib hz
  go_loopw [3] (fun o w' => ∃ j : Nat, j ≤ 3 ∧ w'.heap[ib]? = some (.stringIter twa j) ∧ Own Ty.bytes 42 w' (· = ib) (w.heap.size + 1) o ((oneParts x ws reply).take (1 + j)) ∧ (∀ g, o.ownBlock = some g → g ≠ ib) ∧ Turn (w.heap.size < ·) wl w') (fun _ w' => 3 - w'.iterPos ib)
  case atStart => exact ⟨0, by omega, HIT.out, HA.out, hnb.out, Turn.refl _ _⟩
  case round =>
    obtain ⟨j, hj, hit, hA', hnb', hT⟩ := hrel
    have hp0 : wr.iterPos ib = j := by simp [World.iterPos, hit]
    have HP0 := Lib.hid hp0
    clear hp0
    by_cases hlt : j < 3
    · have hnx : ∀ ty, (Instr.next (.pointer (some ⟨ib, 0, none⟩)) true ty).run Try.prog wr = _ := fun ty => next_twa wr ib j ty hit hlt
      have hit2 := Lib.iterAt_heap wr ib twa j (j + 1) hit
      have hT2 := hT.iterAt (k := ib) (by omega) twa (j + 1)
      have hA2 := hA'.kept (w' := wr.iterAt ib twa (j + 1)) (fun b _ h => Lib.iterAt_other wr ib b twa (j + 1) h) (fun g hg => Lib.iterAt_other wr ib g twa (j + 1) (hnb' g hg))
      obtain ⟨W1, hW1⟩ : ∃ W1, W1 = wr.iterAt ib twa (j + 1) := ⟨_, rfl⟩
      rw [← hW1] at hnx hit2 hT2 hA2
      have hSW : Step w W1 := Turn.step hS hT2 (fun b hb => by omega)
      have hbx := (hT2.block w.heap.size (by omega) (by omega)).trans HBX.out
      have q0 : W1.cell? ⟨w.heap.size, 0, none⟩ = some (.int .i64 4) := cell_of_row W1 _ 0 _ _ (0, 0) hbx
      have q1 : W1.cell? ⟨w.heap.size, 1, none⟩ = some (.int .u64 (x.boot : Int)) := cell_of_row W1 _ 1 _ _ (0, 0) hbx
      have q2 : W1.cell? ⟨w.heap.size, 2, none⟩ = some (.int .u64 (x.session : Int)) := cell_of_row W1 _ 2 _ _ (0, 0) hbx
      have q3 : W1.cell? ⟨w.heap.size, 3, none⟩ = some (.int .u64 (x.seq : Int)) := cell_of_row W1 _ 3 _ _ (0, 0) hbx
      have q4 : W1.cell? ⟨w.heap.size, 4, none⟩ = some (.slice a4 n4 c4) := cell_of_row W1 _ 4 _ _ (0, 0) hbx
      have q5 : W1.cell? ⟨w.heap.size, 5, none⟩ = some (.slice none 0 0) := cell_of_row W1 _ 5 _ _ (0, 0) hbx
      have q6 : W1.cell? ⟨w.heap.size, 6, none⟩ = some (.bool false) := cell_of_row W1 _ 6 _ _ (0, 0) hbx
      have q7 : W1.cell? ⟨w.heap.size, 7, none⟩ = some (.slice none 0 0) := cell_of_row W1 _ 7 _ _ (0, 0) hbx
      have q8 : W1.cell? ⟨w.heap.size, 8, none⟩ = some (.slice a8 n8 c8) := cell_of_row W1 _ 8 _ _ (0, 0) hbx
      have q9 : W1.cell? ⟨w.heap.size, 9, none⟩ = some (.int .u64 0) := cell_of_row W1 _ 9 _ _ (0, 0) hbx
      have q10 : W1.cell? ⟨w.heap.size, 10, none⟩ = some (.string ⟨#[]⟩) := cell_of_row W1 _ 10 _ _ (0, 0) hbx
      have HA2 := Lib.hid hA2
      have HIT2 := Lib.hid hit2
      have HT2 := Lib.hid hT2
      have HNB := Lib.hid hnb'
      have hz4 := hT2.size
      have nE : Hid (∀ b, (b = ib ∨ u3.ownBlock = some b) → w.heap.size < b ∧ b < W1.heap.size) := Lib.hid (fun b h => by
        rcases h with h | h
        · omega
        · have := HA2.out.lt h
          omega)
      clear hW1 hit hA' hnb' hT hit2 hT2 hA2 hbx hj
      have hc3 : j = 0 ∨ j = 1 ∨ j = 2 := by omega
      clear hlt
      rcases hc3 with rfl | rfl | rfl
      · have e84 : twaAt 0 = 84 := rfl
        rw [e84] at hnx
        clear e84
        go_wp2_with (first
          | (go_at_call 112; refine (recPart_T HX.out).mono ?_; rintro e w2 ⟨v2, rfl, hA3, hS3⟩; obtain ⟨b2, m2, rfl⟩ := hA3.val; have z3 := hS3.size; have HA3 := Lib.hid hA3; clear hA3)
          | (at_builtin; refine wpList_append_gen (E := Ty.bytes) (B := w.heap.size + 1) (M := (· = ib)) (ys := [numsB [x.boot, x.session, x.seq]]) rfl (.tmp 18) (.tmp 22) rfl stList (Own.step HA2.out (by (repeat (first | exact Step.refl _ | refine Step.alloc ?_ _ | refine Step.drew ?_ | refine Step.drewN ?_ _ | refine Step.setCell ?_ (by first | exact Nat.le_refl _ | assumption | omega | (simp; done) | (simp; omega)) _ | assumption | refine Step.trans ?_ (by assumption : Step _ _))))) (Src.oneAt (E := Ty.bytes) (y := numsB [x.boot, x.session, x.seq]) (by simp) (Own.rep' (Own.flat Ty.flat_byte HA3.out) (fun b hb hm => by have h1 := (HA3.out.lt hb).1; have h2 := (nE.out b hm).2; omega))) (by rw [lim_eq]; simp [oneParts]) (by first | assumption | omega | (simp; done) | (simp; omega)) rfl rfl ?_; intro v4 w4 hA4 hG4 hn4; have hit4 := (hG4.block ib (by first | assumption | omega | (simp; done) | (simp; omega)) (fun e => HNB.out ib e.symm rfl)).trans ((Step.heap (by (repeat (first | exact Step.refl _ | refine Step.alloc ?_ _ | refine Step.drew ?_ | refine Step.drewN ?_ _ | refine Step.setCell ?_ (by first | exact Nat.le_refl _ | assumption | omega | (simp; done) | (simp; omega)) _ | assumption | refine Step.trans ?_ (by assumption : Step _ _))) : Step W1 _) (by first | assumption | omega | (simp; done) | (simp; omega))).trans HIT2.out); have hT4 := Turn.grown (HT2.out.then (by (repeat (first | exact Step.refl _ | refine Step.alloc ?_ _ | refine Step.drew ?_ | refine Step.drewN ?_ _ | refine Step.setCell ?_ (by first | exact Nat.le_refl _ | assumption | omega | (simp; done) | (simp; omega)) _ | assumption | refine Step.trans ?_ (by assumption : Step _ _))))) hG4 (fun k hk _ => (nE.out k (.inr hk)).1); have hnb4 : ∀ g, v4.ownBlock = some g → g ≠ ib := fun g hg e => hn4.elim (fun h => HNB.out g (h.symm.trans hg) e) (fun h => absurd (Option.some.inj (h.symm.trans hg)) (by first | assumption | omega | (simp; done) | (simp; omega))); have HA4 := Lib.hid hA4; have HIT4 := Lib.hid hit4; have HT4 := Lib.hid hT4; have HNB4 := Lib.hid hnb4; clear hA4 hG4 hit4 hT4 hnb4 hn4))
        go_roundw
        case rel => exact ⟨1, by omega, HIT4.out, by simpa [oneParts] using HA4.out, HNB4.out, HT4.out⟩
        case measure => (have h1 : w4.iterPos ib = 1 := by simp [World.iterPos, HIT4.out]); rw [h1, HP0.out]; omega
      · have e84 : twaAt 1 = 87 := rfl
        rw [e84] at hnx
        clear e84
        go_wp2_with (first
          | (go_at_call 112; refine (recPart_W (Ty.step _ H.out hSW) (HJ.out)).mono ?_; rintro e w2 ⟨v2, rfl, hA3, hS3⟩; obtain ⟨b2, m2, rfl⟩ := hA3.val; have z3 := hS3.size; have HA3 := Lib.hid hA3; clear hA3)
          | (at_builtin; refine wpList_append_gen (E := Ty.bytes) (B := w.heap.size + 1) (M := (· = ib)) (ys := [joinB (triB ws)]) rfl (.tmp 18) (.tmp 22) rfl stList (Own.step HA2.out (by (repeat (first | exact Step.refl _ | refine Step.alloc ?_ _ | refine Step.drew ?_ | refine Step.drewN ?_ _ | refine Step.setCell ?_ (by first | exact Nat.le_refl _ | assumption | omega | (simp; done) | (simp; omega)) _ | assumption | refine Step.trans ?_ (by assumption : Step _ _))))) (Src.oneAt (E := Ty.bytes) (y := joinB (triB ws)) (by simp) (Own.rep' (Own.flat Ty.flat_byte HA3.out) (fun b hb hm => by have h1 := (HA3.out.lt hb).1; have h2 := (nE.out b hm).2; omega))) (by rw [lim_eq]; simp [oneParts]) (by first | assumption | omega | (simp; done) | (simp; omega)) rfl rfl ?_; intro v4 w4 hA4 hG4 hn4; have hit4 := (hG4.block ib (by first | assumption | omega | (simp; done) | (simp; omega)) (fun e => HNB.out ib e.symm rfl)).trans ((Step.heap (by (repeat (first | exact Step.refl _ | refine Step.alloc ?_ _ | refine Step.drew ?_ | refine Step.drewN ?_ _ | refine Step.setCell ?_ (by first | exact Nat.le_refl _ | assumption | omega | (simp; done) | (simp; omega)) _ | assumption | refine Step.trans ?_ (by assumption : Step _ _))) : Step W1 _) (by first | assumption | omega | (simp; done) | (simp; omega))).trans HIT2.out); have hT4 := Turn.grown (HT2.out.then (by (repeat (first | exact Step.refl _ | refine Step.alloc ?_ _ | refine Step.drew ?_ | refine Step.drewN ?_ _ | refine Step.setCell ?_ (by first | exact Nat.le_refl _ | assumption | omega | (simp; done) | (simp; omega)) _ | assumption | refine Step.trans ?_ (by assumption : Step _ _))))) hG4 (fun k hk _ => (nE.out k (.inr hk)).1); have hnb4 : ∀ g, v4.ownBlock = some g → g ≠ ib := fun g hg e => hn4.elim (fun h => HNB.out g (h.symm.trans hg) e) (fun h => absurd (Option.some.inj (h.symm.trans hg)) (by first | assumption | omega | (simp; done) | (simp; omega))); have HA4 := Lib.hid hA4; have HIT4 := Lib.hid hit4; have HT4 := Lib.hid hT4; have HNB4 := Lib.hid hnb4; clear hA4 hG4 hit4 hT4 hnb4 hn4))
        go_roundw
        case rel => exact ⟨2, by omega, HIT4.out, by simpa [oneParts] using HA4.out, HNB4.out, HT4.out⟩
        case measure => (have h1 : w4.iterPos ib = 2 := by simp [World.iterPos, HIT4.out]); rw [h1, HP0.out]; omega
      · have e84 : twaAt 2 = 65 := rfl
        rw [e84] at hnx
        clear e84
        go_wp2_with (first
          | (go_at_call 112; refine (recPart_A).mono ?_; rintro e w2 ⟨rfl, hS3⟩; have z3 := hS3.size)
          | (at_builtin; refine wpList_append_gen (E := Ty.bytes) (B := w.heap.size + 1) (M := (· = ib)) (ys := [reply]) rfl (.tmp 18) (.tmp 22) rfl stList (Own.step HA2.out (by (repeat (first | exact Step.refl _ | refine Step.alloc ?_ _ | refine Step.drew ?_ | refine Step.drewN ?_ _ | refine Step.setCell ?_ (by first | exact Nat.le_refl _ | assumption | omega | (simp; done) | (simp; omega)) _ | assumption | refine Step.trans ?_ (by assumption : Step _ _))))) (Src.oneAt (E := Ty.bytes) (y := reply) (by simp) (Ty.step _ (Ty.less _ HR.out (fun b hb hm => by have h2 := (nE.out b hm).1; omega)) (by (repeat (first | exact Step.refl _ | refine Step.alloc ?_ _ | refine Step.drew ?_ | refine Step.drewN ?_ _ | refine Step.setCell ?_ (by first | exact Nat.le_refl _ | assumption | omega | (simp; done) | (simp; omega)) _ | assumption | refine Step.trans ?_ (by assumption : Step _ _)))))) (by rw [lim_eq]; simp [oneParts]) (by first | assumption | omega | (simp; done) | (simp; omega)) rfl rfl ?_; intro v4 w4 hA4 hG4 hn4; have hit4 := (hG4.block ib (by first | assumption | omega | (simp; done) | (simp; omega)) (fun e => HNB.out ib e.symm rfl)).trans ((Step.heap (by (repeat (first | exact Step.refl _ | refine Step.alloc ?_ _ | refine Step.drew ?_ | refine Step.drewN ?_ _ | refine Step.setCell ?_ (by first | exact Nat.le_refl _ | assumption | omega | (simp; done) | (simp; omega)) _ | assumption | refine Step.trans ?_ (by assumption : Step _ _))) : Step W1 _) (by first | assumption | omega | (simp; done) | (simp; omega))).trans HIT2.out); have hT4 := Turn.grown (HT2.out.then (by (repeat (first | exact Step.refl _ | refine Step.alloc ?_ _ | refine Step.drew ?_ | refine Step.drewN ?_ _ | refine Step.setCell ?_ (by first | exact Nat.le_refl _ | assumption | omega | (simp; done) | (simp; omega)) _ | assumption | refine Step.trans ?_ (by assumption : Step _ _))))) hG4 (fun k hk _ => (nE.out k (.inr hk)).1); have hnb4 : ∀ g, v4.ownBlock = some g → g ≠ ib := fun g hg e => hn4.elim (fun h => HNB.out g (h.symm.trans hg) e) (fun h => absurd (Option.some.inj (h.symm.trans hg)) (by first | assumption | omega | (simp; done) | (simp; omega))); have HA4 := Lib.hid hA4; have HIT4 := Lib.hid hit4; have HT4 := Lib.hid hT4; have HNB4 := Lib.hid hnb4; clear hA4 hG4 hit4 hT4 hnb4 hn4))
        go_roundw
        case rel => exact ⟨3, by omega, HIT4.out, by simpa [oneParts] using HA4.out, HNB4.out, HT4.out⟩
        case measure => (have h1 : w4.iterPos ib = 3 := by simp [World.iterPos, HIT4.out]); rw [h1, HP0.out]; omega
    · obtain rfl : j = 3 := by omega
      have hnx : ∀ ty, (Instr.next (.pointer (some ⟨ib, 0, none⟩)) true ty).run Try.prog wr = _ := fun ty => Lib.run_next_end_at wr ib twa 3 ty hit (by decide)
      have hSW : Step w wr := Turn.step hS hT (fun b hb => by omega)
      have HA1 : Hid (Own Ty.bytes 42 wr (· = ib) (w.heap.size + 1) u3 (oneParts x ws reply)) := Lib.hid (by simpa [oneParts] using hA')
      obtain ⟨a1, c1, rfl⟩ := HA1.out.val
      have HNB := Lib.hid hnb'
      have hsz := hSW.size
      clear hit hA' hnb' hT
      go_wp2_with (go_at_call 85; refine (pJoin_ (M := fun _ => False) (Own.rep' (HA1.out.less (fun _ _ h => h.elim)) (fun _ _ h => h)) HL.out).mono ?_; rintro e w2 ⟨v2, rfl, hA2, hS2⟩; have HA2 := Lib.hid hA2; clear hA2)
      go_ret
      exact ⟨_, rfl, (Own.base HA2.out hsz).less (fun b _ hb => Nat.lt_of_lt_of_le hb hsz), hSW.trans hS2⟩
end Go.Proofs.Ythflkfgiclcdiaa
