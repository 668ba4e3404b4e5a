/-
  Walk: awake (a fixed fact).
-/
import Derived.Test.YthebdlkmoailaaaGreatDoorZP11
import Derived.Lib.SlBytesConst
set_option linter.unusedVariables false
set_option linter.unusedSimpArgs false
namespace Go.Proofs.YthebdlkmoailaaaGreatDoor
open Go.RowKit Go.Gr Go.Maps
open Go.Proofs (encStr)
set_option linter.unusedSimpArgs false
set_option linter.unusedVariables false
theorem bytes_lit {w : World} {e : TypeId} {z : Nat × Nat} {k : Nat} (hk : k = w.heap.size) {n : Int} (x : UInt8) (hn : n = (x.toNat : Int)) : Ty.bytes.rep (w.alloc (.cells #[.int .u8 n] e z)) (fun _ => False) [.slice (some ⟨k, 0, none⟩) 1 1] [x] := by
  subst hk hn
  refine ⟨_, 1, rfl, Nat.le_refl _, by simp [maxLen], by simp [lim_eq], fun _ => ⟨w.heap.size, 0, rfl, by simp, fun h => h, fun i hi => ⟨[.int .u8 (x.toNat : Int)], ?_, fun j u hu => ?_⟩⟩⟩
  · obtain rfl : i = 0 := by simpa using hi
    rfl
  · obtain rfl : i = 0 := by simpa using hi
    rw [cell_of_row _ _ _ _ _ z (heap_alloc_new w _)]
    rcases j with _ | j
    · simpa [Ty.byte] using hu
    · simp at hu
theorem list_lit2 {w : World} {e : TypeId} {k : Nat} {v1 v2 : Value} {x1 x2 : List UInt8} (hk : k = w.heap.size) (h1 : Ty.bytes.rep w (fun _ => False) [v1] x1) (h2 : Ty.bytes.rep w (fun _ => False) [v2] x2) : (Ty.slice Ty.bytes).rep (w.alloc (.cells #[v1, v2] e)) (fun _ => False) [.slice (some ⟨k, 0, none⟩) 2 2] [x1, x2] := by
  subst hk
  refine Gr.Own.rep' (e := e) (B := 0) (Gr.Own.lit (M := fun _ => False) rfl (by simp [lim_eq]) (Nat.zero_le _) rfl fun i hi => ?_) (fun _ _ h => h)
  rcases i with _ | _ | i
  · exact h1
  · exact h2
  · simp at hi
    omega
theorem list_lit1 {w : World} {e : TypeId} {k : Nat} {v1 : Value} {x1 : List UInt8} (hk : k = w.heap.size) (h1 : Ty.bytes.rep w (fun _ => False) [v1] x1) : (Ty.slice Ty.bytes).rep (w.alloc (.cells #[v1] e)) (fun _ => False) [.slice (some ⟨k, 0, none⟩) 1 1] [x1] := by
  subst hk
  refine Gr.Own.rep' (e := e) (B := 0) (Gr.Own.lit (M := fun _ => False) rfl (by simp [lim_eq]) (Nat.zero_le _) rfl fun i hi => ?_) (fun _ _ h => h)
  rcases i with _ | i
  · exact h1
  · simp at hi
set_option maxRecDepth 100000 in
set_option maxHeartbeats 4000000 in
theorem jAwake_ (w : World) : Calls Tryz.prog 10 #[] w fun e w' => e = .returned (.bool true) ∧ Step w w' := by
  have HOP : Hid (∀ (W : World) (b : Nat), DrAt W b (.map none) (.map none) (.slice none 0 0) (max 0 65536) false 0 false → Calls Tryz.prog 12 #[.pointer (some ⟨b, 0, none⟩), encStr [119, 46], .int .i64 1000] W fun e w' => ∃ l M', e = .returned (.tuple #[.pointer (some ⟨l, 0, none⟩), .int .i64 0]) ∧ Step W w' ∧ W.heap.size ≤ l ∧ Sess [119, 46] w' M' (fun _ => False) b l (DDr.new 65536) ⟨max 1 1000, [], true⟩ [] 0 ∧ (∀ c, c < W.heap.size → M' c → c = b)) := Lib.hid (fun W b hb => Sess.open0 hb (by omega) (by unfold I64; omega) (by simp))
  have HR1 : Hid (∀ r ∈ [([97] : List UInt8), [98]], r.length ≤ 600) := Lib.hid (by simp)
  have HR2 : Hid (∀ r ∈ [([99] : List UInt8)], r.length ≤ 600) := Lib.hid (by simp)
  have kc : ∀ (W : World) (C : Array Value) (n c k : Nat), k = W.heap.size → (convert 40 40 (.slice (some ⟨k, 0, none⟩) n c)).run Tryz.prog (W.alloc (.cells C 5)) = .ok (.slice (some ⟨k, 0, none⟩) n c) (W.alloc (.cells C 5 (C.size, C.size + 1))) := fun W C n c k hk => by rw [hk]; exact Lib.run_convert_bytes_const (P := Tryz.prog) W 40 5 C n c Tryz.underlying40 Tryz.underlying5
  go_enter Tryz.func10, Tryz.ntmps10
  go_upto_region 5 with (first
    | (go_at_call 11; refine (dNew_ _ 65536).mono ?_; rintro e w2 ⟨rfl, hb2, hS2⟩; have HB2 := Lib.hid hb2; have HS2 : Hid (Step w w2) := Lib.hid (Step.trans stp hS2); clear hb2 hS2)
    | (go_at_call 12; refine (HOP.out _ _ (CellsAt.step HB2.out stp)).mono ?_; rintro e w3 ⟨l, M3, rfl, hS3, hl3, hse, hM3⟩; have HS23 : Hid (Step w2 w3) := Lib.hid (Step.trans stp hS3); have HSE := Lib.hid hse; have HM3 := Lib.hid hM3; clear hS3 hse hM3))
  have HS3 : Hid (Step w w3) := Lib.hid (HS2.out.trans HS23.out)
  have HMF : Hid (∀ c, M3 c → w.heap.size ≤ c) := Lib.hid (fun c hc => by
    rcases Nat.lt_or_ge c w2.heap.size with h | h
    · have := HM3.out c h hc; omega
    · have := HS2.out.size; omega)
  have HAP1 : Hid (∀ (W : World) (rv : Value), Step w3 W → (Ty.slice Ty.bytes).rep W (fun _ => False) [rv] [[97], [98]] → Calls Tryz.prog 14 #[.pointer (some ⟨l, 0, none⟩), rv] W fun e w' => ∃ M4 D4 L4 rss4, e = .returned (.tuple #[.int .u64 0, .int .i64 0]) ∧ Sess [119, 46] w' M4 (fun _ => False) w.heap.size l D4 L4 rss4 1 ∧ Turn (fun c => M3 c ∧ ¬ False) W w' ∧ (∀ c, c < W.heap.size → M4 c → M3 c) ∧ usedB D4.seen ≤ 10000 ∧ D4.room = 65536 ∧ rss4.flatten = [[97], [98]]) := Lib.hid (fun W rv hW hrv => by
    have h1 := HSE.out.step hW
    have h2 := h1.small (recs := [[97], [98]]) (by omega) HR1.out (by simp)
    refine (Sess.appendOk h1 (by simp) (by omega) hrv (fun r hr => by have := HR1.out r hr; omega) (by simp) (by omega) (by show ((0 + _ : Nat) : Int) ≤ max 0 65536; omega)).mono ?_
    rintro e w' ⟨M4, D4, L4, rss4, he, h3, h4, h5, h6, h7, h8⟩
    have h9 : usedB (DDr.new 65536).seen = 0 := rfl
    exact ⟨M4, D4, L4, rss4, he, h3, h4, h5, by omega, by rw [h7]; rfl, by rw [h8]; rfl⟩)
  go_upto_region 6 with (go_at_call 14; refine (HAP1.out _ _ stp (list_lit2 (by simp) (Ty.step _ (bytes_lit rfl 97 rfl) stp) (bytes_lit (by simp) 98 rfl))).mono ?_; rintro e w4 ⟨M4, D4, L4, rss4, rfl, hse4, hT4, hle4, hu4, hro4, hr4⟩; have HS4 : Hid (Step w w4) := Lib.hid (Turn.step (HS3.out.trans stp) hT4 (fun c hc => HMF.out c hc.1)); have HMF4 : Hid (∀ c, M4 c → w.heap.size ≤ c) := Lib.hid (fun c hc => (Nat.lt_or_ge c _).elim (fun h => HMF.out c (hle4 c h hc)) (fun h => Nat.le_trans (Nat.le_trans HS3.out.size (Step.size stp)) h)); have HSF := Lib.hid hse4; have hu4' := hu4; have HRO4 := Lib.hid hro4; have HR4 := Lib.hid hr4; clear hse4 hT4 hle4 hu4 hro4 hr4)
  have HAP2 : Hid (∀ (W : World) (rv : Value), Step w4 W → (Ty.slice Ty.bytes).rep W (fun _ => False) [rv] [[99]] → Calls Tryz.prog 14 #[.pointer (some ⟨l, 0, none⟩), rv] W fun e w' => ∃ M5 D5 L5 rss5, e = .returned (.tuple #[.int .u64 2, .int .i64 0]) ∧ Sess [119, 46] w' M5 (fun _ => False) w.heap.size l D5 L5 rss5 2 ∧ Turn (fun c => M4 c ∧ ¬ False) W w' ∧ rss5.flatten = [[97], [98], [99]]) := Lib.hid (fun W rv hW hrv => by
    have h1 := HSF.out.step hW
    have h2 := h1.small (recs := [[99]]) (by omega) HR2.out (by simp)
    have h0 := HRO4.out
    refine (Sess.appendOk h1 (by simp) (by omega) hrv (fun r hr => by have := HR2.out r hr; omega) (by simp) (by omega) (by rw [h0]; omega)).mono ?_
    rintro e w' ⟨M5, D5, L5, rss5, he, h3, h4, h5, h6, h7, h8⟩
    rw [HR4.out] at he h8
    exact ⟨M5, D5, L5, rss5, he, h3, h4, h8⟩)
  go_upto_region 7 with (go_at_call 14; refine (HAP2.out _ _ stp (list_lit1 (by simp) (bytes_lit rfl 99 rfl))).mono ?_; rintro e w5 ⟨M5, D5, L5, rss5, rfl, hse5, hT5, hr5⟩; have HS5 : Hid (Step w w5) := Lib.hid (Turn.step (HS4.out.trans stp) hT5 (fun c hc => HMF4.out c hc.1)); have HSG := Lib.hid hse5; have HR5 := Lib.hid hr5; clear hse5 hT5 hr5)
  have HOP2 : Hid (∀ W : World, Step w5 W → Calls Tryz.prog 12 #[.pointer (some ⟨w.heap.size, 0, none⟩), encStr [119, 46], .int .i64 1000] W fun e w' => ∃ l2 M6, e = .returned (.tuple #[.pointer (some ⟨l2, 0, none⟩), .int .i64 0]) ∧ Step W w' ∧ Sess [119, 46] w' M6 (fun _ => False) w.heap.size l2 D5 ⟨max 1 1000, L5.files, true⟩ rss5 2) := Lib.hid (fun W hW => by
    obtain ⟨sf, sn, g, hD, hL, _⟩ := HSG.out.mem
    refine (Sess.open_ (hD.step hW) HSG.out.inv HSG.out.used HSG.out.room HSG.out.cnt HSG.out.files HSG.out.recs (by unfold I64; omega) (by simp) (by omega)).mono ?_
    rintro e w' ⟨l2, M6, he, h1, _, h2, _⟩
    exact ⟨l2, M6, he, h1, h2⟩)
  have hlen : rss5.flatten.length = 3 := by rw [HR5.out]; rfl
  go_wp2_with (first
    | (go_at_call 12; refine (HOP2.out _ stp).mono ?_; rintro e w6 ⟨l2, M6, rfl, hS6, hse6⟩; have HS6 : Hid (Step w w6) := Lib.hid (HS5.out.trans (Step.trans stp hS6)); have HNX := Lib.hid hse6.next; have HSH := Lib.hid hse6; clear hS6 hse6)
    | (go_at_call 17; refine (Calls.mono (show Calls Tryz.prog 17 #[.pointer (some ⟨l2, 0, none⟩)] _ _ from by have h := Sess.next (HSH.out.step stp); rw [hlen] at h; exact h) ?_); rintro e w7 ⟨rfl, hS7⟩; have HS7 : Hid (Step w w7) := Lib.hid (HS6.out.trans (Step.trans stp hS7)); clear hS7))
  go_ret
  exact ⟨rfl, HS7.out.trans stp⟩
end Go.Proofs.YthebdlkmoailaaaGreatDoor
