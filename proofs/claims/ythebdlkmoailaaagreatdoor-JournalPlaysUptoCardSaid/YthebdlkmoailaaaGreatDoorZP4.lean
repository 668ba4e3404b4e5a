/-
  Walks: a drive (New, may, there, Queue, Dead, Arm).
  Walks: a drive's files are looked up (there, Read, Size).
  Walk: how many bytes a drive's files have (Used).
-/
import Derived.Test.YthebdlkmoailaaaGreatDoorZCells
import Derived.Test.YthebdlkmoailaaaGreatDoorZW2
import Derived.Test.YthebdlkmoailaaaGreatDoorZRangeS
import Derived.Test.YthebdlkmoailaaaGreatDoorZConvB
set_option linter.unusedVariables false
set_option linter.unusedSimpArgs false
namespace Go.Proofs.YthebdlkmoailaaaGreatDoor
open Go.RowKit Go.Gr
set_option linter.unusedSimpArgs false
set_option linter.unusedVariables false
/-- A drive's cells. -/
abbrev drC (safe seen queue : Value) (room : Int) (armed : Bool) (left : Int) (dead : Bool) : Array Value := #[safe, seen, queue, .int .i64 room, .bool armed, .int .i64 left, .bool dead]
abbrev DrAt (w : World) (b : Nat) (safe seen queue : Value) (room : Int) (armed : Bool) (left : Int) (dead : Bool) : Prop := CellsAt w b (drC safe seen queue room armed left dead) 86
theorem dNew_ (w : World) (r : Int) : Calls Tryz.prog 11 #[.int .i64 r] w fun e w' => e = .returned (.pointer (some ⟨w.heap.size, 0, none⟩)) ∧ DrAt w' w.heap.size (.map none) (.map none) (.slice none 0 0) (max 0 r) false 0 false ∧ Step w w' := by
  rcases Int.lt_trichotomy 0 r with hr | rfl | hr
  · rw [Int.max_eq_right (by omega)]
    go_enter Tryz.func11, Tryz.ntmps11
    go_wp2
    go_ret
    exact ⟨rfl, CellsAt.new rfl, (Step.refl w).alloc _⟩
  · go_enter Tryz.func11, Tryz.ntmps11
    go_wp2
    all_goals go_ret
    all_goals exact ⟨rfl, CellsAt.new rfl, (Step.refl w).alloc _⟩
  · rw [Int.max_eq_left (by omega)]
    go_enter Tryz.func11, Tryz.ntmps11
    go_wp2
    go_ret
    exact ⟨rfl, CellsAt.new rfl, (Step.refl w).alloc _⟩
/-- What 'may' answers, and what becomes of left and dead. -/
def mayB (armed : Bool) (left : Int) (dead : Bool) (e : Int) : (Bool × Bool × Int) × Int × Bool :=
  if dead then ((false, false, 9), left, dead)
  else if e ≠ 0 then ((false, false, e), left, dead)
  else if armed then (if left = 0 then ((false, true, 9), left, true) else ((true, false, 0), left - 1, dead))
  else ((true, false, 0), left, dead)
theorem dMay_ {w : World} {b : Nat} {safe seen queue : Value} {room left e : Int} {armed dead : Bool} (h : DrAt w b safe seen queue room armed left dead) (hl : armed = true → 0 ≤ left) (hl2 : left ≤ 9223372036854775807) :
    Calls Tryz.prog 64 #[.pointer (some ⟨b, 0, none⟩), .int .i64 e] w fun x w' => x = .returned (.tuple #[.bool (mayB armed left dead e).1.1, .bool (mayB armed left dead e).1.2.1, .int .i64 (mayB armed left dead e).1.2.2]) ∧
      DrAt w' b safe seen queue room armed (mayB armed left dead e).2.1 (mayB armed left dead e).2.2 ∧ Turn (· = b) w w' := by
  have c4 : w.cell? ⟨b, 4, none⟩ = some (.bool armed) := h.cell 4
  have c5 : w.cell? ⟨b, 5, none⟩ = some (.int .i64 left) := h.cell 5
  have c6 : w.cell? ⟨b, 6, none⟩ = some (.bool dead) := h.cell 6
  have f5 : w.frozen? ⟨b, 5, none⟩ = false := h.frozen 5
  have f6 : w.frozen? ⟨b, 6, none⟩ = false := h.frozen 6
  have H := Lib.hid h
  obtain ⟨R, hR⟩ : ∃ R, mayB armed left dead e = R := ⟨_, rfl⟩
  rw [hR]
  have HR := Lib.hid hR
  clear h hR
  cases dead with
  | true =>
    go_enter Tryz.func64, Tryz.ntmps64
    go_wp2
    rw [← HR.out]
    go_ret3
    exact ⟨rfl, H.out, Turn.refl _ _⟩
  | false =>
    by_cases he : e = 0
    · have he0 : (e != 0) = false := by rw [he]; rfl
      cases armed with
      | true =>
        by_cases hz : left = 0
        · have hz0 : (left == 0) = true := by rw [hz]; rfl
          have hRe : mayB true left false e = ((false, true, 9), left, true) := by simp [mayB, he, hz]
          rw [hRe] at HR
          have HZ := Lib.hid hz
          have HE := Lib.hid he
          clear hz he hRe
          go_enter Tryz.func64, Tryz.ntmps64
          go_wp2
          rw [← HR.out]
          go_ret3
          exact ⟨rfl, CellsAt.set H.out 6 _, Turn.setCell (M := (· = b)) (Turn.refl _ _) (p := ⟨b, _, none⟩) (fun _ => rfl) _⟩
        · have hz0 : (left == 0) = false := beq_eq_false_iff_ne.2 hz
          have hRe : mayB true left false e = ((true, false, 0), left - 1, false) := by simp [mayB, he, hz]
          rw [hRe] at HR
          have HE := Lib.hid he
          have hl1 : 1 ≤ left := by have := hl rfl; omega
          clear hz he hRe
          go_enter Tryz.func64, Tryz.ntmps64
          go_wp2
          rw [← HR.out]
          go_ret3
          exact ⟨rfl, CellsAt.set H.out 5 _, Turn.setCell (M := (· = b)) (Turn.refl _ _) (p := ⟨b, _, none⟩) (fun _ => rfl) _⟩
      | false =>
        have hRe : mayB false left false e = ((true, false, 0), left, false) := by simp [mayB, he]
        rw [hRe] at HR
        have HE := Lib.hid he
        clear he hRe
        go_enter Tryz.func64, Tryz.ntmps64
        go_wp2
        rw [← HR.out]
        go_ret3
        exact ⟨rfl, H.out, Turn.refl _ _⟩
    · have he0 : (e != 0) = true := by rw [bne_iff_ne]; exact he
      have hRe : mayB armed left false e = ((false, false, e), left, false) := by simp [mayB, he]
      rw [hRe] at HR
      clear he hRe
      go_enter Tryz.func64, Tryz.ntmps64
      go_wp2
      rw [← HR.out]
      go_ret3
      exact ⟨rfl, H.out, Turn.refl _ _⟩
theorem dQueue_ {w : World} {b n c : Nat} {qa : Option Addr} {safe seen : Value} {room left : Int} {armed dead : Bool} (h : DrAt w b safe seen (.slice qa n c) room armed left dead) :
    Calls Tryz.prog 46 #[.pointer (some ⟨b, 0, none⟩)] w fun x w' => x = .returned (.int .i64 n) ∧ w' = w := by
  have c2 : w.cell? ⟨b, 2, none⟩ = some (.slice qa n c) := h.cell 2
  clear h
  go_enter Tryz.func46, Tryz.ntmps46
  go_wp2
  go_ret
  exact ⟨rfl, rfl⟩
theorem dDead_ {w : World} {b : Nat} {safe seen queue : Value} {room left : Int} {armed dead : Bool} (h : DrAt w b safe seen queue room armed left dead) :
    Calls Tryz.prog 45 #[.pointer (some ⟨b, 0, none⟩)] w fun x w' => x = .returned (.bool dead) ∧ w' = w := by
  have c6 : w.cell? ⟨b, 6, none⟩ = some (.bool dead) := h.cell 6
  clear h
  go_enter Tryz.func45, Tryz.ntmps45
  go_wp2
  go_ret
  exact ⟨rfl, rfl⟩
/-- A drive's files: none yet, or a map of names and bytes. -/
def FilesAt (w : World) (M : Nat → Prop) (v : Value) (fs : List DPair) : Prop := (v = .map none ∧ fs = []) ∨ ∃ mb, v = .map (some mb) ∧ M mb ∧ MapR Tryz.prog 9 DPair.key (fun w M v x => Ty.bytes.rep w M [v] x.value) w M mb fs
theorem keep_flR : KeepR (fun (w : World) (M : Nat → Prop) (v : Value) (x : DPair) => Ty.bytes.rep w M [v] x.value) := ⟨fun h hk => Ty.bytes.keep h hk⟩
end Go.Proofs.YthebdlkmoailaaaGreatDoor

namespace Go.Proofs.YthebdlkmoailaaaGreatDoor
open Go.RowKit Go.Gr Go.Maps
set_option linter.unusedSimpArgs false
set_option linter.unusedVariables false
abbrev flR : World → (Nat → Prop) → Value → DPair → Prop := fun w M v x => Ty.bytes.rep w M [v] x.value
/-- A file's bytes; none: nothing. -/
def dataB (fs : List DPair) (s : List UInt8) : List UInt8 := ((getK DPair.key fs s).map DPair.value).getD []
def thereB (fs : List DPair) (s : List UInt8) : Bool := (getK DPair.key fs s).isSome
theorem FilesAt.keep {w w' : World} {M M' : Nat → Prop} {v : Value} {fs : List DPair} (h : FilesAt w M v fs) (hb : ∀ mb, v = .map (some mb) → w'.heap[mb]? = w.heap[mb]? ∧ M' mb) (hk : ∀ c, c < w.heap.size → ¬ M c → w'.heap[c]? = w.heap[c]? ∧ ¬ M' c) : FilesAt w' M' v fs := by
  rcases h with h | ⟨mb, rfl, hM, hm⟩
  · exact .inl h
  · exact .inr ⟨mb, rfl, (hb mb rfl).2, hm.keep keep_flR (hb mb rfl).1 hk⟩
theorem FilesAt.step {w w' : World} {M : Nat → Prop} {v : Value} {fs : List DPair} (h : FilesAt w M v fs) (hs : Step w w') : FilesAt w' M v fs := by
  rcases h with h | ⟨mb, rfl, hM, hm⟩
  · exact .inl h
  · exact .inr ⟨mb, rfl, hM, hm.step keep_flR hs⟩
theorem FilesAt.val {w : World} {M : Nat → Prop} {v : Value} {fs : List DPair} (h : FilesAt w M v fs) : ∃ o, v = .map o := by
  rcases h with ⟨rfl, _⟩ | ⟨mb, rfl, _⟩
  · exact ⟨_, rfl⟩
  · exact ⟨_, rfl⟩
/-- A look-up among files. -/
theorem FilesAt.look {w : World} {M : Nat → Prop} {v : Value} {fs : List DPair} {s : List UInt8} (h : FilesAt w M v fs) (hs : s.length ≤ maxLen) :
    ∃ vv, Ty.bytes.rep w M [vv] (dataB fs s) ∧ ∀ W : World, (∀ mb, v = .map (some mb) → W.heap[mb]? = w.heap[mb]?) → ∀ c, (Instr.lookup 83 v (encStr s) c).run Tryz.prog W = .ok (if c then .tuple #[vv, .bool (thereB fs s)] else vv) W := by
  have hnil : Ty.bytes.rep w M [.slice none 0 0] [] := ⟨none, 0, rfl, Nat.le_refl _, Nat.zero_le _, by simp, fun h => absurd h (by simp)⟩
  rcases h with ⟨rfl, rfl⟩ | ⟨mb, rfl, hM, hm⟩
  · exact ⟨.slice none 0 0, hnil, fun W _ c => Maps.look_nil c (string_keyed Tryz.underlying9) Tryz.underlying83 (Tryz.zeroValue40 W) (keyOf_enc Tryz.underlying9 hs)⟩
  · obtain ⟨zs, h1, h2, rfl⟩ := hm
    have hg1 : getK DPair.key (zs.map (·.2)) s = (getK (fun z : Value × DPair => DPair.key z.2) zs s).map (·.2) := getK_map (fun _ => rfl) _ _
    have hg2 : getK Prod.fst (zs.map fun z => (DPair.key z.2, z.1)) s = (getK (fun z : Value × DPair => DPair.key z.2) zs s).map (fun z => (DPair.key z.2, z.1)) := getK_map (fun _ => rfl) _ _
    cases hg : getK (fun z : Value × DPair => DPair.key z.2) zs s with
    | none =>
      rw [hg] at hg1 hg2
      refine ⟨.slice none 0 0, by unfold dataB; rw [hg1]; exact hnil, fun W hb c => ?_⟩
      have hth : thereB (zs.map (·.2)) s = false := by unfold thereB; rw [hg1]; rfl
      rcases (h1.same (hb mb rfl)).look Tryz.underlying9 Tryz.underlying83 (Tryz.zeroValue40 W) hs c with ⟨_, hr⟩ | ⟨u, hu, _⟩
      · rw [hr, hth]
      · rw [hg2] at hu; cases hu
    | some z =>
      rw [hg] at hg1 hg2
      refine ⟨z.1, by unfold dataB; rw [hg1]; exact h2 z (getK_some hg).1, fun W hb c => ?_⟩
      have hth : thereB (zs.map (·.2)) s = true := by unfold thereB; rw [hg1]; rfl
      rcases (h1.same (hb mb rfl)).look Tryz.underlying9 Tryz.underlying83 (Tryz.zeroValue40 W) hs c with ⟨hn, _⟩ | ⟨u, hu, hr⟩
      · rw [hg2] at hn; cases hn
      · rw [hg2] at hu
        simp only [Option.map_some, Option.some.injEq, Prod.mk.injEq] at hu
        rw [hr, hth, hu.2]
/-- The error of a file that must be there. -/
def noneB (fs : List DPair) (s : List UInt8) : Int := if thereB fs s then 0 else 6
set_option maxRecDepth 100000 in
theorem dThere_ {w : World} {M : Nat → Prop} {b : Nat} {safe seen queue : Value} {room left : Int} {armed dead : Bool} {fs : List DPair} {s : List UInt8} (h : DrAt w b safe seen queue room armed left dead) (hf : FilesAt w M seen fs) (hs : s.length ≤ maxLen) :
    Calls Tryz.prog 57 #[.pointer (some ⟨b, 0, none⟩), encStr s] w fun x w' => x = .returned (.int .i64 (noneB fs s)) ∧ w' = w := by
  obtain ⟨o, rfl⟩ := hf.val
  have c1 : w.cell? ⟨b, 1, none⟩ = some (.map o) := h.cell 1
  obtain ⟨vv, _, hl⟩ := hf.look hs
  have hlk := hl w (fun _ _ => rfl) true
  simp only [if_true] at hlk
  unfold noneB
  clear hl h hf hs
  generalize thereB fs s = t at *
  cases t with
  | true =>
    go_enter Tryz.func57, Tryz.ntmps57
    go_wp2
    go_ret
    exact ⟨rfl, rfl⟩
  | false =>
    go_enter Tryz.func57, Tryz.ntmps57
    go_wp2
    go_ret
    exact ⟨rfl, rfl⟩
/-- What Read answers. -/
def ReadRet (w : World) (dead : Bool) (fs : List DPair) (s : List UInt8) (x : Ending) (w' : World) : Prop :=
  if dead then x = .returned (.tuple #[.slice none 0 0, .int .i64 9]) ∧ w' = w
  else if thereB fs s then ∃ v', x = .returned (.tuple #[v', .int .i64 0]) ∧ Gr.Own Ty.byte 5 w' (· < w.heap.size) w.heap.size v' (dataB fs s) ∧ Step w w'
  else x = .returned (.tuple #[.slice none 0 0, .int .i64 6]) ∧ w' = w
set_option maxRecDepth 100000 in
theorem dRead_ {w : World} {M : Nat → Prop} {b : Nat} {safe seen queue : Value} {room left : Int} {armed dead : Bool} {fs : List DPair} {s : List UInt8} (h : DrAt w b safe seen queue room armed left dead) (hf : FilesAt w M seen fs) (hs : s.length ≤ maxLen) :
    Calls Tryz.prog 25 #[.pointer (some ⟨b, 0, none⟩), encStr s] w (ReadRet w dead fs s) := by
  have HTH := Lib.hid (dThere_ h hf hs)
  obtain ⟨o, rfl⟩ := hf.val
  have c1 : w.cell? ⟨b, 1, none⟩ = some (.map o) := h.cell 1
  have c6 : w.cell? ⟨b, 6, none⟩ = some (.bool dead) := h.cell 6
  obtain ⟨vv, hv, hl⟩ := hf.look hs
  obtain ⟨va, vc, rfl, _⟩ := Ty.slice_val hv
  have hlk := hl w (fun _ _ => rfl) false
  simp only [Bool.false_eq_true, if_false] at hlk
  have HV := Lib.hid hv
  clear hl h hf hv hs
  unfold noneB at HTH
  cases dead with
  | true =>
    go_enter Tryz.func25, Tryz.ntmps25
    go_wp2
    go_ret2
    exact ⟨rfl, rfl⟩
  | false =>
    obtain ⟨t, ht⟩ : ∃ t, thereB fs s = t := ⟨_, rfl⟩
    rw [ht] at HTH
    have HT := Lib.hid ht
    clear ht
    cases t with
    | true =>
      go_enter Tryz.func25, Tryz.ntmps25
      go_wp2_with (first
        | (go_at_call 57; refine HTH.out.mono ?_; rintro e w1 ⟨rfl, rfl⟩)
        | (go_at_call 58; refine (Clone_ _ _ _ _ HV.out).mono ?_; rintro e w2 ⟨v2, rfl, hA2, hS2⟩; obtain ⟨a2, n2, c2, rfl, HN2⟩ := hA2.valN; have HA2 := Lib.hid hA2; clear hA2))
      go_ret2
      unfold ReadRet
      rw [if_neg (by simp), if_pos HT.out]
      exact ⟨_, rfl, HA2.out, hS2⟩
    | false =>
      go_enter Tryz.func25, Tryz.ntmps25
      go_wp2_with (go_at_call 57; refine HTH.out.mono ?_; rintro e w1 ⟨rfl, rfl⟩)
      go_ret2
      unfold ReadRet
      rw [if_neg (by simp), if_neg (by rw [HT.out]; simp)]
      exact ⟨rfl, rfl⟩
end Go.Proofs.YthebdlkmoailaaaGreatDoor

namespace Go.Proofs.YthebdlkmoailaaaGreatDoor
open Go.RowKit Go.Gr Go.Maps
set_option linter.unusedSimpArgs false
set_option linter.unusedVariables false
def usedB (fs : List DPair) : Nat := (fs.map fun p => p.value.length).sum
/-- Of those that don't come any more. -/
def usedL (left : List UInt8 → Bool) (fs : List DPair) : Nat := usedB (fs.filter fun p => !left p.key)
theorem usedL_start {left : List UInt8 → Bool} {fs : List DPair} (h : ∀ p ∈ fs, left p.key = true) : usedL left fs = 0 := by
  have : fs.filter (fun p => !left p.key) = [] := List.filter_eq_nil_iff.2 fun p hp => by simp [h p hp]
  unfold usedL
  rw [this]
  rfl
theorem usedL_end {left : List UInt8 → Bool} {fs : List DPair} (h : ∀ s, left s = false) : usedL left fs = usedB fs := by
  unfold usedL
  rw [List.filter_eq_self.2 fun p _ => by simp [h]]
theorem usedL_le {left : List UInt8 → Bool} : ∀ fs : List DPair, usedL left fs ≤ usedB fs
  | [] => Nat.le_refl _
  | p :: fs => by
    have ih := usedL_le (left := left) fs
    unfold usedL usedB at *
    rw [List.filter_cons]
    split
    · simp only [List.map_cons, List.sum_cons]; omega
    · simp only [List.map_cons, List.sum_cons]; omega
theorem usedL_off {left left' : List UInt8 → Bool} {x : DPair} (hl' : ∀ s, left' s = (left s && decide (s ≠ x.key))) {fs : List DPair} (h : ∀ p ∈ fs, p.key ≠ x.key) : usedL left' fs = usedL left fs := by
  unfold usedL
  congr 1
  refine List.filter_congr fun p hp => ?_
  rw [hl', decide_eq_true (h p hp), Bool.and_true]
theorem usedL_step {left left' : List UInt8 → Bool} {x : DPair} (hl' : ∀ s, left' s = (left s && decide (s ≠ x.key))) (h0 : left x.key = true) : ∀ {fs : List DPair}, Rising DPair.key fs → x ∈ fs → usedL left' fs = usedL left fs + x.value.length
  | [], _, hx => by simp at hx
  | p :: fs, hr, hx => by
    obtain ⟨hp, hr2⟩ := List.pairwise_cons.1 hr
    rcases List.mem_cons.1 hx with rfl | hx
    · have hoff := usedL_off (left := left) hl' (fs := fs) (fun q hq e => cmpB_ne (hp q hq) e.symm)
      have h1 : left' x.key = false := by rw [hl', h0]; simp
      unfold usedL usedB at *
      rw [List.filter_cons, List.filter_cons, if_pos (by simp [h1]), if_neg (by simp [h0]), List.map_cons, List.sum_cons, hoff]
      omega
    · have hne : p.key ≠ x.key := cmpB_ne (hp x hx)
      have ih := usedL_step hl' h0 hr2 hx
      have h1 : left' p.key = left p.key := by rw [hl', decide_eq_true hne, Bool.and_true]
      unfold usedL usedB at *
      rw [List.filter_cons, List.filter_cons, h1]
      split
      · simp only [List.map_cons, List.sum_cons]; omega
      · exact ih
set_option maxRecDepth 100000 in
set_option maxHeartbeats 1000000 in
theorem dUsed_ {w : World} {M : Nat → Prop} {b mb : Nat} {safe queue : Value} {room left : Int} {armed dead : Bool} {fs : List DPair} (h : DrAt w b safe (.map (some mb)) queue room armed left dead) (hf : MapR Tryz.prog 9 DPair.key flR w M mb fs) (hu : usedB fs ≤ 4611686018427387904) :
    Calls Tryz.prog 83 #[.pointer (some ⟨b, 0, none⟩)] w fun x w' => x = .returned (.int .i64 (usedB fs)) ∧ Step w w' := by
  have c1 : w.cell? ⟨b, 1, none⟩ = some (.map (some mb)) := h.cell 1
  have HM := Lib.hid hf
  have HRI := Lib.hid hf.rising
  obtain ⟨N, hN⟩ : ∃ N, usedB fs = N := ⟨_, rfl⟩
  rw [hN] at hu ⊢
  have HN := Lib.hid hN
  clear h hf hN
  go_enter Tryz.func83, Tryz.ntmps83
  go_wp2_with (at_range; refine wpList_range_R keep_flR rfl (.tmp 9) rfl Tryz.underlying9 Tryz.underlying83 rfl HM.out ?_; intro w6 lf hrg hall hS6 hz6; have HRG := Lib.hid hrg; have HALL := Lib.hid hall; have HS6 := Lib.hid hS6; clear hrg hall hS6)
  go_frame
  obtain ⟨rb, hrb⟩ : ∃ r, w.heap.size = r := ⟨_, rfl⟩
  rw [hrb] at HRG
  rw [hrb]
  have hz6' : rb < w6.heap.size := by omega
  go_loopw [3] (fun s w' => ∃ (lf : List UInt8 → Bool) (cnt n : Nat), s = .int .i64 n ∧ Hid (n = usedL lf fs) ∧ n ≤ N ∧ Hid (RangeR Tryz.prog 9 DPair.key flR w' (fun c => M c ∨ c = rb) mb rb fs lf cnt) ∧ Hid (Step w w')) (fun _ w' => w'.rangeLeft mb rb)
  case atStart => exact ⟨lf, _, 0, rfl, Lib.hid (usedL_start HALL.out).symm, Nat.zero_le _, HRG, HS6⟩
  case round =>
    obtain ⟨lf, cnt, n, rfl, hn, hnN, hrg, hS⟩ := hrel
    go_wp2_with (at_next; refine wpList_next_R keep_flR rfl (.tmp 10) rfl Tryz.underlying9 rfl hrg.out (.inr rfl) ?_ ?_)
    · intro hc0 hl0
      have he : Hid (n = N) := Lib.hid (by rw [hn.out, usedL_end hl0, HN.out])
      clear hc0 hl0
      go_wp2
      go_ret
      exact ⟨by rw [he.out]; rfl, hS.out⟩
    · intro x v w7 cnt7 hx hlx hv hrg7 hlt7 hg7 hs7 hen
      obtain ⟨va, vc, rfl, _, _, hvl⟩ := Ty.slice_val hv
      obtain ⟨lf', hlf⟩ : ∃ f : List UInt8 → Bool, f = fun s => lf s && decide (s ≠ x.key) := ⟨_, rfl⟩
      have hst := usedL_step (left' := lf') (fun s => by rw [hlf]) hlx HRI.out hx
      have hle := usedL_le (left := lf') fs
      rw [HN.out] at hle
      have hnx : n + x.value.length ≤ N := by have := hn.out; omega
      have HN7 : Hid (n + x.value.length = usedL lf' fs) := Lib.hid (by rw [hst, hn.out])
      have HRG7 := Lib.hid (hrg7.congr (left' := lf') (fun s => by rw [hlf]; simp))
      have HS7 : Hid (Step w w7) := Lib.hid (Below.grown hS.out hg7 hS.out.size (fun q e => by injection e with e; omega))
      have HEQ := Lib.hid hrg.out.left_eq
      clear hst hle hlx hx hv hrg7 hg7 hlf
      go_wp2
      go_roundw
      case rel => exact ⟨_, cnt7, n + x.value.length, by go_num, HN7, hnx, HRG7, HS7⟩
      case measure => rw [HRG7.out.left_eq, HEQ.out]; exact hlt7
end Go.Proofs.YthebdlkmoailaaaGreatDoor
