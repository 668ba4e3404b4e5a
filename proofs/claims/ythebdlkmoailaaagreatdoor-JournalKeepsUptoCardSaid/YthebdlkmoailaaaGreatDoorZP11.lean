/-
  Walk: Equals, at lists that read alike.
  Plain words: a new drive, and a journal upon it.
  A journal in order, with its memory: what an append makes of it.
  A journal in order, with its memory: opened, asked for its records.
-/
import Derived.Test.YthebdlkmoailaaaGreatDoorZP10
import Derived.Test.YthebdlkmoailaaaGreatDoorZWE
set_option linter.unusedVariables false
set_option linter.unusedSimpArgs false
namespace Go.Proofs.YthebdlkmoailaaaGreatDoor
open Go.RowKit Go.Gr
set_option linter.unusedSimpArgs false
set_option linter.unusedVariables false
set_option maxRecDepth 100000 in
set_option maxHeartbeats 4000000 in
theorem Equals_same {w : World} {M M2 : Nat → Prop} {v v2 : Value} {xs : List (List UInt8)} (h : (Ty.slice Ty.bytes).rep w M [v] xs) (h2 : (Ty.slice Ty.bytes).rep w M2 [v2] xs) :
    Calls Tryz.prog 18 #[v, v2] w fun e w' => e = .returned (.bool true) ∧ Step w w' := by
  obtain ⟨a, c, rfl, _, _, hl⟩ := Ty.slice_val h
  obtain ⟨a2, c2, rfl, _, _, _⟩ := Ty.slice_val h2
  rw [lim_eq] at hl
  have H := Lib.hid h
  have H2 := Lib.hid h2
  clear h h2
  have he : ((xs.length : Int) == (xs.length : Int)) = true := beq_self_eq_true _
  go_enter Tryz.func18, Tryz.ntmps18
  go_wp2
  go_loopw [5] (fun iv w' => ∃ k : Nat, iv = .int .i64 (k : Int) ∧ k ≤ xs.length ∧ Hid (Step w w')) (fun iv _ => xs.length - (Go.RowKit.intOf iv).toNat)
  case atStart => exact ⟨0, rfl, Nat.zero_le _, Lib.hid (Step.refl _)⟩
  case round =>
    obtain ⟨k, rfl, hk, HS⟩ := hrel
    by_cases hlt : k < xs.length
    · have hd : decide ((k : Int) < (xs.length : Int)) = true := decide_eq_true (by omega)
      obtain ⟨b1, o1, u1, rfl, hb1, _, hu1, hc1⟩ := Ty.slice_at1 rfl H.out hlt
      obtain ⟨b2, o2, u2, rfl, hb2, _, hu2, hc2⟩ := Ty.slice_at1 rfl H2.out hlt
      have hc1' : wr.cell? ⟨b1, o1 + k, none⟩ = some u1 := (HS.out.cell hb1 _).trans hc1
      have hc2' : wr.cell? ⟨b2, o2 + k, none⟩ = some u2 := (HS.out.cell hb2 _).trans hc2
      have hcu1 := Ty.step _ hu1 HS.out
      have hcu2 := Ty.step _ hu2 HS.out
      obtain ⟨va, vc, rfl, _, _, _⟩ := Ty.slice_val hu1
      obtain ⟨va2, vc2, rfl, _, _, _⟩ := Ty.slice_val hu2
      have HU1 := Lib.hid hcu1
      have HU2 := Lib.hid hcu2
      clear hc1 hc2 hu1 hu2 hcu1 hcu2
      generalize xs[k] = KK at *
      have HEQ : Hid (∀ W : World, Step wr W → Calls Tryz.prog 22 #[.slice va KK.length vc, .slice va2 KK.length vc2] W fun e w' => e = .returned (.bool true) ∧ ∃ n, w' = W.drewN n) := Lib.hid (fun W hW => by
        have h := Equal_ (Ty.step _ HU1.out hW) (Ty.step _ HU2.out hW)
        rw [decide_eq_true rfl] at h
        exact h)
      have HLT : Hid (k + 1 ≤ xs.length) := Lib.hid hlt
      generalize hkn : KK.length = n at *
      clear hkn HU1 HU2
      go_upto_region 6 with fail
      refine wp_region_held_drew (S := (fun w' => w'.cell? ⟨b1, o1 + k, none⟩ = some (.slice va n vc) ∧ w'.cell? ⟨b2, o2 + k, none⟩ = some (.slice va2 n vc2))) (by kernel_rfl) ?_ (fun hHeld => ?_)
      · (go_keep)
      refine wpAnyH_take (i := 0) (v := ?_) rfl (by kernel_rfl) (by kernel_rfl) (by kernel_rfl) (fun _ _ _ h => h) (Or.inl ⟨by rfl, ?_⟩) (by assumption) ?_
      rotate_left 1
      · (intro w hSw; (try dsimp only at hSw); go_simp; (try with_reducible rfl))
      try simp only [Act.put, List.getElem_toArray, List.getElem_cons_succ, List.getElem_cons_zero, List.setIfInBounds_toArray, List.set_cons_zero, List.set_cons_succ]
      refine wpAnyH_take (i := 1) (v := ?_) rfl (by kernel_rfl) (by kernel_rfl) (by kernel_rfl) (fun _ _ _ h => h) (Or.inl ⟨by rfl, ?_⟩) (by assumption) ?_
      rotate_left 1
      · (intro w hSw; (try dsimp only at hSw); go_simp; (try with_reducible rfl))
      try simp only [Act.put, List.getElem_toArray, List.getElem_cons_succ, List.getElem_cons_zero, List.setIfInBounds_toArray, List.set_cons_zero, List.set_cons_succ]
      refine wpAnyH_take (i := 2) (v := ?_) rfl (by kernel_rfl) (by kernel_rfl) (by kernel_rfl) (fun _ _ _ h => h) (Or.inl ⟨by rfl, ?_⟩) (by assumption) ?_
      rotate_left 1
      · (intro w hSw; (try dsimp only at hSw); go_simp; (try with_reducible rfl))
      try simp only [Act.put, List.getElem_toArray, List.getElem_cons_succ, List.getElem_cons_zero, List.setIfInBounds_toArray, List.set_cons_zero, List.set_cons_succ]
      refine wpAnyH_take (i := 3) (v := ?_) rfl (by kernel_rfl) (by kernel_rfl) (by kernel_rfl) (fun _ _ _ h => h) (Or.inl ⟨by rfl, ?_⟩) (by assumption) ?_
      rotate_left 1
      · (intro w hSw; (try dsimp only at hSw); go_simp; (try with_reducible rfl))
      try simp only [Act.put, List.getElem_toArray, List.getElem_cons_succ, List.getElem_cons_zero, List.setIfInBounds_toArray, List.set_cons_zero, List.set_cons_succ]
      refine wpAnyH_take (i := 4) (v := ?_) rfl (by kernel_rfl) (by kernel_rfl) (by kernel_rfl) (fun _ _ _ h => h) (Or.inl ⟨by rfl, ?_⟩) (by assumption) ?_
      rotate_left 1
      · (intro w hSw; (try dsimp only at hSw); go_simp; (try with_reducible rfl))
      try simp only [Act.put, List.getElem_toArray, List.getElem_cons_succ, List.getElem_cons_zero, List.setIfInBounds_toArray, List.set_cons_zero, List.set_cons_succ]
      refine wpAnyH_take (i := 5) (v := ?_) rfl (by kernel_rfl) (by kernel_rfl) (by kernel_rfl) (fun _ _ _ h => h) (Or.inl ⟨by rfl, ?_⟩) (by assumption) ?_
      rotate_left 1
      · (intro w hSw; (try dsimp only at hSw); go_simp; (try with_reducible rfl))
      try simp only [Act.put, List.getElem_toArray, List.getElem_cons_succ, List.getElem_cons_zero, List.setIfInBounds_toArray, List.set_cons_zero, List.set_cons_succ]
      refine wpAnyH_take (i := 6) (v := ?_) rfl (by kernel_rfl) (by kernel_rfl) (by kernel_rfl) (fun _ _ _ h => h) (Or.inl ⟨by rfl, ?_⟩) (by assumption) ?_
      rotate_left 1
      · (intro w hSw; (try dsimp only at hSw); go_simp; (try with_reducible rfl))
      try simp only [Act.put, List.getElem_toArray, List.getElem_cons_succ, List.getElem_cons_zero, List.setIfInBounds_toArray, List.set_cons_zero, List.set_cons_succ]
      refine wpAnyH_take (i := 7) (v := ?_) rfl (by kernel_rfl) (by kernel_rfl) (by kernel_rfl) (fun _ _ _ h => h) (Or.inl ⟨by rfl, ?_⟩) (by assumption) ?_
      rotate_left 1
      · (intro w hSw; (try dsimp only at hSw); go_simp; (try with_reducible rfl))
      try simp only [Act.put, List.getElem_toArray, List.getElem_cons_succ, List.getElem_cons_zero, List.setIfInBounds_toArray, List.set_cons_zero, List.set_cons_succ]
      refine wpAnyH_ready (rs := [8]) (by kernel_rfl) (by simp) ?_
      refine AllReadyH.cons rfl (fun K hK => ?_) AllReadyH.nil
      try simp only [List.getElem_toArray, List.getElem_cons_succ, List.getElem_cons_zero]
      go_simp
      (go_at_call 22; refine (HEQ.out _ (by (repeat (first | exact Step.refl _ | refine Step.alloc ?_ _ | refine Step.drew ?_ | refine Step.drewN ?_ _ | refine Step.setCell ?_ (by first | exact Nat.le_refl _ | assumption | omega | (simp; done) | (simp; omega)) _ | assumption | refine Step.trans ?_ (by assumption : Step _ _))))).mono ?_; rintro e w3 ⟨rfl, m3, rfl⟩)
      refine hK.out _ _ ?_ (fun hHeld => ?_)
      · (go_keep)
      clear hK K
      try simp only [Act.put, List.getElem_toArray, List.getElem_cons_succ, List.getElem_cons_zero, List.setIfInBounds_toArray, List.set_cons_zero, List.set_cons_succ]
      refine wpAnyH_take (i := 9) (v := ?_) rfl (by kernel_rfl) (by kernel_rfl) (by kernel_rfl) (fun _ _ _ h => h) (Or.inl ⟨by rfl, ?_⟩) (by assumption) ?_
      rotate_left 1
      · (intro w hSw; (try dsimp only at hSw); go_simp; (try with_reducible rfl))
      try simp only [Act.put, List.getElem_toArray, List.getElem_cons_succ, List.getElem_cons_zero, List.setIfInBounds_toArray, List.set_cons_zero, List.set_cons_succ]
      refine wpAnyH_done (by kernel_rfl) ?_ _
      go_wp2
      have HS3 : Hid (Step w wr) := HS
      go_roundw
      case rel => exact ⟨k + 1, by go_num, HLT.out, Lib.hid (HS.out.trans (by (repeat (first | exact Step.refl _ | refine Step.alloc ?_ _ | refine Step.drew ?_ | refine Step.drewN ?_ _ | refine Step.setCell ?_ (by first | exact Nat.le_refl _ | assumption | omega | (simp; done) | (simp; omega)) _ | assumption | refine Step.trans ?_ (by assumption : Step _ _)))))⟩
      case measure => simp [Go.RowKit.intOf]; omega
    · have hd : decide ((k : Int) < (xs.length : Int)) = false := decide_eq_false (by omega)
      go_wp2
      go_ret
      exact ⟨rfl, HS.out⟩
end Go.Proofs.YthebdlkmoailaaaGreatDoor

namespace Go.Proofs.YthebdlkmoailaaaGreatDoor
open Go.RowKit Go.Gr Go.Maps
set_option linter.unusedSimpArgs false
set_option linter.unusedVariables false
theorem DDr.new_wf (r : Int) : (DDr.new r).Wf := ⟨trivial, rfl, by simp [DDr.new], fun h => by simp [DDr.new] at h, by simp [DDr.new, I64]⟩
theorem DriveAt.new {w : World} {b : Nat} {r : Int} (h : DrAt w b (.map none) (.map none) (.slice none 0 0) (max 0 r) false 0 false) : DriveAt w (· = b) b none none (DDr.new r) := by
  have hlt := h.lt
  refine ⟨⟨.slice none 0 0, h, ⟨none, 0, rfl, Nat.le_refl _, by simp [maxLen], Nat.zero_le _, fun h => absurd h (by simp [DDr.new])⟩⟩, .inl ⟨rfl, rfl⟩, .inl ⟨rfl, rfl⟩, fun m hm => (by cases hm), fun c hc => ?_, fun c hc => ?_, DDr.new_wf r⟩
  · rcases hc with hc | hc | hc
    · exact hc
    · cases hc
    · cases hc
  · have e : c = b := hc
    rw [e]; exact hlt
theorem NamesIn.nil (pre : List UInt8) : NamesIn pre [] 0 0 := fun k => by
  simp only [List.map_nil, List.not_mem_nil, false_iff]
  rintro ⟨n, h1, h2, _⟩
  omega
theorem JInv.new (pre : List UInt8) (r mm : Int) : JInv pre (DDr.new r) ⟨mm, [], true⟩ 0 0 [] := ⟨rfl, rfl, trivial, NamesIn.nil pre, List.Pairwise.nil, fun _ => ⟨rfl, rfl⟩⟩
theorem rising_nodup {l : List DPair} (h : Rising DPair.key l) : (l.map DPair.key).Nodup := by
  rw [List.Nodup, List.pairwise_map]
  exact h.imp fun h => cmpB_ne h
/-- What a journal in order is opened as. -/
theorem JInv.good {pre : List UInt8} {D : DDr} {L : DLog} {s f : Nat} {rss : List (List (List UInt8))} (h : JInv pre D L s f rss) (hs : s + L.files.length < 100) (hf : f + rss.flatten.length < 18446744073709551616) (hu : usedB D.seen ≤ 68719476736) : ChainRoom s f L.files rss ∧ ∃ ns, JNames pre D.seen ns ∧ GoodFs pre D.seen ns L.files := by
  have hr : ChainRoom s f L.files rss := ⟨hs, hf, fun F hF => by
    obtain ⟨_, _, _, _, _, _, h6⟩ := h.chain.mem hF
    have h7 := dataB_le h.rising (nameB pre F.serial)
    rw [h6.data] at h7
    rw [h6.size]
    omega⟩
  exact ⟨hr, h.chain.good hr (rising_nodup h.rising) h.names⟩
theorem firstL_le {pre : List UInt8} {seen : List DPair} {s f : Nat} {fs : List DFile} {rss : List (List (List UInt8))} (h : ChainJ pre seen s f fs rss) (h0 : fs = [] → s = 0 ∧ f = 0) : firstL fs = f := by
  rcases fs with _ | ⟨F, fs⟩
  · exact (h0 rfl).2.symm
  · rcases rss with _ | ⟨rs, rss⟩
    · exact h.elim
    · exact h.1.from_
end Go.Proofs.YthebdlkmoailaaaGreatDoor

namespace Go.Proofs.YthebdlkmoailaaaGreatDoor
open Go.RowKit Go.Gr Go.Maps
set_option linter.unusedSimpArgs false
set_option linter.unusedVariables false
theorem sealsB_small : ∀ (rs : List (List UInt8)), (∀ r ∈ rs, r.length ≤ 600) → (sealsB rs).length ≤ rs.length * 620
  | [], _ => by simp [sealsB]
  | r :: rs, h => by
    have h1 := sealsB_small rs (fun x hx => h x (List.mem_cons_of_mem _ hx))
    have h2 := h r List.mem_cons_self
    rw [sealsB_cons, List.length_append, sealB_len, List.length_cons]
    omega
theorem dataL_small {L : DLog} {recs : List (List UInt8)} (h : ∀ r ∈ recs, r.length ≤ 600) (hc : recs.length ≤ 10) (h1 : (openF L).serial < 18446744073709551616) (h2 : (lastF L.files).to_ < 18446744073709551616) : (dataL L recs).length ≤ 10000 := by
  have h3 := sealsB_small recs h
  unfold dataL headL
  rw [List.length_append]
  split
  · unfold headB
    rw [sealB_len]
    have := numsB2_len h1 h2
    omega
  · simp only [List.length_nil]
    omega
/-- An append is refused for want of room. -/
def fullJ (pre : List UInt8) (D : DDr) (L : DLog) (recs : List (List UInt8)) : Prop := recs ≠ [] ∧ appendJ pre D L recs = ((D, L), 0, 8)
/-- A journal in order upon a small drive, after at most q appends. Z: blocks that others turn. -/
structure Sess (pre : List UInt8) (w : World) (M Z : Nat → Prop) (b l : Nat) (D : DDr) (L : DLog) (rss : List (List (List UInt8))) (q : Nat) : Prop where
  mem : ∃ sf sn g, DriveAt w M b sf sn D ∧ LogAt w M l b g pre L ∧ ∀ c, Z c → M c ∧ ¬ JM b sf sn l g c
  inv : JInv pre D L 0 0 rss
  used : (usedB D.seen : Int) ≤ D.room
  room : D.room ≤ 1048576
  cnt : D.safe.length + D.queue.length ≤ q
  files : L.files.length ≤ q
  recs : rss.flatten.length ≤ q * 10
theorem JM_lt {w : World} {M : Nat → Prop} {b l : Nat} {sf sn g : Option Nat} {pre : List UInt8} {D : DDr} {L : DLog} (hD : DriveAt w M b sf sn D) (hL : LogAt w M l b g pre L) {c : Nat} (h : JM b sf sn l g c) : c < w.heap.size := by
  obtain ⟨fv, h1, h2, h3⟩ := hL.row
  rcases h with h | rfl | h
  · exact hD.lt h
  · exact h1.lt
  · exact h2.lt (h3.trans h)
theorem JM_own {w : World} {M : Nat → Prop} {b l : Nat} {sf sn g : Option Nat} {pre : List UInt8} {D : DDr} {L : DLog} (hD : DriveAt w M b sf sn D) (hL : LogAt w M l b g pre L) {c : Nat} (h : JM b sf sn l g c) : M c := by
  rcases h with h | rfl | h
  · exact hD.own c h
  · exact hL.own
  · exact (hL.gown c h).1
/-- A journal beside what others turn. -/
theorem JM_keep {w w' : World} {M Z Z' : Nat → Prop} {b l : Nat} {sf sn g : Option Nat} {pre : List UInt8} {D : DDr} {L : DLog} (hD : DriveAt w M b sf sn D) (hL : LogAt w M l b g pre L) (hZ : ∀ c, Z c → M c ∧ ¬ JM b sf sn l g c) (hk : Kept Z w w') (hs : w.heap.size ≤ w'.heap.size) (hZ' : ∀ c, Z' c → Z c ∨ w.heap.size ≤ c ∧ c < w'.heap.size) :
    DriveAt w' (fun c => M c ∨ Z' c) b sf sn D ∧ LogAt w' (fun c => M c ∨ Z' c) l b g pre L ∧ ∀ c, Z' c → (M c ∨ Z' c) ∧ ¬ JM b sf sn l g c := by
  have hkj : ∀ c, JM b sf sn l g c → w'.heap[c]? = w.heap[c]? := fun c hc => hk c (JM_lt hD hL hc) (fun hz => (hZ c hz).2 hc)
  refine ⟨hD.keep (fun c hc => ⟨hkj c (.inl hc), .inl (hD.own c hc)⟩) (fun c hc hn => ⟨hk c hc (fun hz => hn (hZ c hz).1), fun hx => ?_⟩) (fun c hc => ?_), ?_, fun c hc => ⟨.inr hc, fun hj => ?_⟩⟩
  · rcases hx with hx | hx
    · exact hn hx
    · rcases hZ' c hx with h | h
      · exact hn (hZ c h).1
      · omega
  · rcases hc with hc | hc
    · have := hD.old c hc; omega
    · rcases hZ' c hc with h | h
      · have := hD.old c (hZ c h).1; omega
      · exact h.2
  · obtain ⟨fv, h1, h2, h3⟩ := hL.row
    exact ⟨⟨fv, h1.kept (hkj l (.inr (.inl rfl))), h2.kept (fun c hc => hkj c (.inr (.inr (h3.symm.trans hc)))), h3⟩, .inl hL.own, fun c hc => ⟨.inl (hL.gown c hc).1, (hL.gown c hc).2⟩, hL.ne, hL.most⟩
  · rcases hZ' c hc with h | h
    · exact (hZ c h).2 hj
    · have := JM_lt hD hL hj; omega
theorem Sess.turnZ {pre : List UInt8} {w w' : World} {M Z Z' : Nat → Prop} {b l q : Nat} {D : DDr} {L : DLog} {rss : List (List (List UInt8))} (h : Sess pre w M Z b l D L rss q) (hk : Kept Z w w') (hs : w.heap.size ≤ w'.heap.size) (hZ' : ∀ c, Z' c → Z c ∨ w.heap.size ≤ c ∧ c < w'.heap.size) : Sess pre w' (fun c => M c ∨ Z' c) Z' b l D L rss q := by
  obtain ⟨sf, sn, g, hD, hL, hZ⟩ := h.mem
  exact ⟨⟨sf, sn, g, JM_keep hD hL hZ hk hs hZ'⟩, h.inv, h.used, h.room, h.cnt, h.files, h.recs⟩
theorem Sess.old {pre : List UInt8} {w : World} {M Z : Nat → Prop} {b l q : Nat} {D : DDr} {L : DLog} {rss : List (List (List UInt8))} (h : Sess pre w M Z b l D L rss q) : (∀ c, M c → c < w.heap.size) ∧ ∀ c, Z c → M c := by
  obtain ⟨sf, sn, g, hD, hL, hZ⟩ := h.mem
  exact ⟨hD.old, fun c hc => (hZ c hc).1⟩
theorem Sess.appendG {pre : List UInt8} {w : World} {M Z M2 : Nat → Prop} {b l q : Nat} {D : DDr} {L : DLog} {rss : List (List (List UInt8))} {rv : Value} {recs : List (List UInt8)} (h : Sess pre w M Z b l D L rss q) (hp : pre.length ≤ 998) (hq : q < 90) (hrep : (Ty.slice Ty.bytes).rep w M2 [rv] recs) (hr : ∀ r ∈ recs, r.length ≤ 1048576) (hc : recs.length ≤ 10) (hdl : (dataL L recs).length ≤ 1000000) :
    Calls Tryz.prog 14 #[.pointer (some ⟨l, 0, none⟩), rv] w fun e w' => ∃ M' D' L' rss', Sess pre w' M' Z b l D' L' rss' (q + 1) ∧ Turn (fun c => M c ∧ ¬ Z c) w w' ∧ (∀ c, M c → M' c) ∧ (∀ c, c < w.heap.size → M' c → M c) ∧
      usedB D'.seen ≤ usedB D.seen + (dataL L recs).length ∧ D'.room = D.room ∧ ((¬ fullJ pre D L recs ∧ e = .returned (.tuple #[.int .u64 (rss.flatten.length : Int), .int .i64 0]) ∧ rss'.flatten = rss.flatten ++ recs) ∨ (fullJ pre D L recs ∧ e = .returned (.tuple #[.int .u64 0, .int .i64 8]) ∧ rss' = rss)) := by
  obtain ⟨sf, sn, g, hD, hL, hZ⟩ := h.mem
  obtain ⟨hl1, hl2⟩ := h.inv.chain.last h.inv.start
  have hf := h.files
  have hcnt := h.cnt
  have hrc := h.recs
  have hro := h.room
  have hus := h.used
  have hRJ : RoomJ pre D L recs := h.inv.roomJ hp (by omega) hus (by omega) (by omega) (by omega) (by omega) (by omega)
  refine (jAppend_ hD hL hrep hRJ).mono ?_
  rintro e w' ⟨rfl, M', sf', sn', g', hD', hL', hGo⟩
  have hT : Turn (fun c => M c ∧ ¬ Z c) w w' := hGo.turn.mono fun c hc hx => by
    rcases hx with hx | hx
    · omega
    · exact ⟨JM_own hD hL hx, fun hz => (hZ c hz).2 hx⟩
  have hZ2 : ∀ c, Z c → M' c ∧ ¬ JM b sf' sn' l g' c := fun c hz => ⟨hGo.more c (hZ c hz).1, fun hx => (hZ c hz).2 (hGo.own c (hD.old c (hZ c hz).1) hx)⟩
  by_cases h0 : recs = []
  · subst h0
    have e1 : appendJ pre D L [] = ((D, L), (lastF L.files).to_, 0) := if_pos rfl
    rw [e1] at hD' hL' ⊢
    refine ⟨M', D, L, rss, ⟨⟨sf', sn', g', hD', hL', hZ2⟩, h.inv, hus, hro, by omega, by omega, by omega⟩, hT, hGo.more, hGo.less, Nat.le_add_right _ _, rfl, .inl ⟨fun hx => hx.1 rfl, ?_, by simp⟩⟩
    rw [hl2, Nat.zero_add]
  · rcases h.inv.append h0 hr (by omega) with e1 | ⟨rss', h1, h2, h3, h4, h5, h6⟩
    · have hfj : fullJ pre D L recs := ⟨h0, e1⟩
      rw [e1] at hD' hL' ⊢
      exact ⟨M', D, L, rss, ⟨⟨sf', sn', g', hD', hL', hZ2⟩, h.inv, hus, hro, by omega, by omega, by omega⟩, hT, hGo.more, hGo.less, Nat.le_add_right _ _, rfl, .inr ⟨hfj, rfl, rfl⟩⟩
    · have hok := appendD_ok (s := nameB pre (openF L).serial) h.inv.dead h.inv.armed h6
      have h4' := h4
      rw [hok] at h4'
      refine ⟨M', _, _, rss', ⟨⟨sf', sn', g', hD', hL', hZ2⟩, h3, ?_, ?_, ?_, ?_, ?_⟩, hT, hGo.more, hGo.less, ?_, ?_, .inl ⟨fun hx => ?_, ?_, h1⟩⟩
      · rw [h4']
        show ((usedB (putK _ _ D.seen) : Nat) : Int) ≤ D.room
        rw [usedB_put h.inv.rising]
        omega
      · rw [h4']; exact hro
      · rw [h4']
        show D.safe.length + (D.queue ++ _).length ≤ q + 1
        rw [List.length_append, List.length_singleton]
        omega
      · rw [h5]
        unfold pushL
        rw [List.length_append, List.length_singleton]
        split
        · omega
        · rw [List.length_dropLast]; omega
      · rw [h1, List.length_append]; omega
      · rw [h4']
        show usedB (putK _ _ D.seen) ≤ _
        rw [usedB_put h.inv.rising]
        exact Nat.le_refl _
      · rw [h4']
      · rw [hx.2] at h2
        simp at h2
      · rw [h2, Nat.zero_add]
theorem Sess.serial {pre : List UInt8} {w : World} {M Z : Nat → Prop} {b l q : Nat} {D : DDr} {L : DLog} {rss : List (List (List UInt8))} (h : Sess pre w M Z b l D L rss q) (hq : q < 90) : (openF L).serial < 100 ∧ (lastF L.files).to_ < 10000 := by
  obtain ⟨hl1, hl2⟩ := h.inv.chain.last h.inv.start
  have hf := h.files
  have hrc := h.recs
  refine ⟨?_, by omega⟩
  unfold openF
  split
  · show (lastF L.files).serial + 1 < _; omega
  · omega
theorem Sess.small {pre : List UInt8} {w : World} {M Z : Nat → Prop} {b l q : Nat} {D : DDr} {L : DLog} {rss : List (List (List UInt8))} {recs : List (List UInt8)} (h : Sess pre w M Z b l D L rss q) (hq : q < 90) (hr : ∀ r ∈ recs, r.length ≤ 600) (hc : recs.length ≤ 10) : (dataL L recs).length ≤ 10000 := by
  obtain ⟨h1, h2⟩ := h.serial hq
  exact dataL_small hr hc (by omega) (by omega)
theorem Sess.fits {pre : List UInt8} {w : World} {M Z : Nat → Prop} {b l q : Nat} {D : DDr} {L : DLog} {rss : List (List (List UInt8))} {recs : List (List UInt8)} (h : Sess pre w M Z b l D L rss q) (hr : ∀ r ∈ recs, r.length ≤ 1048576) (hf : ((usedB D.seen + (dataL L recs).length : Nat) : Int) ≤ D.room) : ¬ fullJ pre D L recs := by
  rintro ⟨h0, e1⟩
  have hA : appendJ pre D L recs = if (appendD D (nameB pre (openF L).serial) (dataL L recs)).2 = 0 then (((appendD D (nameB pre (openF L).serial) (dataL L recs)).1, pushL L recs), (lastF L.files).to_, 0) else (((appendD D (nameB pre (openF L).serial) (dataL L recs)).1, L), 0, (appendD D (nameB pre (openF L).serial) (dataL L recs)).2) := by
    unfold appendJ
    rw [if_neg h0, if_neg (by rw [tooLong_not hr]; simp)]
  have hok := appendD_ok (s := nameB pre (openF L).serial) (d := dataL L recs) h.inv.dead h.inv.armed (by omega)
  rw [hok, if_pos rfl] at hA
  rw [hA] at e1
  simp at e1
theorem Sess.append {pre : List UInt8} {w : World} {M Z M2 : Nat → Prop} {b l q : Nat} {D : DDr} {L : DLog} {rss : List (List (List UInt8))} {rv : Value} {recs : List (List UInt8)} (h : Sess pre w M Z b l D L rss q) (hp : pre.length ≤ 998) (hq : q < 90) (hrep : (Ty.slice Ty.bytes).rep w M2 [rv] recs) (hr : ∀ r ∈ recs, r.length ≤ 600) (hc : recs.length ≤ 10) :
    Calls Tryz.prog 14 #[.pointer (some ⟨l, 0, none⟩), rv] w fun e w' => ∃ M' D' L' rss', Sess pre w' M' Z b l D' L' rss' (q + 1) ∧ Turn (fun c => M c ∧ ¬ Z c) w w' ∧ (∀ c, M c → M' c) ∧ (∀ c, c < w.heap.size → M' c → M c) ∧
      usedB D'.seen ≤ usedB D.seen + 10000 ∧ D'.room = D.room ∧ ((¬ fullJ pre D L recs ∧ e = .returned (.tuple #[.int .u64 (rss.flatten.length : Int), .int .i64 0]) ∧ rss'.flatten = rss.flatten ++ recs) ∨ (fullJ pre D L recs ∧ e = .returned (.tuple #[.int .u64 0, .int .i64 8]) ∧ rss' = rss)) := by
  have hs := h.small hq hr hc
  refine (h.appendG hp hq hrep (fun r hx => by have := hr r hx; omega) hc (by omega)).mono ?_
  rintro e w' ⟨M', D', L', rss', h1, h2, h3, h4, h5, h6⟩
  exact ⟨M', D', L', rss', h1, h2, h3, h4, by omega, h6⟩
theorem Sess.appendOk {pre : List UInt8} {w : World} {M Z M2 : Nat → Prop} {b l q : Nat} {D : DDr} {L : DLog} {rss : List (List (List UInt8))} {rv : Value} {recs : List (List UInt8)} (h : Sess pre w M Z b l D L rss q) (hp : pre.length ≤ 998) (hq : q < 90) (hrep : (Ty.slice Ty.bytes).rep w M2 [rv] recs) (hr : ∀ r ∈ recs, r.length ≤ 1048576) (hc : recs.length ≤ 10) (hdl : (dataL L recs).length ≤ 1000000) (hf : ((usedB D.seen + (dataL L recs).length : Nat) : Int) ≤ D.room) :
    Calls Tryz.prog 14 #[.pointer (some ⟨l, 0, none⟩), rv] w fun e w' => ∃ M' D' L' rss', e = .returned (.tuple #[.int .u64 (rss.flatten.length : Int), .int .i64 0]) ∧ Sess pre w' M' Z b l D' L' rss' (q + 1) ∧ Turn (fun c => M c ∧ ¬ Z c) w w' ∧ (∀ c, c < w.heap.size → M' c → M c) ∧
      usedB D'.seen ≤ usedB D.seen + (dataL L recs).length ∧ D'.room = D.room ∧ rss'.flatten = rss.flatten ++ recs := by
  have hn := h.fits hr hf
  refine (h.appendG hp hq hrep hr hc hdl).mono ?_
  rintro e w' ⟨M', D', L', rss', h1, h2, h3, h4, h5, h6, h7⟩
  obtain ⟨_, he, hrs⟩ := h7.resolve_right (fun hx => hn hx.1)
  exact ⟨M', D', L', rss', he, h1, h2, h4, h5, h6, hrs⟩
theorem sealsB_10k : ∀ (rs : List (List UInt8)), (∀ r ∈ rs, r.length ≤ 10000) → (sealsB rs).length ≤ rs.length * 10200
  | [], _ => by simp [sealsB]
  | r :: rs, h => by
    have h1 := sealsB_10k rs (fun x hx => h x (List.mem_cons_of_mem _ hx))
    have h2 := h r List.mem_cons_self
    rw [sealsB_cons, List.length_append, sealB_len, List.length_cons]
    omega
theorem Sess.data10k {pre : List UInt8} {w : World} {M Z : Nat → Prop} {b l q : Nat} {D : DDr} {L : DLog} {rss : List (List (List UInt8))} {recs : List (List UInt8)} (h : Sess pre w M Z b l D L rss q) (hq : q < 90) (hr : ∀ r ∈ recs, r.length ≤ 10000) (hc : recs.length ≤ 10) : (dataL L recs).length ≤ 200000 := by
  obtain ⟨h1, h2⟩ := h.serial hq
  have h3 := sealsB_10k recs hr
  unfold dataL headL
  rw [List.length_append]
  split
  · unfold headB
    rw [sealB_len]
    have := numsB2_len (show (openF L).serial < 18446744073709551616 by omega) (show (lastF L.files).to_ < 18446744073709551616 by omega)
    omega
  · simp only [List.length_nil]
    omega
end Go.Proofs.YthebdlkmoailaaaGreatDoor

namespace Go.Proofs.YthebdlkmoailaaaGreatDoor
open Go.RowKit Go.Gr Go.Maps
open Go.Proofs (encStr)
set_option linter.unusedSimpArgs false
set_option linter.unusedVariables false
theorem Sess.step {pre : List UInt8} {w w' : World} {M Z : Nat → Prop} {b l q : Nat} {D : DDr} {L : DLog} {rss : List (List (List UInt8))} (h : Sess pre w M Z b l D L rss q) (hs : Step w w') : Sess pre w' M Z b l D L rss q := by
  obtain ⟨sf, sn, g, hD, hL, hZ⟩ := h.mem
  exact ⟨⟨sf, sn, g, hD.step hs, hL.step hs, hZ⟩, h.inv, h.used, h.room, h.cnt, h.files, h.recs⟩
theorem Sess.next {pre : List UInt8} {w : World} {M Z : Nat → Prop} {b l q : Nat} {D : DDr} {L : DLog} {rss : List (List (List UInt8))} (h : Sess pre w M Z b l D L rss q) :
    Calls Tryz.prog 17 #[.pointer (some ⟨l, 0, none⟩)] w fun e w' => e = .returned (.int .u64 (rss.flatten.length : Int)) ∧ Step w w' := by
  obtain ⟨sf, sn, g, hD, hL, _⟩ := h.mem
  obtain ⟨hl1, hl2⟩ := h.inv.chain.last h.inv.start
  obtain ⟨fv, h1, h2, _⟩ := hL.row
  have := jNext_ h1 h2
  rw [hl2, Nat.zero_add] at this
  exact this
theorem Sess.records {pre : List UInt8} {w : World} {M Z : Nat → Prop} {b l q : Nat} {D : DDr} {L : DLog} {rss : List (List (List UInt8))} (h : Sess pre w M Z b l D L rss q) (hp : pre.length ≤ 998) (hq : q ≤ 90) :
    Calls Tryz.prog 16 #[.pointer (some ⟨l, 0, none⟩), .int .u64 0, .int .u64 (rss.flatten.length : Int)] w fun e w' => ∃ v ds, e = .returned (.tuple #[v, .int .i64 0]) ∧ Gr.Own (tGB 5) 40 w' (· < w.heap.size) w.heap.size v ds ∧ Step w w' ∧ Hid (ds.map Prod.fst = rss.flatten) ∧ ApartD ds := by
  obtain ⟨sf, sn, g, hD, hL, _⟩ := h.mem
  obtain ⟨hl1, hl2⟩ := h.inv.chain.last h.inv.start
  have hf := h.files
  have hrc := h.recs
  have hro := h.room
  have hus := h.used
  obtain ⟨hr, _⟩ := h.inv.good (by omega) (by omega) (by omega)
  have hall := h.inv.chain.all (a := 0) (z := rss.flatten.length) (by omega) (by omega) (Nat.le_refl _) (by omega)
  have := jRecords_ (a := 0) (z := rss.flatten.length) hD h.inv.dead hL hp (Nat.zero_le _) (by rw [firstL_le h.inv.chain h.inv.start]; exact Nat.le_refl _) (by rw [hl2]; omega) (by omega) (h.inv.chain.ok hr) (by rw [hall]; omega)
  rw [hall] at this
  exact this
theorem Sess.openZ {pre : List UInt8} {w : World} {M Z : Nat → Prop} {b q : Nat} {sf sn : Option Nat} {D : DDr} {L : DLog} {rss : List (List (List UInt8))} {most : Int} (hD : DriveAt w M b sf sn D) (hZ : ∀ c, Z c → M c ∧ ¬ DM b sf sn c) (h : JInv pre D L 0 0 rss) (hus : (usedB D.seen : Int) ≤ D.room) (hro : D.room ≤ 1048576) (hcnt : D.safe.length + D.queue.length ≤ q) (hf : L.files.length ≤ q) (hrc : rss.flatten.length ≤ q * 10) (hm : I64 most) (hp : pre.length ≤ 998) (hq : q ≤ 90) :
    Calls Tryz.prog 12 #[.pointer (some ⟨b, 0, none⟩), encStr pre, .int .i64 most] w fun e w' => ∃ l M', e = .returned (.tuple #[.pointer (some ⟨l, 0, none⟩), .int .i64 0]) ∧ Step w w' ∧ w.heap.size ≤ l ∧ Sess pre w' M' Z b l D ⟨max 1 most, L.files, true⟩ rss q ∧ (∀ c, M c → M' c) ∧ (∀ c, c < w.heap.size → M' c → M c) := by
  obtain ⟨hr, ns, hn, hG⟩ := h.good (by omega) (by omega) (by omega)
  refine (jOpen_ hD h.dead hm hp hn hG).mono ?_
  rintro e w' ⟨l, g, M', rfl, hS, hl, hD', hL', h1, h2, h3⟩
  refine ⟨l, M', rfl, hS, hl, ⟨⟨sf, sn, g, hD', hL', fun c hc => ⟨h1 c (hZ c hc).1, fun hj => ?_⟩⟩, ⟨h.dead, h.armed, h.chain, h.names, h.rising, h.start⟩, hus, hro, hcnt, hf, hrc⟩, h1, h2⟩
  have hlt := hD.old c (hZ c hc).1
  rcases hj with hj | hj | hj
  · exact (hZ c hc).2 hj
  · omega
  · have := h3 c hj; omega
theorem Sess.open_ {pre : List UInt8} {w : World} {M : Nat → Prop} {b q : Nat} {sf sn : Option Nat} {D : DDr} {L : DLog} {rss : List (List (List UInt8))} {most : Int} (hD : DriveAt w M b sf sn D) (h : JInv pre D L 0 0 rss) (hus : (usedB D.seen : Int) ≤ D.room) (hro : D.room ≤ 1048576) (hcnt : D.safe.length + D.queue.length ≤ q) (hf : L.files.length ≤ q) (hrc : rss.flatten.length ≤ q * 10) (hm : I64 most) (hp : pre.length ≤ 998) (hq : q ≤ 90) :
    Calls Tryz.prog 12 #[.pointer (some ⟨b, 0, none⟩), encStr pre, .int .i64 most] w fun e w' => ∃ l M', e = .returned (.tuple #[.pointer (some ⟨l, 0, none⟩), .int .i64 0]) ∧ Step w w' ∧ w.heap.size ≤ l ∧ Sess pre w' M' (fun _ => False) b l D ⟨max 1 most, L.files, true⟩ rss q ∧ (∀ c, M c → M' c) ∧ (∀ c, c < w.heap.size → M' c → M c) :=
  Sess.openZ hD (fun c hc => hc.elim) h hus hro hcnt hf hrc hm hp hq
theorem DriveAt.newZ {w : World} {Z : Nat → Prop} {b : Nat} {r : Int} (h : DrAt w b (.map none) (.map none) (.slice none 0 0) (max 0 r) false 0 false) (hZ : ∀ c, Z c → c < w.heap.size) : DriveAt w (fun c => c = b ∨ Z c) b none none (DDr.new r) := by
  have hlt := h.lt
  refine ⟨⟨.slice none 0 0, h, ⟨none, 0, rfl, Nat.le_refl _, by simp [maxLen], Nat.zero_le _, fun h => absurd h (by simp [DDr.new])⟩⟩, .inl ⟨rfl, rfl⟩, .inl ⟨rfl, rfl⟩, fun m hm => (by cases hm), fun c hc => ?_, fun c hc => ?_, DDr.new_wf r⟩
  · rcases hc with hc | hc | hc
    · exact .inl hc
    · cases hc
    · cases hc
  · rcases hc with rfl | hc
    · exact hlt
    · exact hZ c hc
/-- A journal upon a new drive, beside what others turn. -/
theorem Sess.open0Z {pre : List UInt8} {w : World} {Z : Nat → Prop} {b : Nat} {r most : Int} (h : DrAt w b (.map none) (.map none) (.slice none 0 0) (max 0 r) false 0 false) (hZ : ∀ c, Z c → c < w.heap.size ∧ c ≠ b) (hr : r ≤ 1048576) (hm : I64 most) (hp : pre.length ≤ 998) :
    Calls Tryz.prog 12 #[.pointer (some ⟨b, 0, none⟩), encStr pre, .int .i64 most] w fun e w' => ∃ l M', e = .returned (.tuple #[.pointer (some ⟨l, 0, none⟩), .int .i64 0]) ∧ Step w w' ∧ w.heap.size ≤ l ∧ Sess pre w' M' Z b l (DDr.new r) ⟨max 1 most, [], true⟩ [] 0 ∧ (∀ c, c < w.heap.size → M' c → c = b ∨ Z c) := by
  refine (Sess.openZ (L := ⟨0, [], true⟩) (rss := []) (q := 0) (DriveAt.newZ h (fun c hc => (hZ c hc).1)) (fun c hc => ⟨.inr hc, fun hd => ?_⟩) (JInv.new pre r 0) ?_ ?_ (Nat.le_refl _) (Nat.le_refl _) (Nat.le_refl _) hm hp (by omega)).mono ?_
  · rcases hd with hd | hd | hd
    · exact (hZ c hc).2 hd
    · cases hd
    · cases hd
  · show ((usedB [] : Nat) : Int) ≤ max 0 r
    simp [usedB]
    omega
  · show max 0 r ≤ 1048576
    omega
  · rintro e w' ⟨l, M', rfl, h1, h2, h3, _, h5⟩
    exact ⟨l, M', rfl, h1, h2, h3, h5⟩
/-- A journal upon a new drive. -/
theorem Sess.open0 {pre : List UInt8} {w : World} {b : Nat} {r most : Int} (h : DrAt w b (.map none) (.map none) (.slice none 0 0) (max 0 r) false 0 false) (hr : r ≤ 1048576) (hm : I64 most) (hp : pre.length ≤ 998) :
    Calls Tryz.prog 12 #[.pointer (some ⟨b, 0, none⟩), encStr pre, .int .i64 most] w fun e w' => ∃ l M', e = .returned (.tuple #[.pointer (some ⟨l, 0, none⟩), .int .i64 0]) ∧ Step w w' ∧ w.heap.size ≤ l ∧ Sess pre w' M' (fun _ => False) b l (DDr.new r) ⟨max 1 most, [], true⟩ [] 0 ∧ (∀ c, c < w.heap.size → M' c → c = b) := by
  refine (Sess.open0Z h (Z := fun _ => False) (fun c hc => hc.elim) hr hm hp).mono ?_
  rintro e w' ⟨l, M', rfl, h1, h2, h3, h5⟩
  exact ⟨l, M', rfl, h1, h2, h3, fun c hc hx => (h5 c hc hx).resolve_right id⟩
end Go.Proofs.YthebdlkmoailaaaGreatDoor
