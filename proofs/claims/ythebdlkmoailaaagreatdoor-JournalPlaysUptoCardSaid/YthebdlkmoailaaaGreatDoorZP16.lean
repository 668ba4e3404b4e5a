/-
  JournalPlays: what the reference's calls answer within a round.
  Walk: JournalPlays.
-/
import Derived.Test.YthebdlkmoailaaaGreatDoorZP15
import Derived.Test.YthebdlkmoailaaaGreatDoorZK29
import Derived.Test.YthebdlkmoailaaaGreatDoorZP13
import Derived.Deep.CutBlock
import Derived.Deep.DeepCutAuto
set_option linter.unusedVariables false
set_option linter.unusedSimpArgs false
namespace Go.Proofs.YthebdlkmoailaaaGreatDoor
open Go.RowKit Go.Gr Go.Maps
open Go.Proofs (encStr)
set_option linter.unusedSimpArgs false
set_option linter.unusedVariables false
theorem zipR_recs {F : RFile} : ∀ {fs : List DFile} {rss : List (List (List UInt8))}, F ∈ zipR fs rss → F.recs ∈ rss
  | [], _, h => by simp [zipR] at h
  | _ :: _, [], h => by simp [zipR] at h
  | G :: fs, rs :: rss, h => by
    rcases List.mem_cons.1 h with rfl | h
    · exact List.mem_cons_self
    · exact List.mem_cons_of_mem _ (zipR_recs h)
theorem flat_le {α : Type} {x : List α} : ∀ {l : List (List α)}, x ∈ l → x.length ≤ l.flatten.length
  | y :: l, h => by
    rw [List.flatten_cons, List.length_append]
    rcases List.mem_cons.1 h with rfl | h
    · omega
    · have := flat_le h; omega
theorem bytes_made {w : World} {C : Array Value} {k n : Nat} (hC : C = madeCells #[.int .u8 0] n) (hk : k = w.heap.size) (hn : n ≤ 8589934592) : Ty.bytes.rep (w.alloc (.cells C 5)) (fun _ => False) [.slice (some ⟨k, 0, none⟩) n n] (List.replicate n 0) := by
  subst hC hk
  have h0 : (madeCells #[.int .u8 0] n) = ((List.replicate n (0 : UInt8)).map bv).toArray := by
    apply Array.ext'
    rw [toList_madeCells_one, List.map_replicate]
    rfl
  rw [h0]
  have := bytes_of_cells (w := w.alloc (.cells ((List.replicate n (0 : UInt8)).map bv).toArray 5)) (M := fun _ => False) (g := w.heap.size) (c := n) (e := 5) (xs := List.replicate n 0) (CellsAt.new rfl) (fun h => h) (by simp) (by unfold maxLen; omega) (by rw [lim_eq]; simp; omega)
  rw [List.length_replicate] at this
  exact this
/-- What `make` makes for the last append. -/
theorem big_made : ∃ (C : Array Value) (B : List UInt8), B.length = 1048577 ∧ (∀ W : World, (Instr.makeSlice 40 (.int .i64 1048577) (.int .i64 1048577)).run Tryz.prog W = .ok (.slice (some ⟨W.heap.size, 0, none⟩) 1048577 1048577) (W.alloc (.cells C 5))) ∧
    ∀ (W : World) (k : Nat), k = W.heap.size → Ty.bytes.rep (W.alloc (.cells C 5)) (fun _ => False) [.slice (some ⟨k, 0, none⟩) 1048577 1048577] B := by
  have key : ∀ n : Nat, n ≤ 8589934592 → ∃ (C : Array Value) (B : List UInt8), B.length = n ∧ (∀ W : World, (Instr.makeSlice 40 (.int .i64 (n : Int)) (.int .i64 (n : Int))).run Tryz.prog W = .ok (.slice (some ⟨W.heap.size, 0, none⟩) n n) (W.alloc (.cells C 5))) ∧
      ∀ (W : World) (k : Nat), k = W.heap.size → Ty.bytes.rep (W.alloc (.cells C 5)) (fun _ => False) [.slice (some ⟨k, 0, none⟩) n n] B := fun n hn =>
    ⟨madeCells #[.int .u8 0] n, List.replicate n 0, List.length_replicate, fun W => made_bytes n (by omega) W, fun W k hk => bytes_made rfl hk hn⟩
  exact key 1048577 (by omega)
/-- What an act's own cells are, behind what the drive's blocks alone have turned. -/
theorem act_goP {w w' : World} {M M' : Nat → Prop} {fb xb : Nat} {cs : Array Value} (h : CellsAt w fb cs 58) (hn : ¬ M fb) (g : XGo w w' M M' xb) : CellsAt w' fb cs 58 ∧ ¬ M' fb :=
  ⟨h.kept (g.turn.block fb (CellsAt.lt h) (fun hx => hn hx.1)), fun hx => hn (g.less fb (CellsAt.lt h) hx)⟩
/-- A round whose journal has gone on while the reference's journal (cells cs of block wb) has not; S: the serial that is to come there. -/
structure PlMid (w0 w : World) (M : Nat → Prop) (b l : Nat) (D : DDr) (L : DLog) (s f : Nat) (rss : List (List (List UInt8))) (k : Nat) (most : Int) (wb : Nat) (rv : Value) (acts : List DAct) (cs : Array Value) (S : Nat) : Prop where
  sess : PSess [119, 46] w M wb b l D L s f rss k (10000 * k) (200 * k + 100)
  room : D.room = 1073741824
  most : L.most = max 1 most
  step : Step w0 w
  fresh : ∀ c, M c → w0.heap.size ≤ c
  row : (Ty.slice tAct).rep w M [rv] acts
  ref : CellsAt w wb cs 55
  few : f + rss.flatten.length ≤ 10 * k
  ser : S = s + L.files.length
theorem other3 {w : World} {fb wb : Nat} {cs : Array Value} {e : TypeId} {x y z : Value} (h : CellsAt w fb cs e) (hn : fb ≠ wb) : CellsAt (((w.setCell ⟨wb, 0, none⟩ x).setCell ⟨wb, 1, none⟩ y).setCell ⟨wb, 2, none⟩ z) fb cs e :=
  CellsAt.other (p := ⟨wb, 2, none⟩) (CellsAt.other (p := ⟨wb, 1, none⟩) (CellsAt.other (p := ⟨wb, 0, none⟩) h hn _) hn _) hn _
section
variable {w0 w : World} {M : Nat → Prop} {b l : Nat} {D : DDr} {L : DLog} {s f : Nat} {rss : List (List (List UInt8))} {k : Nat} {most : Int} {wb : Nat} {rv : Value} {acts : List DAct} {cs : Array Value} {S : Nat}
theorem PlMid.next {w' : World} (h : PlMid w0 w M b l D L s f rss k most wb rv acts cs S) (hs : Step w w') : PlMid w0 w' M b l D L s f rss k most wb rv acts cs S :=
  ⟨h.sess.step hs, h.room, h.most, h.step.trans hs, h.fresh, Ty.step _ h.row hs, h.ref.step hs, h.few, h.ser⟩
theorem PlMid.put {x y z fv' : Value} {cl : Bool} (h : PlMid w0 w M b l D L s f rss k most wb rv acts #[x, y, z] S) (hrf : (Ty.slice tRFile).rep w M [fv'] (zipR L.files rss)) (hcl : cl = L.closed) :
    PlAt w0 (((w.setCell ⟨wb, 0, none⟩ fv').setCell ⟨wb, 1, none⟩ (.int .u64 (S : Int))).setCell ⟨wb, 2, none⟩ (.bool cl)) M b l D L s f rss k most wb fv' rv acts := by
  have hin := h.sess.in
  have hk : ∀ c, c ≠ wb → (((w.setCell ⟨wb, 0, none⟩ fv').setCell ⟨wb, 1, none⟩ (.int .u64 (S : Int))).setCell ⟨wb, 2, none⟩ (.bool cl)).heap[c]? = w.heap[c]? := fun c hc => by
    rw [heap_setCell_other _ _ _ _ (by simpa using hc), heap_setCell_other _ _ _ _ (by simpa using hc), heap_setCell_other _ _ _ _ (by simpa using hc)]
  have hz : (((w.setCell ⟨wb, 0, none⟩ fv').setCell ⟨wb, 1, none⟩ (.int .u64 (S : Int))).setCell ⟨wb, 2, none⟩ (.bool cl)).heap.size = w.heap.size := by simp
  refine ⟨h.sess.other hk hz, h.room, h.most, step_set3 h.step (h.fresh wb hin), h.fresh, Ty.keep _ h.row (fun c _ hc => ⟨hk c (fun e => hc (e ▸ hin)), hc⟩), ?_, Ty.keep _ hrf (fun c _ hc => ⟨hk c (fun e => hc (e ▸ hin)), hc⟩), h.few⟩
  rw [← h.ser, ← hcl]
  exact ((h.ref.set 0 _).set 1 _).set 2 _
end
section
variable {w0 w : World} {M : Nat → Prop} {b l : Nat} {D : DDr} {L : DLog} {s f : Nat} {rss : List (List (List UInt8))} {k : Nat} {most : Int} {wb : Nat} {fv rv : Value} {acts : List DAct}
theorem PlAt.rnext {W : World} {M' : Nat → Prop} (h : PlAt w0 w M b l D L s f rss k most wb fv rv acts) (hr : (Ty.slice tRFile).rep W M' [fv] (zipR L.files rss)) :
    Calls Tryz.prog 29 #[.agg #[fv, .int .u64 ((s + L.files.length : Nat) : Int), .bool L.closed]] W fun e w' => e = .returned (.int .u64 ((f + rss.flatten.length : Nat) : Int)) ∧ Step W w' := by
  have := rNext_ (s := s + L.files.length) (cl := L.closed) hr
  rw [show rNext (zipR L.files rss) = f + rss.flatten.length from refOf_next h.sess.inv.chain h.sess.inv.start] at this
  exact this
theorem PlAt.rfirst {W : World} {M' : Nat → Prop} (h : PlAt w0 w M b l D L s f rss k most wb fv rv acts) (hr : (Ty.slice tRFile).rep W M' [fv] (zipR L.files rss)) :
    Calls Tryz.prog 36 #[.agg #[fv, .int .u64 ((s + L.files.length : Nat) : Int), .bool L.closed]] W fun e w' => e = .returned (.int .u64 (f : Int)) ∧ Step W w' := by
  have := rFirst_ (s := s + L.files.length) (cl := L.closed) hr
  rw [show rFirst (zipR L.files rss) = f from refOf_first h.sess.inv.chain h.sess.inv.start] at this
  exact this
theorem PlAt.rapp {W : World} {M' : Nat → Prop} {v : Value} {recs : List (List UInt8)} {L' : DLog} {rss' : List (List (List UInt8))} (h : PlAt w0 w M b l D L s f rss k most wb fv rv acts) (hk : k < 40) (hm : I64 most) (hrf : (Ty.slice tRFile).rep W M' [fv] (zipR L.files rss)) (hrc : (Ty.slice Ty.bytes).rep W M' [v] recs) (hM : ∀ c, M' c → c < W.heap.size) (hr : (∀ r ∈ recs, r.length ≤ 600) ∧ recs.length ≤ 10) (ha : rAppend (refOf L s rss) (max 1 most) recs = refOf L' s rss') :
    Calls Tryz.prog 30 #[.agg #[fv, .int .u64 ((s + L.files.length : Nat) : Int), .bool L.closed], .int .i64 most, v] W fun e w' => ∃ fv', e = .returned (.agg #[fv', .int .u64 ((s + L'.files.length : Nat) : Int), .bool L'.closed]) ∧ (Ty.slice tRFile).rep w' M' [fv'] (zipR L'.files rss') ∧ Step W w' := by
  have hch := h.sess.inv.chain
  have hst := h.sess.inv.start
  have hfew := h.sess.few
  have hf2 := h.few
  have hus := h.sess.used
  obtain ⟨hro, _⟩ := h.sess.inv.good (by omega) (by omega) (by omega)
  have hzl := zipR_len hch.len
  have hsb := sealsB_small recs hr.1
  have hnx : rNext (zipR L.files rss) = f + rss.flatten.length := refOf_next hch hst
  have hc := rAppend_ (w := W) (M := M') (fv := fv) (rv := v) (files := zipR L.files rss) (recs := recs) (s := s + L.files.length) (cl := L.closed) (most := most) hrf hrc hM hm (fun r hx => by have := hr.1 r hx; omega) (by omega) (fun F hF => by have := flat_le (zipR_recs hF); omega) (by omega) (by omega) (by omega) (by
    unfold rOpen
    by_cases hfr : rFresh ⟨zipR L.files rss, s + L.files.length, L.closed⟩ (max 1 most) = true
    · rw [if_pos hfr]
      have e1 : (headB (s + L.files.length + 1) (f + rss.flatten.length)).length ≤ 60 := by
        unfold headB
        rw [sealB_len]
        have := numsB2_len (a := s + L.files.length + 1) (b := f + rss.flatten.length) (by omega) (by omega)
        omega
      show 0 ≤ ((headB (s + L.files.length + 1) (rNext (zipR L.files rss))).length : Int) ∧ ((headB (s + L.files.length + 1) (rNext (zipR L.files rss))).length : Int) + _ ≤ _
      rw [hnx]
      omega
    · rw [if_neg hfr]
      have e1 := hch.zipLast.2.2.1
      rw [e1]
      have hne : L.files ≠ [] := fun h0 => hfr (by unfold rFresh; rw [h0]; rfl)
      rcases files_cases L.files with h0 | ⟨i, F, h0⟩
      · exact absurd h0 hne
      · have hF : F ∈ L.files := by rw [h0]; simp
        have e2 := hro.size F hF
        obtain ⟨_, _, _, _, _, _, h6⟩ := hch.mem hF
        have e3 := h6.size
        rw [h0, lastF_snoc]
        omega)
  refine hc.mono ?_
  rintro e w' ⟨fv', s', cl', rfl, h1, rfl, rfl, h4⟩
  have ha' : rAppend ⟨zipR L.files rss, s + L.files.length, L.closed⟩ (max 1 most) recs = ⟨zipR L'.files rss', s + L'.files.length, L'.closed⟩ := ha
  rw [ha'] at h1 ⊢
  exact ⟨fv', rfl, h1, h4⟩
theorem PlAt.looks {W : World} {a z : Nat} (h : PlAt w0 w M b l D L s f rss k most wb fv rv acts) (hk : k < 41) (hW : Step w W) :
    Calls Tryz.prog 35 #[.pointer (some ⟨l, 0, none⟩), .agg #[fv, .int .u64 ((s + L.files.length : Nat) : Int), .bool L.closed], .int .u64 (a : Int), .int .u64 (z : Int)] W fun e w' => e = .returned (.bool true) ∧ Step W w' := by
  have h' := h.next hW
  have hf2 := h.few
  exact looks_ h'.sess (by simp) (by omega) (by omega) (by omega) h'.refs
theorem PlAt.list {W : World} (h : PlAt w0 w M b l D L s f rss k most wb fv rv acts) (hk : k < 41) (hW : Step w W) :
    Calls Tryz.prog 37 #[.pointer (some ⟨b, 0, none⟩), encStr [119, 46]] W fun e w' => ∃ a c, e = .returned (.slice a (zipR L.files rss).length c) ∧ Step W w' := by
  have h' := h.next hW
  refine (h'.sess.list (by simp) (by omega)).mono ?_
  rintro e w' ⟨v, rfl, hA, hS, hl⟩
  obtain ⟨a, c, rfl⟩ := hA.val
  rw [hl.out, ← zipR_len h'.sess.inv.chain.len]
  exact ⟨a, c, rfl, hS⟩
/-- Records that are too long. -/
theorem PlAt.big {M2 : Nat → Prop} {v : Value} {big : List UInt8} (h : PlAt w0 w M b l D L s f rss k most wb fv rv acts) (hk : k < 41) (hrep : (Ty.slice Ty.bytes).rep w M2 [v] [[120], big]) (hb : big.length = 1048577) :
    Calls Tryz.prog 14 #[.pointer (some ⟨l, 0, none⟩), v] w fun e w' => e = .returned (.tuple #[.int .u64 0, .int .i64 2]) ∧ ∃ M', PlAt w0 w' M' b l D L s f rss k most wb fv rv acts := by
  obtain ⟨hl1, hl2⟩ := h.sess.inv.chain.last h.sess.inv.start
  have hfew := h.sess.few
  have hf2 := h.few
  have hro := h.room
  refine (h.sess.big (by simp) (by omega) hrep ?_ ?_ (by omega) (by omega) (by omega) (by omega) (by simp only [List.length_cons, List.length_nil]; omega)).mono ?_
  · have : decide (1048576 < big.length) = true := decide_eq_true (by omega)
    simp only [tooLong, List.any_cons, this, Bool.true_or, Bool.or_true]
  · have e1 : (sealsB [[120], big]).length ≤ 1100000 := by
      rw [sealsB_cons, sealsB_cons, List.length_append, List.length_append, sealB_len, sealB_len, hb]
      simp [sealsB]
    have e2 : (headL L).length ≤ 100 := by
      unfold headL
      split
      · unfold headB
        rw [sealB_len]
        have := numsB2_len (a := (openF L).serial) (b := (lastF L.files).to_) (by unfold openF; split <;> (try simp only) <;> omega) (by omega)
        omega
      · simp
    unfold dataL
    rw [List.length_append]
    omega
  · rintro e w' ⟨rfl, M', h1, h2⟩
    exact ⟨rfl, M', h1, h.room, h.most, h2.cgo.step h.step h.fresh, h2.cgo.fresh h.fresh h.step.size, h2.cgo.keep h.row, h.ref_go h2, h2.cgo.keep h.refs, h.few⟩
/-- An append, and what the reference's calls answer behind it. -/
theorem PlAt.append2 {W : World} {M2 : Nat → Prop} {v v9 : Value} {recs : List (List UInt8)} {S T : Nat} (h : PlAt w0 w M b l D L s f rss k most wb fv rv acts) (hk : k < 40) (hm : I64 most) (hrec : (Ty.slice Ty.bytes).rep w M [v9] recs) (hr : (∀ r ∈ recs, r.length ≤ 600) ∧ recs.length ≤ 10) (hS : S = s + L.files.length) (hT : T = f + rss.flatten.length) (hW : Step w W) (hv : (Ty.slice Ty.bytes).rep W M2 [v] recs) :
    Calls Tryz.prog 14 #[.pointer (some ⟨l, 0, none⟩), v] W fun e w5 => e = .returned (.tuple #[.int .u64 (T : Int), .int .i64 0]) ∧ ∃ M5 D5 L5 rss5 S5, XGo W w5 M M5 wb ∧ PlMid w0 w5 M5 b l D5 L5 s f rss5 (k + 1) most wb rv acts #[fv, .int .u64 (S : Int), .bool L.closed] S5 ∧
      (∀ W', Step w5 W' → Calls Tryz.prog 29 #[.agg #[fv, .int .u64 (S : Int), .bool L.closed]] W' fun e w' => e = .returned (.int .u64 (T : Int)) ∧ Step W' w') ∧
      (∀ W', Step w5 W' → Calls Tryz.prog 30 #[.agg #[fv, .int .u64 (S : Int), .bool L.closed], .int .i64 most, v9] W' fun e w' => ∃ fv', e = .returned (.agg #[fv', .int .u64 (S5 : Int), .bool L5.closed]) ∧ (Ty.slice tRFile).rep w' M5 [fv'] (zipR L5.files rss5) ∧ Step W' w') := by
  have h' := h.next hW
  refine (h'.append hk hv hr).mono ?_
  rintro e w5 ⟨rfl, M5, D5, L5, rss5, g, h1, h2, h3, h4, h5⟩
  have hrf := g.cgo.keep h'.refs
  have hrc := g.cgo.keep (Ty.step _ hrec hW)
  have hf := h.few
  subst hS hT
  refine ⟨rfl, M5, D5, L5, rss5, _, g, ⟨h1, by rw [h2, h.room], by rw [h3, h.most], g.cgo.step h'.step h.fresh, g.cgo.fresh h.fresh h'.step.size, g.cgo.keep h'.row, h'.ref_go g, by rw [h4, List.length_append]; omega, rfl⟩, fun W' hW' => h.rnext (Ty.step _ hrf hW'), fun W' hW' => h.rapp hk hm (Ty.step _ hrf hW') (Ty.step _ hrc hW') (fun c hc => Nat.lt_of_lt_of_le (h1.old c hc) hW'.size) hr h5⟩
/-- A drop, and what the reference's call answers behind it. -/
theorem PlAt.drop2 {W : World} {below S : Nat} (h : PlAt w0 w M b l D L s f rss k most wb fv rv acts) (hk : k < 40) (hb : below < 18446744073709551616) (hS : S = s + L.files.length) (hW : Step w W) :
    Calls Tryz.prog 33 #[.pointer (some ⟨l, 0, none⟩), .int .u64 (below : Int)] W fun e w5 => e = .returned (.int .i64 0) ∧ ∃ M5 D5 L5 s5 f5 rss5, XGo W w5 M M5 wb ∧ PlMid w0 w5 M5 b l D5 L5 s5 f5 rss5 (k + 1) most wb rv acts #[fv, .int .u64 (S : Int), .bool L.closed] S ∧ L5.closed = L.closed ∧
      (∀ W', Step w5 W' → Calls Tryz.prog 34 #[.agg #[fv, .int .u64 (S : Int), .bool L.closed], .int .u64 (below : Int)] W' fun e w' => ∃ fv', e = .returned (.agg #[fv', .int .u64 (S : Int), .bool L.closed]) ∧ (Ty.slice tRFile).rep w' M5 [fv'] (zipR L5.files rss5) ∧ Step W' w') := by
  have h' := h.next hW
  refine (h'.drop hk hb).mono ?_
  rintro e w5 ⟨rfl, M5, D5, fs5, s5, f5, rss5, g, h1, h2, h3, h4, h5⟩
  have hrf := g.cgo.keep h'.refs
  have hf := h.few
  subst hS
  refine ⟨rfl, M5, D5, { L with files := fs5 }, s5, f5, rss5, g, ⟨h1, by rw [h2, h.room], h.most, g.cgo.step h'.step h.fresh, g.cgo.fresh h.fresh h'.step.size, g.cgo.keep h'.row, h'.ref_go g, by rw [h3]; omega, h4.symm⟩, rfl, fun W' hW' => ?_⟩
  refine (rDrop_ (Ty.step _ hrf hW') (fun c hc => Nat.lt_of_lt_of_le (h1.old c hc) hW'.size) hb).mono ?_
  rintro e w' ⟨fv', rfl, k1, k2⟩
  rw [h5] at k1
  exact ⟨fv', rfl, k1, k2⟩
/-- What the round's looks answer. -/
theorem PlAt.eyes (h : PlAt w0 w M b l D L s f rss k most wb fv rv acts) (hk : k < 41) : ∃ (fa : Option Addr) (F fc S T : Nat) (cl : Bool), fv = .slice fa F fc ∧
    w.cell? ⟨wb, 0, none⟩ = some (.slice fa F fc) ∧ w.cell? ⟨wb, 1, none⟩ = some (.int .u64 (S : Int)) ∧ w.cell? ⟨wb, 2, none⟩ = some (.bool cl) ∧
    (∀ (W : World) (a : Nat) (z : Int) (zn : Nat), Step w W → z = (zn : Int) → Calls Tryz.prog 35 #[.pointer (some ⟨l, 0, none⟩), .agg #[.slice fa F fc, .int .u64 (S : Int), .bool cl], .int .u64 (a : Int), .int .u64 z] W fun e w' => e = .returned (.bool true) ∧ Step W w') ∧
    (∀ W : World, Step w W → Calls Tryz.prog 36 #[.agg #[.slice fa F fc, .int .u64 (S : Int), .bool cl]] W fun e w' => e = .returned (.int .u64 (f : Int)) ∧ Step W w') ∧
    (∀ W : World, Step w W → Calls Tryz.prog 29 #[.agg #[.slice fa F fc, .int .u64 (S : Int), .bool cl]] W fun e w' => e = .returned (.int .u64 (T : Int)) ∧ Step W w') ∧
    ∀ W : World, Step w W → Calls Tryz.prog 37 #[.pointer (some ⟨b, 0, none⟩), encStr [119, 46]] W fun e w' => ∃ a c, e = .returned (.slice a F c) ∧ Step W w' := by
  obtain ⟨fa, fc, rfl, _, _, _⟩ := Ty.slice_val h.refs
  refine ⟨fa, _, fc, _, _, _, rfl, h.ref.cell 0, h.ref.cell 1, h.ref.cell 2, fun W a z zn hW hz => ?_, fun W hW => h.rfirst (Ty.step _ h.refs hW), fun W hW => h.rnext (Ty.step _ h.refs hW), fun W hW => h.list hk hW⟩
  subst hz
  exact h.looks hk hW
end
end Go.Proofs.YthebdlkmoailaaaGreatDoor

namespace Go.Proofs.YthebdlkmoailaaaGreatDoor
open Go.RowKit Go.Gr Go.Maps
open Go.Proofs (encStr)
set_option linter.unusedSimpArgs false
set_option linter.unusedVariables false
theorem PlAt.old {w0 w : World} {M : Nat → Prop} {b l : Nat} {D : DDr} {L : DLog} {s f : Nat} {rss : List (List (List UInt8))} {k : Nat} {most : Int} {wb : Nat} {fv rv : Value} {acts : List DAct} (h : PlAt w0 w M b l D L s f rss k most wb fv rv acts) : ∀ c, M c → c < w.heap.size := h.sess.old
theorem open_kkP {P : Program} {c : Code} {Q : Exit → Act → World → Prop} {K : Act → World → Prop} {a : Act} {w : World} (h : ∀ a w, Code.wp P c Q a w → K a w) (h2 : Code.wp P c Q a w) : K a w := h a w h2
set_option maxRecDepth 100000 in
set_option maxHeartbeats 8000000 in
theorem jPlaysL_ {w : World} {M : Nat → Prop} {most : Int} {v : Value} {acts : List DAct} (hAW : ∀ W : World, Calls Tryz.prog 10 #[] W fun e w' => e = .returned (.bool true) ∧ Step W w') (h : (Ty.slice tAct).rep w M [v] acts) (hm : I64 most) :
    Calls Tryz.prog 6 #[.int .i64 most, v] w fun e w' => e = .returned (.bool true) ∧ Step w w' := by
  obtain ⟨a, c, rfl, _, _, hl⟩ := Ty.slice_val h
  rw [lim_eq] at hl
  have H : Hid ((Ty.slice tAct).rep w (fun c => w.heap.size ≤ c) [.slice a acts.length c] acts) := Lib.hid (Ty.keep _ h (fun b hb _ => ⟨rfl, by omega⟩))
  have HAW := Lib.hid hAW
  clear h hAW
  go_enter Tryz.func6, Tryz.ntmps6
  go_upto_region 3 with (go_at_call 10; refine (HAW.out _).mono ?_; rintro e w1 ⟨rfl, hS1⟩; have HS1 : Hid (Step w w1) := Lib.hid (Step.trans stp hS1); clear hS1)
  have hz1 := HS1.out.size
  go_upto_region 4 with (go_at_call 11; refine (dNew_ _ 1073741824).mono ?_; rintro e w2 ⟨rfl, hb2, hS2⟩; have HB2 := Lib.hid hb2; have HS2 : Hid (Step w w2) := Lib.hid (HS1.out.trans (Step.trans stp hS2)); clear hb2 hS2)
  obtain ⟨b, hb⟩ : ∃ b, b = w1.heap.size := ⟨_, rfl⟩
  rw [← hb] at HB2 ⊢
  have hbw : w.heap.size ≤ b := by omega
  have hbl : b < w2.heap.size := CellsAt.lt HB2.out
  clear hb
  go_upto_region 7 with (go_at_call 12; refine (open_new (by first | exact HB2.out | exact CellsAt.step HB2.out stp) hm).mono ?_; rintro e w3 ⟨l0, rfl, hS3, M3, g3, hD3, hL3, hM3⟩; have HD3 := Lib.hid hD3; have HL3 := Lib.hid hL3; have HM3 := Lib.hid hM3; have HS3 := Lib.hid hS3; clear hD3 hL3 hM3 hS3)
  go_upto_region 8 with fail
  refine wp_codeN (fun wx => CellsAt wx w3.heap.size #[.slice none 0 0, .int .u64 0, .bool true] 55 ∧ Step w3 wx) ⟨CellsAt.new rfl, by (repeat (first | exact Step.refl _ | refine Step.alloc ?_ _ | refine Step.drew ?_ | refine Step.drewN ?_ _ | refine Step.setCell ?_ (by first | exact Nat.le_refl _ | assumption | omega | (simp; done) | (simp; omega)) _ | assumption | refine Step.trans ?_ (by assumption : Step _ _)))⟩ ?_
  rintro w4 ⟨hc4, hS4⟩
  obtain ⟨wb, hwb⟩ : ∃ wb, wb = w3.heap.size := ⟨_, rfl⟩
  rw [← hwb] at hc4 ⊢
  have HC4 := Lib.hid hc4
  have HS4 := Lib.hid hS4
  have HWB := Lib.hid hwb
  clear hc4 hS4 hwb
  have HMW : Hid (∀ c, (M3 c ∨ c = wb) → w.heap.size ≤ c ∧ c < w4.heap.size) := Lib.hid (fun c hc => by
    have z2 := HS2.out.size
    have z3 := HS3.out.size
    have z4 := HC4.out.lt
    have z5 := HWB.out
    have z6 := HS4.out.size
    rcases hc with hc | rfl
    · have h1 := HD3.out.old c hc
      rcases HM3.out c hc with rfl | h2
      · omega
      · omega
    · omega)
  have HW4 : Hid (Step w w4) := Lib.hid (HS2.out.trans ((Step.trans stp HS3.out).trans HS4.out))
  have HR4 : Hid ((Ty.slice tAct).rep w4 (fun c => M3 c ∨ c = wb) [.slice a acts.length c] acts) := Lib.hid (Ty.less _ (Ty.step _ H.out HW4.out) (fun c _ hc => (HMW.out c hc).1))
  go_upto_region 9 with (go_at_call 28; refine (lSmall_ (n := 30) (fun c hc => Nat.lt_of_lt_of_le (HMW.out c hc).2 (by first | exact Nat.le_refl _ | simp)) (Ty.step _ HR4.out stp) (by omega)).mono ?_; rintro e w5 ⟨v5, rfl, hA5, hS5⟩; obtain ⟨ra, rc, rfl⟩ := hA5.val; have HS5 : Hid (Step w4 w5) := Lib.hid (Step.trans stp hS5); have HA5 := Lib.hid hA5; clear hA5 hS5)
  have HSH : Hid (∀ x ∈ smallB acts 30, (∀ r ∈ x.records, r.length ≤ 600) ∧ x.records.length ≤ 10) := Lib.hid (fun x hx => smallB_mem hx)
  have hn : (smallB acts 30).length ≤ 30 := by unfold smallB; rw [List.length_map, List.length_take]; omega
  have HPL := Lib.hid (PlAt.start (rv := .slice ra (smallB acts 30).length rc) (acts := smallB acts 30) (w0 := w) (w1 := w3) HS2.out hbw HD3.out HL3.out (fun c hc => (HM3.out c hc).imp id (fun h => by (first | exact h | (simp at h; exact h)))) (Step.trans stp HS3.out) HWB.out (HS4.out.trans HS5.out) (HC4.out.step HS5.out) (Own.rep' HA5.out (fun c hc hm => by have h1 := (HA5.out.lt hc).1; have h2 := (HMW.out c hm).2; (try simp only [World.size_alloc, World.size_drew] at h1); omega)))
  generalize smallB acts 30 = AS at *
  obtain ⟨n, hN⟩ : ∃ n, n = AS.length := ⟨_, rfl⟩
  rw [← hN] at HPL hn ⊢
  have HN := Lib.hid hN
  clear hN HA5 HS5 HR4 HW4 HMW HWB HS4 HC4 HS3 HM3 HL3 HD3 HS2 HB2 HS1 H HAW
  go_upto_block 0 with fail
  go_loopw [6, 7, 33] (fun lv ev iv w' => ∃ (k l : Nat) (M : Nat → Prop) (D : DDr) (L : DLog) (s f : Nat) (rss : List (List (List UInt8))) (fv : Value), iv = .int .i64 (k : Int) ∧ ev = .int .i64 0 ∧ lv = .pointer (some ⟨l, 0, none⟩) ∧ k ≤ n ∧ Hid (PlAt w w' M b l D L s f rss k most wb fv (.slice ra n rc) AS)) (fun _ _ iv _ => n - (Go.RowKit.intOf iv).toNat)
  case atStart => exact ⟨0, l0, _, _, _, 0, 0, [], _, rfl, rfl, rfl, Nat.zero_le _, Lib.hid (HPL.out.next stp)⟩
  case round =>
    obtain ⟨k, l, M1, D, L, s, f, rss, fv, rfl, rfl, rfl, hk, HP⟩ := hrel
    by_cases hlt : k < n
    · have hd : decide ((k : Int) < (n : Int)) = true := decide_eq_true (by omega)
      have hlt2 : k < AS.length := by rw [← HN.out]; exact hlt
      obtain ⟨g9, o9, v9, hra, hg9, q0, q1, q2, q3, q4, hr9⟩ := tAct.cells HP.out.row hlt2
      subst hra
      have HSX := Lib.hid (HSH.out _ (List.getElem_mem hlt2))
      have HLT : Hid (k + 1 ≤ n) := Lib.hid hlt
      generalize AS[k] = X at *
      obtain ⟨v, hv, hx1, hx2, hx3, hx4, hx5⟩ := hr9
      obtain rfl : v9 = v := by simpa using hv
      clear hv hlt2
      obtain ⟨kd, recs, an, arm, kp⟩ := X
      simp only at q0 q1 q2 q3 q4 hx1 hx2 hx3 hx4 hx5 HSX
      obtain ⟨r9, rc9, rfl, _, _, _⟩ := Ty.slice_val hx2
      have HR := Lib.hid hx2
      have hk30 : k < 30 := by omega
      clear hx2
      go_upto_region 11 with fail
      refine wp_codeN (fun wx => CellsAt wx wr.heap.size #[.int .i64 kd, .slice r9 recs.length rc9, .int .u64 (an : Int), .int .i64 arm, .int .i64 kp] 58 ∧ Step wr wx) ⟨CellsAt.new rfl, by (repeat (first | exact Step.refl _ | refine Step.alloc ?_ _ | refine Step.drew ?_ | refine Step.drewN ?_ _ | refine Step.setCell ?_ (by first | exact Nat.le_refl _ | assumption | omega | (simp; done) | (simp; omega)) _ | assumption | refine Step.trans ?_ (by assumption : Step _ _)))⟩ ?_
      rintro w3 ⟨hb3, hS3⟩
      obtain ⟨fb, hfb⟩ : ∃ fb, fb = wr.heap.size := ⟨_, rfl⟩
      rw [← hfb] at hb3 ⊢
      have HB3 := Lib.hid hb3
      have HP3 := Lib.hid (HP.out.next hS3)
      have HR3 := Lib.hid (Ty.step _ HR.out hS3)
      have HNF : Hid (¬ M1 fb) := Lib.hid (fun hx => by have := HP.out.old fb hx; omega)
      have k0 : w3.cell? ⟨fb, 0, none⟩ = some (.int .i64 kd) := hb3.cell 0
      have k1 : w3.cell? ⟨fb, 1, none⟩ = some (.slice r9 recs.length rc9) := hb3.cell 1
      have k2 : w3.cell? ⟨fb, 2, none⟩ = some (.int .u64 (an : Int)) := hb3.cell 2
      clear hS3 hb3 q0 q1 q2 q3 q4 hfb HP hg9 HR
      go_upto_block 2 with fail
      go_cut [6, 7] (fun s6 s7 wx => ∃ (l' : Nat) (M' : Nat → Prop) (D' : DDr) (L' : DLog) (s' f' : Nat) (rss' : List (List (List UInt8))) (fv' : Value), s6 = .pointer (some ⟨l', 0, none⟩) ∧ s7 = .int .i64 0 ∧ PlAt w wx M' b l' D' L' s' f' rss' (k + 1) most wb fv' (.slice (some ⟨g9, o9, none⟩) n rc) AS ∧ CellsAt wx fb #[.int .i64 kd, .slice r9 recs.length rc9, .int .u64 (an : Int), .int .i64 arm, .int .i64 kp] 58 ∧ ¬ M' fb)
      case first =>
        have l0 : w3.cell? ⟨l, 0, none⟩ = some (.pointer (some ⟨b, 0, none⟩)) := by
          obtain ⟨sf, sn, g, _, hL, _⟩ := HP3.out.sess.mem
          obtain ⟨fv2, h1, _⟩ := hL.row
          exact h1.cell 0
        have hfw : fb ≠ wb := fun e => HNF.out (by rw [e]; exact HP3.out.sess.in)
        by_cases d1 : kd = 1
        · subst d1
          have hflw := HB3.out.lt
          obtain ⟨S, hS⟩ : ∃ S, S = s + L.files.length := ⟨_, rfl⟩
          obtain ⟨T, hT⟩ : ∃ T, T = f + rss.flatten.length := ⟨_, rfl⟩
          have HAP := Lib.hid (fun (W : World) (M2 : Nat → Prop) (v : Value) (hW : Step w3 W) (hv : (Ty.slice Ty.bytes).rep W M2 [v] recs) => HP3.out.append2 (by omega) hm HR3.out HSX.out hS hT hW hv)
          clear hS hT
          go_upto_region 14 with (first
            | (have h7 := HA7.out; clear h7; go_at_call 14; refine (HAP.out _ _ _ stp (Own.rep (HA7.out.step stp) (fun c hc => hc))).mono ?_; rintro e w5 ⟨rfl, M5, D5, L5, rss5, S5, hg5, hmid, hrn, hra⟩; have y0 : w5.cell? ⟨wb, 0, none⟩ = some fv := hmid.ref.cell 0; have y1 : w5.cell? ⟨wb, 1, none⟩ = some (.int .u64 (S : Int)) := hmid.ref.cell 1; have y2 : w5.cell? ⟨wb, 2, none⟩ = some (.bool L.closed) := hmid.ref.cell 2; have ha5 := act_goP (HB3.out.step stp) HNF.out hg5; have k15 : w5.cell? ⟨fb, 1, none⟩ = some (.slice r9 recs.length rc9) := ha5.1.cell 1; have HMID := Lib.hid hmid; have HRN := Lib.hid hrn; have HRA := Lib.hid hra; have HA5 := Lib.hid ha5; clear hg5 hmid hrn hra ha5)
            | (go_at_call 15; refine (Copies_ _ M1 _ _ (Ty.step _ HR3.out stp)).mono ?_; rintro e7 w7 ⟨v7, rfl, hA7, hS7⟩; obtain ⟨b7, m7, rfl⟩ := hA7.val; have s7_0 : ∀ j, w7.cell? ⟨fb, j, none⟩ = _ := fun j => hS7.cell (by first | assumption | omega | (simp; done) | (simp; omega)) j; have z7_0 : fb < w7.heap.size := Nat.lt_of_lt_of_le (by first | assumption | omega | (simp; done) | (simp; omega)) hS7.size; have HA7 := Lib.hid hA7; clear hA7))
          go_upto_region 16 with (go_at_call 29; refine (HRN.out _ stp).mono ?_; rintro e w6 ⟨rfl, hS6⟩; have HS6 : Hid (Step w5 w6) := Lib.hid (Step.trans stp hS6); have z0 : ∀ j, w6.cell? ⟨wb, j, none⟩ = _ := fun j => HS6.out.cell (lt_of_cell y0) j; have z1 : ∀ j, w6.cell? ⟨fb, j, none⟩ = _ := fun j => HS6.out.cell (lt_of_cell k15) j; clear hS6)
          go_wp2_with (go_at_call 30; refine (HRA.out _ (HS6.out.trans stp)).mono ?_; rintro e w8 ⟨fv8, rfl, hrf8, hS8⟩; have HS8 : Hid (Step w5 w8) := Lib.hid (HS6.out.trans (Step.trans stp hS8)); obtain ⟨a8, c8, rfl, _, _, _⟩ := Ty.slice_val hrf8; have y8 : ∀ j, w8.cell? ⟨wb, j, none⟩ = _ := fun j => HS8.out.cell (lt_of_cell y0) j; have f8 : ∀ j, w8.frozen? ⟨wb, j, none⟩ = false := fun j => CellsAt.frozen (HMID.out.ref.step HS8.out) j; have HQ := Lib.hid (PlMid.put (HMID.out.next HS8.out) hrf8 rfl); clear hS8 hrf8)
          go_meet
          case rel => exact ⟨l, M5, D5, L5, s, f, rss5, _, rfl, rfl, HQ.out.next stp, (other3 (HA5.out.1.step HS8.out) hfw).step stp, HA5.out.2⟩
        have e1 : (kd == 1) = false := by simp [d1]
        by_cases d2 : kd = 2
        · subst d2
          go_wp2_with (go_at_call 31; refine (PlAt.flush (HP3.out.next stp) (by omega)).mono ?_; rintro e w5 ⟨rfl, M5, D5, hg5, hp5⟩; have HP5 := Lib.hid hp5; have HA5 := Lib.hid (act_goP (HB3.out.step stp) HNF.out hg5); clear hg5 hp5)
          go_meet
          case rel => exact ⟨_, _, _, _, _, _, _, _, rfl, rfl, HP5.out.next stp, HA5.out.1.step stp, HA5.out.2⟩
        have e2 : (kd == 2) = false := by simp [d2]
        by_cases d3 : kd = 3
        · subst d3
          go_wp2_with (go_at_call 32; refine (PlAt.close (HP3.out.next stp) (by omega)).mono ?_; rintro e w5 ⟨rfl, hrg, M5, D5, hg5, hp5⟩; have c2 : w5.cell? ⟨wb, 2, none⟩ = some (.bool L.closed) := hrg.cell 2; have cf : ∀ j, w5.frozen? ⟨wb, j, none⟩ = false := hrg.frozen; have HP5 := Lib.hid hp5; have HA5 := Lib.hid (act_goP (HB3.out.step stp) HNF.out hg5); clear hg5 hp5 hrg)
          go_meet
          case rel => exact ⟨_, _, _, _, _, _, _, _, rfl, rfl, HP5.out.next stp, (HA5.out.1.other (p := ⟨wb, 2, none⟩) hfw (.bool true)).step stp, HA5.out.2⟩
        have e3 : (kd == 3) = false := by simp [d3]
        by_cases d4 : kd = 4
        · subst d4
          have hflw := HB3.out.lt
          obtain ⟨S, hS⟩ : ∃ S, S = s + L.files.length := ⟨_, rfl⟩
          have HAP := Lib.hid (fun (W : World) (hW : Step w3 W) => HP3.out.drop2 (below := an) (by omega) hx3 hS hW)
          clear hS
          go_upto_region 27 with (go_at_call 33; refine (HAP.out _ stp).mono ?_; rintro e w5 ⟨rfl, M5, D5, L5, s5, f5, rss5, hg5, hmid, hcl, hra⟩; have y0 : w5.cell? ⟨wb, 0, none⟩ = some fv := hmid.ref.cell 0; have y1 : w5.cell? ⟨wb, 1, none⟩ = some (.int .u64 (S : Int)) := hmid.ref.cell 1; have y2 : w5.cell? ⟨wb, 2, none⟩ = some (.bool L.closed) := hmid.ref.cell 2; have ha5 := act_goP (HB3.out.step stp) HNF.out hg5; have k25 : w5.cell? ⟨fb, 2, none⟩ = some (.int .u64 (an : Int)) := ha5.1.cell 2; have HCL := Lib.hid hcl; have HMID := Lib.hid hmid; have HRA := Lib.hid hra; have HA5 := Lib.hid ha5; clear hg5 hmid hra ha5 hcl)
          go_wp2_with (go_at_call 34; refine (HRA.out _ stp).mono ?_; rintro e w8 ⟨fv8, rfl, hrf8, hS8⟩; have HS8 : Hid (Step w5 w8) := Lib.hid (Step.trans stp hS8); obtain ⟨a8, c8, rfl, _, _, _⟩ := Ty.slice_val hrf8; have y8 : ∀ j, w8.cell? ⟨wb, j, none⟩ = _ := fun j => HS8.out.cell (lt_of_cell y0) j; have f8 : ∀ j, w8.frozen? ⟨wb, j, none⟩ = false := fun j => CellsAt.frozen (HMID.out.ref.step HS8.out) j; have HQ := Lib.hid (PlMid.put (HMID.out.next HS8.out) hrf8 HCL.out.symm); clear hS8 hrf8)
          go_meet
          case rel => exact ⟨l, M5, D5, L5, s5, f5, rss5, _, rfl, rfl, HQ.out.next stp, (other3 (HA5.out.1.step HS8.out) hfw).step stp, HA5.out.2⟩
        have e4 : (kd == 4) = false := by simp [d4]
        by_cases d5 : kd = 5
        · subst d5
          go_wp2_with (go_at_call 12; refine (PlAt.open_ (HP3.out.next stp) (by omega) hm).mono ?_; rintro e w5 ⟨l5, rfl, hrg, M5, hg5, hp5⟩; have c2 : w5.cell? ⟨wb, 2, none⟩ = some (.bool L.closed) := hrg.cell 2; have cf : ∀ j, w5.frozen? ⟨wb, j, none⟩ = false := hrg.frozen; have HP5 := Lib.hid hp5; have HA5 := Lib.hid (act_goP (HB3.out.step stp) HNF.out hg5); clear hg5 hp5 hrg)
          go_meet
          case rel => exact ⟨_, _, _, _, _, _, _, _, rfl, rfl, HP5.out.next stp, (HA5.out.1.other (p := ⟨wb, 2, none⟩) hfw (.bool true)).step stp, HA5.out.2⟩
        have e5 : (kd == 5) = false := by simp [d5]
        go_wp2
        go_meet
        case rel => exact ⟨_, _, _, _, _, _, _, _, rfl, rfl, (HP3.out.next stp).more, HB3.out.step stp, HNF.out⟩
      case rest =>
        obtain ⟨l', M', D', L', s', f', rss', fv', rfl, rfl, hp, ha, hnf⟩ := hcut
        refine open_kkP (by assumption) ?_
        obtain ⟨fa, F, fc, S, T, cl, rfl, y0, y1, y2, hlk, hrf, hrn, hli⟩ := PlAt.eyes hp (by omega)
        have k2 : wc.cell? ⟨fb, 2, none⟩ = some (.int .u64 (an : Int)) := ha.cell 2
        have HP := Lib.hid hp
        have HLK := Lib.hid hlk
        have HRF := Lib.hid hrf
        have HRN := Lib.hid hrn
        have HLI := Lib.hid hli
        have han : an < 18446744073709551616 := hx3
        have hwq : IntKind.u64.wrap ((an : Int) / 2) = (an : Int) / 2 := by rw [IntKind.wrap_u64]; omega
        have hwa : IntKind.u64.wrap ((an : Int) / 2 + 3) = (an : Int) / 2 + 3 := by rw [IntKind.wrap_u64]; omega
        clear hp ha hnf hlk hrf hrn hli HP3 HB3 HR3 HNF k0 k1
        go_upto_region 33 with fail
        refine wp_region_held_drew (S := (fun w' => w'.cell? ⟨wb, 0, none⟩ = some (.slice fa F fc) ∧ w'.cell? ⟨wb, 1, none⟩ = some (.int .u64 (S : Int)) ∧ w'.cell? ⟨wb, 2, none⟩ = some (.bool cl) ∧ w'.cell? ⟨fb, 2, none⟩ = some (.int .u64 (an : Int)))) (by kernel_rfl) ?_ (fun hHeld => ?_)
        · (go_keep)
        refine tkH 0 ?_
        try simp only [Act.put, gtA, gtB, gtC, gtD, gtE, gtF]
        refine tkH 1 ?_
        try simp only [Act.put, gtA, gtB, gtC, gtD, gtE, gtF]
        refine tkH 2 ?_
        try simp only [Act.put, gtA, gtB, gtC, gtD, gtE, gtF]
        refine tkH 3 ?_
        try simp only [Act.put, gtA, gtB, gtC, gtD, gtE, gtF]
        refine tkH 4 ?_
        try simp only [Act.put, gtA, gtB, gtC, gtD, gtE, gtF]
        refine tkH 5 ?_
        try simp only [Act.put, gtA, gtB, gtC, gtD, gtE, gtF]
        refine tkH 6 ?_
        try simp only [Act.put, gtA, gtB, gtC, gtD, gtE, gtF]
        refine tkH 7 ?_
        try simp only [Act.put, gtA, gtB, gtC, gtD, gtE, gtF]
        refine rdH (rs := [8]) (.cons rfl (fun K hK => ?_) .nil)
        try simp only [gtA, gtB, gtC]
        go_simp
        (go_at_call 35; refine (HLK.out _ an _ (an / 2 + 3) stp (by omega)).mono ?_; rintro e w5 ⟨rfl, hS5⟩; have HS5 : Hid (Step wc w5) := Lib.hid (Step.trans stp hS5); have y5 : ∀ j, w5.cell? ⟨wb, j, none⟩ = _ := fun j => HS5.out.cell (lt_of_cell y0) j; have k5 : ∀ j, w5.cell? ⟨fb, j, none⟩ = _ := fun j => HS5.out.cell (lt_of_cell k2) j; clear hS5)
        refine hK.out _ _ ?_ (fun hHeld => ?_)
        · (go_keep)
        clear hK K
        try simp only [Act.put, gtA, gtB, gtC, gtD, gtE, gtF]
        refine tkH 9 ?_
        try simp only [Act.put, gtA, gtB, gtC, gtD, gtE, gtF]
        refine tkH 10 ?_
        try simp only [Act.put, gtA, gtB, gtC, gtD, gtE, gtF]
        refine tkH 11 ?_
        try simp only [Act.put, gtA, gtB, gtC, gtD, gtE, gtF]
        refine tkH 12 ?_
        try simp only [Act.put, gtA, gtB, gtC, gtD, gtE, gtF]
        refine tkH 13 ?_
        try simp only [Act.put, gtA, gtB, gtC, gtD, gtE, gtF]
        refine tkH 15 ?_
        try simp only [Act.put, gtA, gtB, gtC, gtD, gtE, gtF]
        refine rdH (rs := [14]) (.cons rfl (fun K hK => ?_) .nil)
        try simp only [gtA, gtB, gtC]
        go_simp
        (go_at_call 36; refine (HRF.out _ (HS5.out.trans stp)).mono ?_; rintro e w6 ⟨rfl, hS6⟩; have HS6 : Hid (Step wc w6) := Lib.hid (HS5.out.trans (Step.trans stp hS6)); have y6 : ∀ j, w6.cell? ⟨wb, j, none⟩ = _ := fun j => HS6.out.cell (lt_of_cell y0) j; have k6 : ∀ j, w6.cell? ⟨fb, j, none⟩ = _ := fun j => HS6.out.cell (lt_of_cell k2) j; clear hS6)
        refine hK.out _ _ ?_ (fun hHeld => ?_)
        · (go_keep)
        clear hK K
        try simp only [Act.put, gtA, gtB, gtC, gtD, gtE, gtF]
        refine rdH (rs := [16]) (.cons rfl (fun K hK => ?_) .nil)
        try simp only [gtA, gtB, gtC]
        go_simp
        (go_at_call 29; refine (HRN.out _ (HS6.out.trans stp)).mono ?_; rintro e w7 ⟨rfl, hS7⟩; have HS7 : Hid (Step wc w7) := Lib.hid (HS6.out.trans (Step.trans stp hS7)); have y7 : ∀ j, w7.cell? ⟨wb, j, none⟩ = _ := fun j => HS7.out.cell (lt_of_cell y0) j; have k7 : ∀ j, w7.cell? ⟨fb, j, none⟩ = _ := fun j => HS7.out.cell (lt_of_cell k2) j; clear hS7)
        refine hK.out _ _ ?_ (fun hHeld => ?_)
        · (go_keep)
        clear hK K
        try simp only [Act.put, gtA, gtB, gtC, gtD, gtE, gtF]
        refine rdH (rs := [17]) (.cons rfl (fun K hK => ?_) .nil)
        try simp only [gtA, gtB, gtC]
        go_simp
        (go_at_call 35; refine (HLK.out _ _ _ _ (HS7.out.trans stp) rfl).mono ?_; rintro e w8 ⟨rfl, hS8⟩; have HS8 : Hid (Step wc w8) := Lib.hid (HS7.out.trans (Step.trans stp hS8)); have y8 : ∀ j, w8.cell? ⟨wb, j, none⟩ = _ := fun j => HS8.out.cell (lt_of_cell y0) j; have k8 : ∀ j, w8.cell? ⟨fb, j, none⟩ = _ := fun j => HS8.out.cell (lt_of_cell k2) j; clear hS8)
        refine hK.out _ _ ?_ (fun hHeld => ?_)
        · (go_keep)
        clear hK K
        try simp only [Act.put, gtA, gtB, gtC, gtD, gtE, gtF]
        refine tkH 18 ?_
        try simp only [Act.put, gtA, gtB, gtC, gtD, gtE, gtF]
        refine tkH 19 ?_
        try simp only [Act.put, gtA, gtB, gtC, gtD, gtE, gtF]
        refine tkH 20 ?_
        try simp only [Act.put, gtA, gtB, gtC, gtD, gtE, gtF]
        refine tkH 21 ?_
        try simp only [Act.put, gtA, gtB, gtC, gtD, gtE, gtF]
        refine tkH 24 ?_
        try simp only [Act.put, gtA, gtB, gtC, gtD, gtE, gtF]
        refine tkH 25 ?_
        try simp only [Act.put, gtA, gtB, gtC, gtD, gtE, gtF]
        refine tkH 26 ?_
        try simp only [Act.put, gtA, gtB, gtC, gtD, gtE, gtF]
        refine rdH (rs := [22]) (.cons rfl (fun K hK => ?_) .nil)
        try simp only [gtA, gtB, gtC]
        go_simp
        (go_at_call 37; refine (HLI.out _ (HS8.out.trans stp)).mono ?_; rintro e w9 ⟨na, nc, rfl, hS9⟩; have HS9 : Hid (Step wc w9) := Lib.hid (HS8.out.trans (Step.trans stp hS9)); have y9 : ∀ j, w9.cell? ⟨wb, j, none⟩ = _ := fun j => HS9.out.cell (lt_of_cell y0) j; have k9 : ∀ j, w9.cell? ⟨fb, j, none⟩ = _ := fun j => HS9.out.cell (lt_of_cell k2) j; clear hS9)
        refine hK.out _ _ ?_ (fun hHeld => ?_)
        · (go_keep)
        clear hK K
        try simp only [Act.put, gtA, gtB, gtC, gtD, gtE, gtF]
        refine tkH 23 ?_
        try simp only [Act.put, gtA, gtB, gtC, gtD, gtE, gtF]
        refine tkH 27 ?_
        try simp only [Act.put, gtA, gtB, gtC, gtD, gtE, gtF]
        refine tkH 28 ?_
        try simp only [Act.put, gtA, gtB, gtC, gtD, gtE, gtF]
        refine wpAnyH_done (by kernel_rfl) ?_ _
        go_wp2
        go_roundw
        case rel => exact ⟨k + 1, l', M', D', L', s', f', rss', _, by go_num, rfl, rfl, HLT.out, Lib.hid (HP.out.next (HS9.out.trans stp))⟩
        case measure => simp [Go.RowKit.intOf]; omega
    · have hd : decide ((k : Int) < (n : Int)) = false := decide_eq_false (by omega)
      obtain ⟨C, B, hB, hmk, hbm⟩ := big_made
      have HBL := Lib.hid hB
      have HBM := Lib.hid hbm
      have kc : ∀ (W : World) (C : Array Value) (n c k : Nat), k = W.heap.size → (convert 40 40 (.slice (some ⟨k, 0, none⟩) n c)).run Tryz.prog (W.alloc (.cells C 5)) = .ok (.slice (some ⟨k, 0, none⟩) n c) (W.alloc (.cells C 5 (C.size, C.size + 1))) := fun W C n c k hk => by rw [hk]; exact Lib.run_convert_bytes_const (P := Tryz.prog) W 40 5 C n c Tryz.underlying40 Tryz.underlying5
      clear hB hbm
      go_upto_region 37 with (go_at_call 14; refine (PlAt.big (HP.out.next stp) (by omega) (list_lit2 (by simp) (Ty.step _ (bytes_lit rfl 120 rfl) stp) (HBM.out _ _ (by simp))) HBL.out).mono ?_; rintro e w5 ⟨rfl, M5, hp5⟩; obtain ⟨fa, F, fc, S, T, cl, rfl, y0, y1, y2, hlk, hrf, hrn, hli⟩ := PlAt.eyes hp5 (by omega); have HP5 := Lib.hid hp5; have HLK := Lib.hid hlk; have HRF := Lib.hid hrf; have HRN := Lib.hid hrn; clear hp5 hlk hrf hrn hli)
      refine wp_region_held_drew (S := (fun w' => w'.cell? ⟨wb, 0, none⟩ = some (.slice fa F fc) ∧ w'.cell? ⟨wb, 1, none⟩ = some (.int .u64 (S : Int)) ∧ w'.cell? ⟨wb, 2, none⟩ = some (.bool cl))) (by kernel_rfl) ?_ (fun hHeld => ?_)
      · (go_keep)
      refine tkH 0 ?_
      try simp only [Act.put, gtA, gtB, gtC, gtD, gtE, gtF]
      refine tkH 1 ?_
      try simp only [Act.put, gtA, gtB, gtC, gtD, gtE, gtF]
      refine tkH 2 ?_
      try simp only [Act.put, gtA, gtB, gtC, gtD, gtE, gtF]
      refine tkH 3 ?_
      try simp only [Act.put, gtA, gtB, gtC, gtD, gtE, gtF]
      refine tkH 4 ?_
      try simp only [Act.put, gtA, gtB, gtC, gtD, gtE, gtF]
      refine tkH 5 ?_
      try simp only [Act.put, gtA, gtB, gtC, gtD, gtE, gtF]
      refine tkH 6 ?_
      try simp only [Act.put, gtA, gtB, gtC, gtD, gtE, gtF]
      refine tkH 7 ?_
      try simp only [Act.put, gtA, gtB, gtC, gtD, gtE, gtF]
      refine tkH 8 ?_
      try simp only [Act.put, gtA, gtB, gtC, gtD, gtE, gtF]
      refine tkH 9 ?_
      try simp only [Act.put, gtA, gtB, gtC, gtD, gtE, gtF]
      refine tkH 11 ?_
      try simp only [Act.put, gtA, gtB, gtC, gtD, gtE, gtF]
      refine rdH (rs := [10]) (.cons rfl (fun K hK => ?_) .nil)
      try simp only [gtA, gtB, gtC]
      go_simp
      (go_at_call 36; refine (HRF.out _ stp).mono ?_; rintro e w6 ⟨rfl, hS6⟩; have HS6 : Hid (Step w5 w6) := Lib.hid (Step.trans stp hS6); have y6 : ∀ j, w6.cell? ⟨wb, j, none⟩ = _ := fun j => HS6.out.cell (lt_of_cell y0) j; clear hS6)
      refine hK.out _ _ ?_ (fun hHeld => ?_)
      · (go_keep)
      clear hK K
      try simp only [Act.put, gtA, gtB, gtC, gtD, gtE, gtF]
      refine rdH (rs := [12]) (.cons rfl (fun K hK => ?_) .nil)
      try simp only [gtA, gtB, gtC]
      go_simp
      (go_at_call 29; refine (HRN.out _ (HS6.out.trans stp)).mono ?_; rintro e w7 ⟨rfl, hS7⟩; have HS7 : Hid (Step w5 w7) := Lib.hid (HS6.out.trans (Step.trans stp hS7)); have y7 : ∀ j, w7.cell? ⟨wb, j, none⟩ = _ := fun j => HS7.out.cell (lt_of_cell y0) j; clear hS7)
      refine hK.out _ _ ?_ (fun hHeld => ?_)
      · (go_keep)
      clear hK K
      try simp only [Act.put, gtA, gtB, gtC, gtD, gtE, gtF]
      refine rdH (rs := [13]) (.cons rfl (fun K hK => ?_) .nil)
      try simp only [gtA, gtB, gtC]
      go_simp
      (go_at_call 35; refine (HLK.out _ _ _ _ (HS7.out.trans stp) rfl).mono ?_; rintro e w8 ⟨rfl, hS8⟩; have HS8 : Hid (Step w5 w8) := Lib.hid (HS7.out.trans (Step.trans stp hS8)); have y8 : ∀ j, w8.cell? ⟨wb, j, none⟩ = _ := fun j => HS8.out.cell (lt_of_cell y0) j; clear hS8)
      refine hK.out _ _ ?_ (fun hHeld => ?_)
      · (go_keep)
      clear hK K
      try simp only [Act.put, gtA, gtB, gtC, gtD, gtE, gtF]
      refine tkH 14 ?_
      try simp only [Act.put, gtA, gtB, gtC, gtD, gtE, gtF]
      refine tkH 15 ?_
      try simp only [Act.put, gtA, gtB, gtC, gtD, gtE, gtF]
      refine wpAnyH_done (by kernel_rfl) ?_ _
      go_wp2
      go_ret
      exact ⟨rfl, HP5.out.step.trans (HS8.out.trans stp)⟩
end Go.Proofs.YthebdlkmoailaaaGreatDoor
