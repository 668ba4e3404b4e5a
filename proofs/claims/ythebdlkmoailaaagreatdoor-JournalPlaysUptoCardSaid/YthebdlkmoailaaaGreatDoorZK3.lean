/-
  Walk: a raw operation of a drive.
-/
import Derived.Test.YthebdlkmoailaaaGreatDoorZP5
set_option linter.unusedVariables false
set_option linter.unusedSimpArgs false
namespace Go.Proofs.YthebdlkmoailaaaGreatDoor
open Go.RowKit Go.Gr Go.Maps
open Go.Proofs (encStr)
set_option linter.unusedSimpArgs false
set_option linter.unusedVariables false
theorem MapR.obj {α : Type} {P : Program} {k : TypeId} {key : α → List UInt8} {R : World → (Nat → Prop) → Value → α → Prop} {w : World} {M : Nat → Prop} {b : Nat} {xs : List α} (h : MapR P k key R w M b xs) : ∃ es clock, w.heap[b]? = some (.map es clock) := by
  obtain ⟨_, h1, _⟩ := h
  obtain ⟨es, clock, hb, _⟩ := h1.1
  exact ⟨es, clock, hb⟩
theorem equalIn_map_nil {P : Program} (w : World) (d : Nat) (t k e : TypeId) (p : Option Nat) (h : P.underlying t = some (.map k e)) : (Op.equalIn (d + 1) t (.map p) (.map none)).run P w = .ok p.isNone w := by
  cases p <;> simp [Op.equalIn, run_underlying h]
theorem eql_map_nil {P : Program} (w : World) (t k e : TypeId) (p : Option Nat) (h : P.underlying t = some (.map k e)) : (binOp .eql t (.map p) (.map none)).run P w = .ok (.bool p.isNone) w := by
  simp only [binOp]
  simp [show Op.equal t (.map p) (.map none) = Op.equalIn (9999 + 1) t (.map p) (.map none) from rfl, equalIn_map_nil w 9999 t k e p h]
theorem mayB_left {armed dead : Bool} {left e : Int} (h0 : armed = true → 0 ≤ left) (hI : I64 left) : (armed = true → 0 ≤ (mayB armed left dead e).2.1) ∧ I64 (mayB armed left dead e).2.1 := by
  unfold mayB
  split
  · exact ⟨h0, hI⟩
  · split
    · exact ⟨h0, hI⟩
    · split
      · rename_i ha
        split
        · exact ⟨h0, hI⟩
        · have := h0 ha
          unfold I64 at *
          exact ⟨fun _ => by simp only; omega, by simp only; omega⟩
      · exact ⟨h0, hI⟩
theorem stDeeds : SliceTy Tryz.prog 84 122 tDeed.n := .mk' (z := .nilIface) (by_ := 16) Tryz.underlying84 (by kernel_rfl) rfl (by decide) (by omega)
/-- A deed's two methods, whatever deed it is. -/
theorem deed_calls {w : World} {M : Nat → Prop} {xv : Value} {x : DDeed} (hx : tDeed.rep w M [xv] x) : ∃ (t : TypeId) (v : Value) (fu fd : FuncId), xv = .iface t v ∧
    (∀ W : World, (method 358 t v "groyne/drive.units").run Tryz.prog W = .ok (fu, v) W) ∧ (∀ W : World, (method 358 t v "groyne/drive.do").run Tryz.prog W = .ok (fd, v) W) ∧ (∀ W : World, (nilAhead 358 t v "groyne/drive.do").run Tryz.prog W = .ok (some false) W) ∧
    (∀ (W : World) (ar : Array Value), (callFunc fu ar).run Tryz.prog W = .ok (.enter fu ar) W) ∧ (∀ (W : World) (ar : Array Value), (callFunc fd ar).run Tryz.prog W = .ok (.enter fd ar) W) ∧
    (∀ (W : World) (MM : Nat → Prop), tDeed.rep W MM [xv] x → Calls Tryz.prog fu #[v] W fun y w' => y = .returned (.int .i64 (x.units : Nat)) ∧ Step W w') ∧
    (∀ (W : World) (MM : Nat → Prop) (mb n : Nat) (fs : List DPair), tDeed.rep W MM [xv] x → MapR Tryz.prog 9 DPair.key flR W MM mb fs → MM mb → (∀ c, MM c → c < W.heap.size) → 1 ≤ n → n ≤ x.units → x.fits fs → fs.length < maxLen →
      Calls Tryz.prog fd #[v, .map (some mb), .int .i64 (n : Int)] W fun y w' => y = .returned (.tuple #[]) ∧ MapR Tryz.prog 9 DPair.key flR w' MM mb (x.doB n fs) ∧ Turn (· = mb) W w') := by
  have hml : (1000 : Nat) ≤ maxLen := by simp [maxLen]
  cases x with
  | wr s k d =>
    obtain ⟨dv, hxv, _⟩ := hx
    obtain rfl : xv = _ := (List.cons.inj hxv).1
    refine ⟨_, _, 200, 199, rfl, fun W => by kernel_rfl, fun W => by kernel_rfl, fun W => by kernel_rfl, fun W ar => by kernel_rfl, fun W ar => by kernel_rfl, fun W MM h => ?_, fun W MM mb n fs h hm hM hMl h1 h2 hf hl => ?_⟩
    · obtain ⟨dv', hv', hd⟩ := h
      obtain rfl : dv = dv' := by simpa using hv'
      exact wUnits_ hd
    · obtain ⟨dv', hv', hd⟩ := h
      obtain rfl : dv = dv' := by simpa using hv'
      exact wDo_ hd hm hM hMl h1 h2 hf.1 hf.2.1 hl (by have := hf.2.2; omega)
  | tr s z =>
    obtain rfl : xv = _ := (List.cons.inj (show [xv] = [_] from hx)).1
    refine ⟨_, _, 198, 197, rfl, fun W => by kernel_rfl, fun W => by kernel_rfl, fun W => by kernel_rfl, fun W ar => by kernel_rfl, fun W ar => by kernel_rfl, fun W MM h => tUnits_ _ _ _, fun W MM mb n fs h hm hM hMl h1 h2 hf hl => ?_⟩
    exact tDo_ hm hM hMl (by have := hf.2; omega) hl hf.1
  | rm s =>
    obtain rfl : xv = _ := (List.cons.inj (show [xv] = [_] from hx)).1
    refine ⟨_, _, 202, 201, rfl, fun W => by kernel_rfl, fun W => by kernel_rfl, fun W => by kernel_rfl, fun W ar => by kernel_rfl, fun W ar => by kernel_rfl, fun W MM h => rmUnits_ _ _, fun W MM mb n fs h hm hM hMl h1 h2 hf hl => ?_⟩
    exact rmDo_ hm hM (show s.length ≤ maxLen by have : s.length ≤ 1000 := hf; omega)
set_option maxRecDepth 100000 in
set_option maxHeartbeats 8000000 in
theorem dRaw_ {w : World} {M : Nat → Prop} {b : Nat} {sf sn : Option Nat} {D : DDr} {xv : Value} {x : DDeed} {e : Int} (h : DriveAt w M b sf sn D) (hx : tDeed.rep w M [xv] x) (he : I64 e)
    (hf : (mayB D.armed D.left D.dead e).1.1 = true ∨ (mayB D.armed D.left D.dead e).1.2.1 = true → x.fits D.seen) (hq : D.safe.length + D.queue.length < 1000000) :
    Calls Tryz.prog 59 #[.pointer (some ⟨b, 0, none⟩), xv, .int .i64 e] w fun y w' => y = .returned (.int .i64 (rawB D x e).2) ∧ ∃ M' sf' sn', DriveAt w' M' b sf' sn' (rawB D x e).1 ∧ DGo b w M sf sn w' M' sf' sn' := by
  obtain ⟨⟨queue, hr, hqu⟩, hs, hn, hne, ho, hold, hwf⟩ := h
  have HMAY := Lib.hid (dMay_ (e := e) hr hwf.left0 hwf.leftI.2)
  have hblt := hr.lt
  obtain ⟨m, hm⟩ : ∃ m, m = mayB D.armed D.left D.dead e := ⟨_, rfl⟩
  rw [← hm] at HMAY hf
  have hRB : rawB D x e = if m.1.1 = true ∨ m.1.2.1 = true then ({ D with seen := x.doB x.units D.seen, queue := D.queue ++ [x], left := m.2.1, dead := m.2.2 }, m.1.2.2) else ({ D with left := m.2.1, dead := m.2.2 }, m.1.2.2) := by rw [hm]; rfl
  rw [hRB]
  have HN := Lib.hid hn
  have hrb := hr
  have hfs : D.seen.length < maxLen := by have := hwf.seenFew; simp [maxLen]; omega
  have hml := mayB_left (dead := D.dead) (e := e) hwf.left0 hwf.leftI
  rw [← hm] at hml
  have HW1 : Hid (m.1.1 = true ∨ m.1.2.1 = true → ({ D with seen := x.doB x.units D.seen, queue := D.queue ++ [x], left := m.2.1, dead := m.2.2 } : DDr).Wf) := Lib.hid (fun hd => ⟨fitsQ_snoc hwf.fit (by rw [← hwf.same]; exact hf hd), by rw [doAll_snoc, ← hwf.same], by simp; omega, hml.1, hml.2⟩)
  have HW2 : Hid (({ D with left := m.2.1, dead := m.2.2 } : DDr).Wf) := Lib.hid ⟨hwf.fit, hwf.same, hwf.few, hml.1, hml.2⟩
  have HSF0 : Hid (∀ m, sf = some m → m < w.heap.size ∧ m ≠ b ∧ sn ≠ some m) := Lib.hid (fun m hm => by
    rcases hs with ⟨h1, _⟩ | ⟨m', h1, _, hmp⟩
    · rw [hm] at h1; cases h1
    · obtain rfl : m = m' := by rw [hm] at h1; injection h1 with h1; injection h1
      refine ⟨hmp.lt, ?_, hne m hm⟩
      obtain ⟨es, cl, hob⟩ := MapR.obj hmp
      rintro rfl
      rw [show w.heap[m]? = _ from hr] at hob
      cases hob)
  clear hRB hm hr hml
  obtain ⟨⟨m1, m2, m3⟩, m4, m5⟩ := m
  simp only at HMAY hf HW1 HW2 ⊢
  by_cases hdo : m1 = true ∨ m2 = true
  · rw [if_pos hdo]
    have hfit := hf hdo
    have HWF := Lib.hid (HW1.out hdo)
    clear HW1 HW2
    have HF := Lib.hid hfit
    have HX := Lib.hid hx
    clear hfit hf
    rcases hn with ⟨hn1, hn2⟩ | ⟨mb, hn1, hMmb0, hmap⟩
    · have hsn : sn = none := by injection hn1
      rw [hsn] at HMAY
      have HSN := Lib.hid hsn
      clear hsn
      have HSEEN : Hid (D.seen = []) := Lib.hid hn2
      clear hn1 hn2 HN
      have hnil : ∀ W : World, (binOp .eql 83 (.map none) (.map none)).run Tryz.prog W = .ok (.bool true) W := fun W => eql_map_nil W _ _ _ none Tryz.underlying83
      have hmm := @run_makeMap Tryz.prog
      go_enter Tryz.func59, Tryz.ntmps59
      cases m1 with
      | true =>
        go_upto_region 3 with (go_at_call 64; refine HMAY.out.mono ?_; rintro y w0 ⟨rfl, hC1, hT1⟩; have p1 : w0.cell? ⟨b, 1, none⟩ = some (.map none) := hC1.cell 1; have HC1 := Lib.hid hC1; have HT1 := Lib.hid hT1; clear hC1 hT1)
        have c1 : w0.cell? ⟨b, 1, none⟩ = some (.map none) := HC1.out.cell 1
        have f1 : w0.frozen? ⟨b, 1, none⟩ = false := HC1.out.frozen 1
        have hz0 := HT1.out.size
        have f1' : (w0.alloc (.map #[] 0)).frozen? ⟨b, 1, none⟩ = false := (Step.frozen ((Step.refl w0).alloc _) (by omega) _).trans f1
        have c1' : (w0.alloc (.map #[] 0)).cell? ⟨b, 1, none⟩ = some (.map none) := (Step.cell ((Step.refl w0).alloc _) (by omega) _).trans c1
        go_upto_region 5 with fail
        refine wp_code (fun wx => DrAt wx b (.map sf) (.map (some w0.heap.size)) queue D.room D.armed m4 m5 ∧ wx.heap[w0.heap.size]? = some (.map #[] 0) ∧ Turn (· = b) w wx ∧ wx.heap.size = w0.heap.size + 1) ?_ ?_
        · refine ⟨CellsAt.set (CellsAt.step HC1.out ((Step.refl _).alloc _)) 1 _, ?_, (HT1.out.alloc _).setCell (p := ⟨b, 1, none⟩) (fun _ => rfl) _, by simp⟩
          rw [heap_setCell_other _ _ _ _ (by simp; omega)]
          exact heap_alloc_new _ _
        rintro w1 ⟨hC2, hg2, hT2, hz2⟩
        clear HC1 HT1 p1 c1 f1 c1' f1'
        obtain ⟨mb, hmb⟩ : ∃ mb, mb = w0.heap.size := ⟨_, rfl⟩
        rw [← hmb] at hC2 hg2 hz2 ⊢
        have p1 : w1.cell? ⟨b, 1, none⟩ = some (.map (some mb)) := hC2.cell 1
        have HC1 := Lib.hid hC2
        have HT1 := Lib.hid hT2
        have hne2 : b ≠ mb := by omega
        have HMBT : Hid (w.heap.size ≤ mb ∨ sn = some mb) := Lib.hid (.inl (by omega))
        have HSF : Hid (∀ m, sf = some m → m < w.heap.size ∧ m ≠ b ∧ m ≠ mb) := Lib.hid (fun m hm => ⟨(HSF0.out m hm).1, (HSF0.out m hm).2.1, by have := (HSF0.out m hm).1; omega⟩)
        obtain ⟨MM, hmore, hless, hold1, HMP1, ho2⟩ : ∃ MM : Nat → Prop, (∀ c, M c → MM c) ∧ (∀ c, c < w.heap.size → MM c → M c) ∧ (∀ c, MM c → c < w1.heap.size) ∧ Hid (MapR Tryz.prog 9 DPair.key flR w1 MM mb D.seen) ∧ (∀ c, DM b sf (some mb) c → MM c) :=
          ⟨fun c => M c ∨ c = mb, fun _ h => .inl h, fun c hc h => h.elim id (fun h => by omega), fun c hc => by rcases hc with hc | hc; have := hold c hc; omega; omega, Lib.hid (by rw [HSEEN.out]; exact MapR.empty hg2), fun c hc => by
            rcases hc with hc | hc | hc
            · exact .inl (ho c (.inl hc))
            · exact .inl (ho c (.inr (.inl hc)))
            · injection hc with hc; exact .inr hc.symm⟩
        have hz1 := HT1.out.size
        clear hC2 hg2 hT2 hmb hz0 HSF0 HSEEN
        have hkp : ∀ c, c < w.heap.size → ¬ M c → w1.heap[c]? = w.heap[c]? ∧ ¬ MM c := fun c hc hm => ⟨HT1.out.block c hc (fun e => hm (ho c (.inl e))), fun h => hm (hless c hc h)⟩
        have HX1 : Hid (tDeed.rep w1 MM [xv] x) := Lib.hid (tDeed.keep HX.out hkp)
        have hMmb : MM mb := ho2 mb (.inr (.inr rfl))
        obtain ⟨xw, hxw⟩ : ∃ xw, xw = xv := ⟨_, rfl⟩
        obtain ⟨xd, hxd⟩ : ∃ xd, xd = x := ⟨_, rfl⟩
        rw [← hxw, ← hxd] at hx
        clear HX hnil
        obtain ⟨ti, vi, fu, fd, hxv, hmu, hmd, hna, hcu, hcd, hun, hdo2⟩ := deed_calls HX1.out
        subst hxv
        obtain ⟨N, hN⟩ : ∃ N : Nat, N = x.units := ⟨_, rfl⟩
        have HNN := Lib.hid hN
        have hNp := x.units_pos
        have HUN : Hid (∀ W : World, Step w1 W → Calls Tryz.prog fu #[vi] W fun y w' => y = .returned (.int .i64 (N : Int)) ∧ Step W w') := Lib.hid (fun W hW => by rw [hN]; exact hun W MM (Ty.step _ HX1.out hW))
        have HDO : Hid (∀ W : World, Step w1 W → Calls Tryz.prog fd #[vi, .map (some mb), .int .i64 (N : Int)] W fun y w' => y = .returned (.tuple #[]) ∧ MapR Tryz.prog 9 DPair.key flR w' MM mb (x.doB N D.seen) ∧ Turn (· = mb) W w') := Lib.hid (fun W hW => hdo2 W MM mb N D.seen (Ty.step _ HX1.out hW) (HMP1.out.step keep_flR hW) hMmb (fun c hc => Nat.lt_of_lt_of_le (hold1 c hc) hW.size) (by omega) (by omega) HF.out hfs)
        clear hun hdo2 hN hNp HF HX1
        refine wp_region_held_drew (S := (fun w' => w'.cell? ⟨b, 1, none⟩ = some (.map (some mb)))) (by kernel_rfl) ?_ (fun hHeld => ?_)
        · (go_keep)
        refine tkH 0 ?_
        try simp only [Act.put, gtA, gtB, gtC, gtD, gtE, gtF]
        refine tkH 1 ?_
        try simp only [Act.put, gtA, gtB, gtC, gtD, gtE, gtF]
        refine tkH 2 ?_
        try simp only [Act.put, gtA, gtB, gtC, gtD, gtE, gtF]
        refine tkH 3 ?_
        try simp only [Act.put, gtA, gtB, gtC, gtD, gtE, gtF]
        refine tkH 4 ?_
        try simp only [Act.put, gtA, gtB, gtC, gtD, gtE, gtF]
        refine tkH 5 ?_
        try simp only [Act.put, gtA, gtB, gtC, gtD, gtE, gtF]
        refine tkH 7 ?_
        try simp only [Act.put, gtA, gtB, gtC, gtD, gtE, gtF]
        refine tkH 8 ?_
        try simp only [Act.put, gtA, gtB, gtC, gtD, gtE, gtF]
        refine tkH 9 ?_
        try simp only [Act.put, gtA, gtB, gtC, gtD, gtE, gtF]
        refine rdH (rs := [6]) (.cons rfl (fun K hK => ?_) .nil)
        try simp only [gtA, gtB, gtC]
        go_simp
        refine (HUN.out _ stp).mono ?_; rintro y w2 ⟨rfl, hS2⟩; have s2 : ∀ j, w2.cell? ⟨b, j, none⟩ = _ := fun j => hS2.cell (by first | assumption | omega | (simp; done) | (simp; omega)) j; have HS2 : Hid (Step w1 w2) := Lib.hid (Step.trans stp hS2); have hz2 := HS2.out.size; clear hS2
        refine hK.out _ _ ?_ (fun hHeld => ?_)
        · (go_keep)
        clear hK K
        try simp only [Act.put, gtA, gtB, gtC, gtD, gtE, gtF]
        refine rdH (rs := [10]) (.cons rfl (fun K hK => ?_) .nil)
        try simp only [gtA, gtB, gtC]
        go_simp
        refine (HDO.out _ HS2.out).mono ?_; rintro y w3 ⟨rfl, hm3, hT3⟩; have s3 : ∀ j, w3.cell? ⟨b, j, none⟩ = _ := fun j => hT3.cell (by first | assumption | omega | (simp; done) | (simp; omega)) hne2 j; have HM3 := Lib.hid hm3; have HT3 := Lib.hid hT3; clear hm3 hT3
        refine hK.out _ _ ?_ (fun hHeld => ?_)
        · (go_keep)
        clear hK K
        try simp only [Act.put, gtA, gtB, gtC, gtD, gtE, gtF]
        refine wpAnyH_done (by kernel_rfl) ?_ _
        have hb3 : w3.heap[b]? = w1.heap[b]? := (HT3.out.block b (by omega) (fun er => hne2 er)).trans (HS2.out.heap (by omega))
        have HT : Hid (Turn (fun c => w.heap.size ≤ c ∨ DM b sf sn c) w w3) := Lib.hid ((HT1.out.mono (fun c hc hm => .inr (.inl hm))).trans ((Turn.of HS2.out).trans (HT3.out.mono (fun c hc hm => HMBT.out.elim (fun h => .inl (by omega)) (fun h => .inr (.inr (.inr (by rw [hm]; exact h))))))))
        have HTN : Hid (Turn (fun c => c = b ∨ c = mb) w w3) := Lib.hid ((HT1.out.mono (fun c hc hm => .inl hm)).trans ((Turn.of HS2.out).trans (HT3.out.mono (fun c hc hm => .inr hm))))
        have hkp3 : ∀ c, c < w.heap.size → ¬ M c → w3.heap[c]? = w.heap[c]? ∧ ¬ MM c := fun c hc hm => ⟨HT.out.block c hc (fun hx => by rcases hx with hx | hx; omega; exact hm (ho c hx)), fun h => hm (hless c hc h)⟩
        have hz3 := HT3.out.size
        have hC3 := HC1.out.kept hb3
        obtain ⟨qa, qc, hqv, hqc, _, hql⟩ := Ty.slice_val hqu
        subst hqv
        have HQ3 := Lib.hid ((Ty.slice tDeed).keep hqu hkp3)
        have c2 : w3.cell? ⟨b, 2, none⟩ = some (.slice qa D.queue.length qc) := hC3.cell 2
        have f2 : w3.frozen? ⟨b, 2, none⟩ = false := hC3.frozen 2
        have HC3 := Lib.hid hC3
        have HX3 : Hid (tDeed.rep w3 MM [xw] xd) := Lib.hid (tDeed.keep hx hkp3)
        have HQF : Hid ((Ty.slice tDeed).rep w3 MM [.slice qa D.queue.length D.queue.length] D.queue) := Lib.hid (by
          obtain ⟨a', c', hv, g1, g2, g3, hc⟩ := HQ3.out
          simp only [List.cons.injEq, Value.slice.injEq, and_true] at hv
          obtain ⟨rfl, hzz, rfl⟩ := hv
          exact ⟨qa, _, rfl, Nat.le_refl _, by omega, g3, hc⟩)
        have hqn : D.queue.length < 1000000 := by omega
        generalize hQN : D.queue.length = QN at *
        rw [hxw] at HX3
        have hlm : D.queue.length + 1 ≤ lim := by rw [hQN, lim_eq]; omega
        have hblt3 : b < w3.heap.size := by omega
        clear hkp3 hC3 hb3 p1 hHeld hqu hx hrb HMAY HC1 HQ3 hmu hmd hna hcu hcd HUN HDO s2 s3
        go_upto_region 6 with fail
        refine wp_region_cut (S := (fun w' => w'.cell? ⟨b, 2, none⟩ = some (.slice qa QN qc))) 21 (by kernel_rfl) ?_ (fun hHeld => ?_)
        · (go_keep)
        refine tkC 0 [19, 20, 21] ?_
        try simp only [Act.put, gtA, gtB, gtC, gtD, gtE, gtF]
        refine tkC 1 [2, 3, 4, 15, 18, 19, 20, 21] ?_
        try simp only [Act.put, gtA, gtB, gtC, gtD, gtE, gtF]
        refine tkC 2 [3, 4, 15, 18, 19, 20, 21] ?_
        try simp only [Act.put, gtA, gtB, gtC, gtD, gtE, gtF]
        refine tkC 3 [4, 15, 18, 19, 20, 21] ?_
        try simp only [Act.put, gtA, gtB, gtC, gtD, gtE, gtF]
        refine tkC 4 [15, 18, 19, 20, 21] ?_
        try simp only [Act.put, gtA, gtB, gtC, gtD, gtE, gtF]
        refine tkC 5 [6, 7, 8, 9, 15, 18, 19, 20, 21] ?_
        try simp only [Act.put, gtA, gtB, gtC, gtD, gtE, gtF]
        refine tkC 6 [7, 8, 9, 15, 18, 19, 20, 21] ?_
        try simp only [Act.put, gtA, gtB, gtC, gtD, gtE, gtF]
        refine tkC 7 [8, 9, 15, 18, 19, 20, 21] ?_
        try simp only [Act.put, gtA, gtB, gtC, gtD, gtE, gtF]
        refine tkC 8 [9, 15, 18, 19, 20, 21] ?_
        try simp only [Act.put, gtA, gtB, gtC, gtD, gtE, gtF]
        refine tkC 9 [15, 18, 19, 20, 21] ?_
        try simp only [Act.put, gtA, gtB, gtC, gtD, gtE, gtF]
        refine tkC 10 [11, 12, 13, 14, 15, 18, 19, 20, 21] ?_
        try simp only [Act.put, gtA, gtB, gtC, gtD, gtE, gtF]
        refine tkC 11 [12, 13, 14, 15, 18, 19, 20, 21] ?_
        try simp only [Act.put, gtA, gtB, gtC, gtD, gtE, gtF]
        refine tkC 12 [13, 14, 15, 18, 19, 20, 21] ?_
        try simp only [Act.put, gtA, gtB, gtC, gtD, gtE, gtF]
        refine tkC 13 [14, 15, 18, 19, 20, 21] ?_
        try simp only [Act.put, gtA, gtB, gtC, gtD, gtE, gtF]
        refine tkC 14 [15, 18, 19, 20, 21] ?_
        try simp only [Act.put, gtA, gtB, gtC, gtD, gtE, gtF]
        refine tkC 15 [18, 19, 20, 21] ?_
        try simp only [Act.put, gtA, gtB, gtC, gtD, gtE, gtF]
        refine tkC 16 [17, 18, 19, 20, 21] ?_
        try simp only [Act.put, gtA, gtB, gtC, gtD, gtE, gtF]
        refine rdC (rs := [17]) (.cons rfl (by decide) (fun K hK => ?_) .nil)
        try simp only [gtA, gtB, gtC]
        go_simp
        refine hK.out _ _ ?_ (fun hHeld => ?_)
        · (go_keep)
        clear hK K
        try simp only [Act.put, gtA, gtB, gtC, gtD, gtE, gtF]
        refine rdC (rs := [18]) (.cons rfl (by decide) (fun K hK => ?_) .nil)
        try simp only [gtA, gtB, gtC]
        refine ite_then rfl ?_; refine wp_append_full (E := tDeed) (M := MM) (xs := D.queue) (ys := [xd]) (.tmp 55) (.tmp 57) rfl stDeeds (by rw [hQN]; exact Ty.step _ HQF.out stp) (Src.oneAt (by first | rfl | simp) (Ty.step _ HX3.out stp)) (by simp) hlm (by rw [hQN]; rfl) (by rfl) ?_; intro v4 w4 hA4 hS4; obtain ⟨a4, n4, c4, rfl, HN4⟩ := hA4.valN; have s4 : ∀ j, w4.cell? ⟨b, j, none⟩ = w3.cell? ⟨b, j, none⟩ := fun j => (hS4.cell (Nat.lt_of_lt_of_le hblt3 (Step.size (stp : Step w3 _))) j).trans (Step.cell (stp : Step w3 _) (by omega) j); have t4 : ∀ j, w4.frozen? ⟨b, j, none⟩ = w3.frozen? ⟨b, j, none⟩ := fun j => (hS4.frozen (Nat.lt_of_lt_of_le hblt3 (Step.size (stp : Step w3 _))) j).trans (Step.frozen (stp : Step w3 _) (by omega) j); have HA4 := Lib.hid hA4; have HS4 : Hid (Step w3 w4) := Lib.hid (Step.trans stp hS4); clear hA4 hS4
        refine hK.out _ _ ?_ (fun hHeld => ?_)
        · (go_keep)
        clear hK K
        try simp only [Act.put, gtA, gtB, gtC, gtD, gtE, gtF]
        refine tkC 19 [20, 21] ?_
        try simp only [Act.put, gtA, gtB, gtC, gtD, gtE, gtF]
        refine tkC 20 [21] ?_
        try simp only [Act.put, gtA, gtB, gtC, gtD, gtE, gtF]
        refine rdC (rs := [21]) (.cut rfl (fun K hK => ?_))
        try simp only [gtA, gtB, gtC]
        go_simp
        refine hK.out _ _ trivial (fun hHeld => ?_)
        clear hK K
        try simp only [Act.put, gtA, gtB, gtC, gtD, gtE, gtF]
        have hTrue : True := trivial
        refine wpAnyH_done (by kernel_rfl) ?_ _
        go_wp2
        go_ret
        have hz4 := HS4.out.size
        have hkp4 : ∀ c, c < w.heap.size → ¬ M c → (w4.setCell ⟨b, 2, none⟩ (.slice a4 n4 c4)).heap[c]? = w.heap[c]? ∧ ¬ MM c := fun c hc hm => ⟨(Below.heap_setCell _ _ _ _ (fun er => hm (ho c (.inl er)))).trans ((HS4.out.heap (by omega)).trans (HT.out.block c hc (fun hx => by rcases hx with hx | hx; omega; exact hm (ho c hx)))), fun h => hm (hless c hc h)⟩
        have HTF : Turn (fun c => w.heap.size ≤ c ∨ DM b sf sn c) w (w4.setCell ⟨b, 2, none⟩ (.slice a4 n4 c4)) := (HT.out.then HS4.out).setCell (p := ⟨b, 2, none⟩) (fun _ => .inr (.inl rfl)) _
        have HTN4 : Turn (fun c => c = b ∨ c = mb) w (w4.setCell ⟨b, 2, none⟩ (.slice a4 n4 c4)) := (HTN.out.then HS4.out).setCell (p := ⟨b, 2, none⟩) (fun _ => .inl rfl) _
        refine ⟨rfl, MM, sf, some mb, ⟨⟨.slice a4 n4 c4, ?_, ?_⟩, ?_, ?_, fun m hm er => (HSF.out m hm).2.2 (by injection er with er; exact er.symm), ho2, fun c hc => ?_, HWF.out⟩, ⟨HTF, hmore, hless, fun c hc hd => ?_⟩⟩
        · exact CellsAt.set (CellsAt.step HC3.out HS4.out) 2 _
        · refine Ty.kept _ ?_ (Kept.setCell w4 ⟨b, 2, none⟩ _ (ho2 b (.inl rfl)))
          rw [← hxd]
          refine Own.rep' HA4.out (fun c hc hm => ?_)
          have h1 := (HA4.out.lt hc).1
          have h2 := hold1 c hm
          simp at h1
          omega
        · exact hs.keep2 (fun m hm => ⟨HTN4.block m (HSF.out m hm).1 (fun hx => hx.elim (HSF.out m hm).2.1 (HSF.out m hm).2.2), ho2 m (.inr (.inl hm))⟩) hkp4
        · refine .inr ⟨mb, rfl, hMmb, ?_⟩
          have hM5 := (HM3.out.step keep_flR HS4.out).keep (w' := w4.setCell ⟨b, 2, none⟩ (.slice a4 n4 c4)) (M' := MM) keep_flR (Below.heap_setCell _ _ _ _ (fun er => hne2 er.symm)) (fun c hc hm => ⟨Below.heap_setCell _ _ _ _ (fun er => hm (ho2 c (.inl er))), hm⟩)
          first | exact hM5 | (rw [HNN.out] at hM5; exact hM5)
        · have h2 := hold1 c hc
          have : (w4.setCell ⟨b, 2, none⟩ (.slice a4 n4 c4)).heap.size = w4.heap.size := by simp
          omega
        · rcases hd with hd | hd | hd
          · exact .inl hd
          · exact .inr (.inl hd)
          · injection hd with hd
            exact HMBT.out.elim (fun h => by omega) (fun h => .inr (.inr (by rw [← hd]; exact h)))


      | false =>
        obtain rfl : m2 = true := by simpa using hdo
        go_upto_region 3 with (go_at_call 64; refine HMAY.out.mono ?_; rintro y w0 ⟨rfl, hC1, hT1⟩; have p1 : w0.cell? ⟨b, 1, none⟩ = some (.map none) := hC1.cell 1; have HC1 := Lib.hid hC1; have HT1 := Lib.hid hT1; clear hC1 hT1)
        have c1 : w0.cell? ⟨b, 1, none⟩ = some (.map none) := HC1.out.cell 1
        have f1 : w0.frozen? ⟨b, 1, none⟩ = false := HC1.out.frozen 1
        have hz0 := HT1.out.size
        have f1' : (w0.alloc (.map #[] 0)).frozen? ⟨b, 1, none⟩ = false := (Step.frozen ((Step.refl w0).alloc _) (by omega) _).trans f1
        have c1' : (w0.alloc (.map #[] 0)).cell? ⟨b, 1, none⟩ = some (.map none) := (Step.cell ((Step.refl w0).alloc _) (by omega) _).trans c1
        go_upto_region 5 with fail
        refine wp_code (fun wx => DrAt wx b (.map sf) (.map (some w0.heap.size)) queue D.room D.armed m4 m5 ∧ wx.heap[w0.heap.size]? = some (.map #[] 0) ∧ Turn (· = b) w wx ∧ wx.heap.size = w0.heap.size + 1) ?_ ?_
        · refine ⟨CellsAt.set (CellsAt.step HC1.out ((Step.refl _).alloc _)) 1 _, ?_, (HT1.out.alloc _).setCell (p := ⟨b, 1, none⟩) (fun _ => rfl) _, by simp⟩
          rw [heap_setCell_other _ _ _ _ (by simp; omega)]
          exact heap_alloc_new _ _
        rintro w1 ⟨hC2, hg2, hT2, hz2⟩
        clear HC1 HT1 p1 c1 f1 c1' f1'
        obtain ⟨mb, hmb⟩ : ∃ mb, mb = w0.heap.size := ⟨_, rfl⟩
        rw [← hmb] at hC2 hg2 hz2 ⊢
        have p1 : w1.cell? ⟨b, 1, none⟩ = some (.map (some mb)) := hC2.cell 1
        have HC1 := Lib.hid hC2
        have HT1 := Lib.hid hT2
        have hne2 : b ≠ mb := by omega
        have HMBT : Hid (w.heap.size ≤ mb ∨ sn = some mb) := Lib.hid (.inl (by omega))
        have HSF : Hid (∀ m, sf = some m → m < w.heap.size ∧ m ≠ b ∧ m ≠ mb) := Lib.hid (fun m hm => ⟨(HSF0.out m hm).1, (HSF0.out m hm).2.1, by have := (HSF0.out m hm).1; omega⟩)
        obtain ⟨MM, hmore, hless, hold1, HMP1, ho2⟩ : ∃ MM : Nat → Prop, (∀ c, M c → MM c) ∧ (∀ c, c < w.heap.size → MM c → M c) ∧ (∀ c, MM c → c < w1.heap.size) ∧ Hid (MapR Tryz.prog 9 DPair.key flR w1 MM mb D.seen) ∧ (∀ c, DM b sf (some mb) c → MM c) :=
          ⟨fun c => M c ∨ c = mb, fun _ h => .inl h, fun c hc h => h.elim id (fun h => by omega), fun c hc => by rcases hc with hc | hc; have := hold c hc; omega; omega, Lib.hid (by rw [HSEEN.out]; exact MapR.empty hg2), fun c hc => by
            rcases hc with hc | hc | hc
            · exact .inl (ho c (.inl hc))
            · exact .inl (ho c (.inr (.inl hc)))
            · injection hc with hc; exact .inr hc.symm⟩
        have hz1 := HT1.out.size
        clear hC2 hg2 hT2 hmb hz0 HSF0 HSEEN
        have hkp : ∀ c, c < w.heap.size → ¬ M c → w1.heap[c]? = w.heap[c]? ∧ ¬ MM c := fun c hc hm => ⟨HT1.out.block c hc (fun e => hm (ho c (.inl e))), fun h => hm (hless c hc h)⟩
        have HX1 : Hid (tDeed.rep w1 MM [xv] x) := Lib.hid (tDeed.keep HX.out hkp)
        have hMmb : MM mb := ho2 mb (.inr (.inr rfl))
        obtain ⟨xw, hxw⟩ : ∃ xw, xw = xv := ⟨_, rfl⟩
        obtain ⟨xd, hxd⟩ : ∃ xd, xd = x := ⟨_, rfl⟩
        rw [← hxw, ← hxd] at hx
        clear HX hnil
        obtain ⟨ti, vi, fu, fd, hxv, hmu, hmd, hna, hcu, hcd, hun, hdo2⟩ := deed_calls HX1.out
        subst hxv
        obtain ⟨N, hN⟩ : ∃ N : Nat, N = x.units := ⟨_, rfl⟩
        have HNN := Lib.hid hN
        have hNp := x.units_pos
        have HUN : Hid (∀ W : World, Step w1 W → Calls Tryz.prog fu #[vi] W fun y w' => y = .returned (.int .i64 (N : Int)) ∧ Step W w') := Lib.hid (fun W hW => by rw [hN]; exact hun W MM (Ty.step _ HX1.out hW))
        have HDO : Hid (∀ W : World, Step w1 W → Calls Tryz.prog fd #[vi, .map (some mb), .int .i64 (N : Int)] W fun y w' => y = .returned (.tuple #[]) ∧ MapR Tryz.prog 9 DPair.key flR w' MM mb (x.doB N D.seen) ∧ Turn (· = mb) W w') := Lib.hid (fun W hW => hdo2 W MM mb N D.seen (Ty.step _ HX1.out hW) (HMP1.out.step keep_flR hW) hMmb (fun c hc => Nat.lt_of_lt_of_le (hold1 c hc) hW.size) (by omega) (by omega) HF.out hfs)
        clear hun hdo2 hN hNp HF HX1
        refine wp_region_held_drew (S := (fun w' => w'.cell? ⟨b, 1, none⟩ = some (.map (some mb)))) (by kernel_rfl) ?_ (fun hHeld => ?_)
        · (go_keep)
        refine tkH 0 ?_
        try simp only [Act.put, gtA, gtB, gtC, gtD, gtE, gtF]
        refine tkH 1 ?_
        try simp only [Act.put, gtA, gtB, gtC, gtD, gtE, gtF]
        refine tkH 2 ?_
        try simp only [Act.put, gtA, gtB, gtC, gtD, gtE, gtF]
        refine tkH 3 ?_
        try simp only [Act.put, gtA, gtB, gtC, gtD, gtE, gtF]
        refine tkH 4 ?_
        try simp only [Act.put, gtA, gtB, gtC, gtD, gtE, gtF]
        refine tkH 5 ?_
        try simp only [Act.put, gtA, gtB, gtC, gtD, gtE, gtF]
        refine tkH 7 ?_
        try simp only [Act.put, gtA, gtB, gtC, gtD, gtE, gtF]
        refine tkH 8 ?_
        try simp only [Act.put, gtA, gtB, gtC, gtD, gtE, gtF]
        refine tkH 9 ?_
        try simp only [Act.put, gtA, gtB, gtC, gtD, gtE, gtF]
        refine rdH (rs := [6]) (.cons rfl (fun K hK => ?_) .nil)
        try simp only [gtA, gtB, gtC]
        go_simp
        refine (HUN.out _ stp).mono ?_; rintro y w2 ⟨rfl, hS2⟩; have s2 : ∀ j, w2.cell? ⟨b, j, none⟩ = _ := fun j => hS2.cell (by first | assumption | omega | (simp; done) | (simp; omega)) j; have HS2 : Hid (Step w1 w2) := Lib.hid (Step.trans stp hS2); have hz2 := HS2.out.size; clear hS2
        refine hK.out _ _ ?_ (fun hHeld => ?_)
        · (go_keep)
        clear hK K
        try simp only [Act.put, gtA, gtB, gtC, gtD, gtE, gtF]
        refine rdH (rs := [10]) (.cons rfl (fun K hK => ?_) .nil)
        try simp only [gtA, gtB, gtC]
        go_simp
        refine (HDO.out _ HS2.out).mono ?_; rintro y w3 ⟨rfl, hm3, hT3⟩; have s3 : ∀ j, w3.cell? ⟨b, j, none⟩ = _ := fun j => hT3.cell (by first | assumption | omega | (simp; done) | (simp; omega)) hne2 j; have HM3 := Lib.hid hm3; have HT3 := Lib.hid hT3; clear hm3 hT3
        refine hK.out _ _ ?_ (fun hHeld => ?_)
        · (go_keep)
        clear hK K
        try simp only [Act.put, gtA, gtB, gtC, gtD, gtE, gtF]
        refine wpAnyH_done (by kernel_rfl) ?_ _
        have hb3 : w3.heap[b]? = w1.heap[b]? := (HT3.out.block b (by omega) (fun er => hne2 er)).trans (HS2.out.heap (by omega))
        have HT : Hid (Turn (fun c => w.heap.size ≤ c ∨ DM b sf sn c) w w3) := Lib.hid ((HT1.out.mono (fun c hc hm => .inr (.inl hm))).trans ((Turn.of HS2.out).trans (HT3.out.mono (fun c hc hm => HMBT.out.elim (fun h => .inl (by omega)) (fun h => .inr (.inr (.inr (by rw [hm]; exact h))))))))
        have HTN : Hid (Turn (fun c => c = b ∨ c = mb) w w3) := Lib.hid ((HT1.out.mono (fun c hc hm => .inl hm)).trans ((Turn.of HS2.out).trans (HT3.out.mono (fun c hc hm => .inr hm))))
        have hkp3 : ∀ c, c < w.heap.size → ¬ M c → w3.heap[c]? = w.heap[c]? ∧ ¬ MM c := fun c hc hm => ⟨HT.out.block c hc (fun hx => by rcases hx with hx | hx; omega; exact hm (ho c hx)), fun h => hm (hless c hc h)⟩
        have hz3 := HT3.out.size
        have hC3 := HC1.out.kept hb3
        obtain ⟨qa, qc, hqv, hqc, _, hql⟩ := Ty.slice_val hqu
        subst hqv
        have HQ3 := Lib.hid ((Ty.slice tDeed).keep hqu hkp3)
        have c2 : w3.cell? ⟨b, 2, none⟩ = some (.slice qa D.queue.length qc) := hC3.cell 2
        have f2 : w3.frozen? ⟨b, 2, none⟩ = false := hC3.frozen 2
        have HC3 := Lib.hid hC3
        have HX3 : Hid (tDeed.rep w3 MM [xw] xd) := Lib.hid (tDeed.keep hx hkp3)
        have HQF : Hid ((Ty.slice tDeed).rep w3 MM [.slice qa D.queue.length D.queue.length] D.queue) := Lib.hid (by
          obtain ⟨a', c', hv, g1, g2, g3, hc⟩ := HQ3.out
          simp only [List.cons.injEq, Value.slice.injEq, and_true] at hv
          obtain ⟨rfl, hzz, rfl⟩ := hv
          exact ⟨qa, _, rfl, Nat.le_refl _, by omega, g3, hc⟩)
        have hqn : D.queue.length < 1000000 := by omega
        generalize hQN : D.queue.length = QN at *
        rw [hxw] at HX3
        have hlm : D.queue.length + 1 ≤ lim := by rw [hQN, lim_eq]; omega
        have hblt3 : b < w3.heap.size := by omega
        clear hkp3 hC3 hb3 p1 hHeld hqu hx hrb HMAY HC1 HQ3 hmu hmd hna hcu hcd HUN HDO s2 s3
        go_upto_region 6 with fail
        refine wp_region_cut (S := (fun w' => w'.cell? ⟨b, 2, none⟩ = some (.slice qa QN qc))) 21 (by kernel_rfl) ?_ (fun hHeld => ?_)
        · (go_keep)
        refine tkC 0 [19, 20, 21] ?_
        try simp only [Act.put, gtA, gtB, gtC, gtD, gtE, gtF]
        refine tkC 1 [2, 3, 4, 15, 18, 19, 20, 21] ?_
        try simp only [Act.put, gtA, gtB, gtC, gtD, gtE, gtF]
        refine tkC 2 [3, 4, 15, 18, 19, 20, 21] ?_
        try simp only [Act.put, gtA, gtB, gtC, gtD, gtE, gtF]
        refine tkC 3 [4, 15, 18, 19, 20, 21] ?_
        try simp only [Act.put, gtA, gtB, gtC, gtD, gtE, gtF]
        refine tkC 4 [15, 18, 19, 20, 21] ?_
        try simp only [Act.put, gtA, gtB, gtC, gtD, gtE, gtF]
        refine tkC 5 [6, 7, 8, 9, 15, 18, 19, 20, 21] ?_
        try simp only [Act.put, gtA, gtB, gtC, gtD, gtE, gtF]
        refine tkC 6 [7, 8, 9, 15, 18, 19, 20, 21] ?_
        try simp only [Act.put, gtA, gtB, gtC, gtD, gtE, gtF]
        refine tkC 7 [8, 9, 15, 18, 19, 20, 21] ?_
        try simp only [Act.put, gtA, gtB, gtC, gtD, gtE, gtF]
        refine tkC 8 [9, 15, 18, 19, 20, 21] ?_
        try simp only [Act.put, gtA, gtB, gtC, gtD, gtE, gtF]
        refine tkC 9 [15, 18, 19, 20, 21] ?_
        try simp only [Act.put, gtA, gtB, gtC, gtD, gtE, gtF]
        refine tkC 10 [11, 12, 13, 14, 15, 18, 19, 20, 21] ?_
        try simp only [Act.put, gtA, gtB, gtC, gtD, gtE, gtF]
        refine tkC 11 [12, 13, 14, 15, 18, 19, 20, 21] ?_
        try simp only [Act.put, gtA, gtB, gtC, gtD, gtE, gtF]
        refine tkC 12 [13, 14, 15, 18, 19, 20, 21] ?_
        try simp only [Act.put, gtA, gtB, gtC, gtD, gtE, gtF]
        refine tkC 13 [14, 15, 18, 19, 20, 21] ?_
        try simp only [Act.put, gtA, gtB, gtC, gtD, gtE, gtF]
        refine tkC 14 [15, 18, 19, 20, 21] ?_
        try simp only [Act.put, gtA, gtB, gtC, gtD, gtE, gtF]
        refine tkC 15 [18, 19, 20, 21] ?_
        try simp only [Act.put, gtA, gtB, gtC, gtD, gtE, gtF]
        refine tkC 16 [17, 18, 19, 20, 21] ?_
        try simp only [Act.put, gtA, gtB, gtC, gtD, gtE, gtF]
        refine rdC (rs := [17]) (.cons rfl (by decide) (fun K hK => ?_) .nil)
        try simp only [gtA, gtB, gtC]
        go_simp
        refine hK.out _ _ ?_ (fun hHeld => ?_)
        · (go_keep)
        clear hK K
        try simp only [Act.put, gtA, gtB, gtC, gtD, gtE, gtF]
        refine rdC (rs := [18]) (.cons rfl (by decide) (fun K hK => ?_) .nil)
        try simp only [gtA, gtB, gtC]
        refine ite_then rfl ?_; refine wp_append_full (E := tDeed) (M := MM) (xs := D.queue) (ys := [xd]) (.tmp 55) (.tmp 57) rfl stDeeds (by rw [hQN]; exact Ty.step _ HQF.out stp) (Src.oneAt (by first | rfl | simp) (Ty.step _ HX3.out stp)) (by simp) hlm (by rw [hQN]; rfl) (by rfl) ?_; intro v4 w4 hA4 hS4; obtain ⟨a4, n4, c4, rfl, HN4⟩ := hA4.valN; have s4 : ∀ j, w4.cell? ⟨b, j, none⟩ = w3.cell? ⟨b, j, none⟩ := fun j => (hS4.cell (Nat.lt_of_lt_of_le hblt3 (Step.size (stp : Step w3 _))) j).trans (Step.cell (stp : Step w3 _) (by omega) j); have t4 : ∀ j, w4.frozen? ⟨b, j, none⟩ = w3.frozen? ⟨b, j, none⟩ := fun j => (hS4.frozen (Nat.lt_of_lt_of_le hblt3 (Step.size (stp : Step w3 _))) j).trans (Step.frozen (stp : Step w3 _) (by omega) j); have HA4 := Lib.hid hA4; have HS4 : Hid (Step w3 w4) := Lib.hid (Step.trans stp hS4); clear hA4 hS4
        refine hK.out _ _ ?_ (fun hHeld => ?_)
        · (go_keep)
        clear hK K
        try simp only [Act.put, gtA, gtB, gtC, gtD, gtE, gtF]
        refine tkC 19 [20, 21] ?_
        try simp only [Act.put, gtA, gtB, gtC, gtD, gtE, gtF]
        refine tkC 20 [21] ?_
        try simp only [Act.put, gtA, gtB, gtC, gtD, gtE, gtF]
        refine rdC (rs := [21]) (.cut rfl (fun K hK => ?_))
        try simp only [gtA, gtB, gtC]
        go_simp
        refine hK.out _ _ trivial (fun hHeld => ?_)
        clear hK K
        try simp only [Act.put, gtA, gtB, gtC, gtD, gtE, gtF]
        have hTrue : True := trivial
        refine wpAnyH_done (by kernel_rfl) ?_ _
        go_wp2
        go_ret
        have hz4 := HS4.out.size
        have hkp4 : ∀ c, c < w.heap.size → ¬ M c → (w4.setCell ⟨b, 2, none⟩ (.slice a4 n4 c4)).heap[c]? = w.heap[c]? ∧ ¬ MM c := fun c hc hm => ⟨(Below.heap_setCell _ _ _ _ (fun er => hm (ho c (.inl er)))).trans ((HS4.out.heap (by omega)).trans (HT.out.block c hc (fun hx => by rcases hx with hx | hx; omega; exact hm (ho c hx)))), fun h => hm (hless c hc h)⟩
        have HTF : Turn (fun c => w.heap.size ≤ c ∨ DM b sf sn c) w (w4.setCell ⟨b, 2, none⟩ (.slice a4 n4 c4)) := (HT.out.then HS4.out).setCell (p := ⟨b, 2, none⟩) (fun _ => .inr (.inl rfl)) _
        have HTN4 : Turn (fun c => c = b ∨ c = mb) w (w4.setCell ⟨b, 2, none⟩ (.slice a4 n4 c4)) := (HTN.out.then HS4.out).setCell (p := ⟨b, 2, none⟩) (fun _ => .inl rfl) _
        refine ⟨rfl, MM, sf, some mb, ⟨⟨.slice a4 n4 c4, ?_, ?_⟩, ?_, ?_, fun m hm er => (HSF.out m hm).2.2 (by injection er with er; exact er.symm), ho2, fun c hc => ?_, HWF.out⟩, ⟨HTF, hmore, hless, fun c hc hd => ?_⟩⟩
        · exact CellsAt.set (CellsAt.step HC3.out HS4.out) 2 _
        · refine Ty.kept _ ?_ (Kept.setCell w4 ⟨b, 2, none⟩ _ (ho2 b (.inl rfl)))
          rw [← hxd]
          refine Own.rep' HA4.out (fun c hc hm => ?_)
          have h1 := (HA4.out.lt hc).1
          have h2 := hold1 c hm
          simp at h1
          omega
        · exact hs.keep2 (fun m hm => ⟨HTN4.block m (HSF.out m hm).1 (fun hx => hx.elim (HSF.out m hm).2.1 (HSF.out m hm).2.2), ho2 m (.inr (.inl hm))⟩) hkp4
        · refine .inr ⟨mb, rfl, hMmb, ?_⟩
          have hM5 := (HM3.out.step keep_flR HS4.out).keep (w' := w4.setCell ⟨b, 2, none⟩ (.slice a4 n4 c4)) (M' := MM) keep_flR (Below.heap_setCell _ _ _ _ (fun er => hne2 er.symm)) (fun c hc hm => ⟨Below.heap_setCell _ _ _ _ (fun er => hm (ho2 c (.inl er))), hm⟩)
          first | exact hM5 | (rw [HNN.out] at hM5; exact hM5)
        · have h2 := hold1 c hc
          have : (w4.setCell ⟨b, 2, none⟩ (.slice a4 n4 c4)).heap.size = w4.heap.size := by simp
          omega
        · rcases hd with hd | hd | hd
          · exact .inl hd
          · exact .inr (.inl hd)
          · injection hd with hd
            exact HMBT.out.elim (fun h => by omega) (fun h => .inr (.inr (by rw [← hd]; exact h)))


    · have hsn : sn = some mb := by injection hn1
      rw [hsn] at HMAY
      have HSN := Lib.hid hsn
      clear hsn
      clear hn1 HN
      have HMP := Lib.hid hmap
      have hmbl := hmap.lt
      have hne2 : b ≠ mb := by
        obtain ⟨es, cl, hob⟩ := MapR.obj hmap
        rintro rfl
        rw [show w.heap[b]? = _ from hrb] at hob
        cases hob
      have HMBT : Hid (w.heap.size ≤ mb ∨ sn = some mb) := Lib.hid (.inr HSN.out)
      have HSF : Hid (∀ m, sf = some m → m < w.heap.size ∧ m ≠ b ∧ m ≠ mb) := Lib.hid (fun m hm => ⟨(HSF0.out m hm).1, (HSF0.out m hm).2.1, fun er => (HSF0.out m hm).2.2 (by rw [HSN.out, er])⟩)
      clear hmap HSF0
      have hnil : ∀ W : World, (binOp .eql 83 (.map (some mb)) (.map none)).run Tryz.prog W = .ok (.bool false) W := fun W => eql_map_nil W _ _ _ (some mb) Tryz.underlying83
      go_enter Tryz.func59, Tryz.ntmps59
      cases m1 with
      | true =>
        go_upto_region 5 with (go_at_call 64; refine HMAY.out.mono ?_; rintro y w1 ⟨rfl, hC1, hT1⟩; have p1 : w1.cell? ⟨b, 1, none⟩ = some (.map (some mb)) := hC1.cell 1; have HC1 := Lib.hid hC1; have HT1 := Lib.hid hT1; clear hC1 hT1)
        obtain ⟨MM, hmore, hless, hold1, HMP1, ho2⟩ : ∃ MM : Nat → Prop, (∀ c, M c → MM c) ∧ (∀ c, c < w.heap.size → MM c → M c) ∧ (∀ c, MM c → c < w1.heap.size) ∧ Hid (MapR Tryz.prog 9 DPair.key flR w1 MM mb D.seen) ∧ (∀ c, DM b sf (some mb) c → MM c) :=
          ⟨M, fun _ h => h, fun _ _ h => h, fun c hc => by have := hold c hc; have := HT1.out.size; omega, Lib.hid (HMP.out.keep keep_flR (HT1.out.block mb hmbl (fun e => hne2 e.symm)) (fun c hc hm => ⟨HT1.out.block c hc (fun e => hm (ho c (.inl e))), hm⟩)), fun c hc => ho c (by rw [HSN.out]; exact hc)⟩
        have hz1 := HT1.out.size
        have hkp : ∀ c, c < w.heap.size → ¬ M c → w1.heap[c]? = w.heap[c]? ∧ ¬ MM c := fun c hc hm => ⟨HT1.out.block c hc (fun e => hm (ho c (.inl e))), fun h => hm (hless c hc h)⟩
        have HX1 : Hid (tDeed.rep w1 MM [xv] x) := Lib.hid (tDeed.keep HX.out hkp)
        have hMmb : MM mb := ho2 mb (.inr (.inr rfl))
        obtain ⟨xw, hxw⟩ : ∃ xw, xw = xv := ⟨_, rfl⟩
        obtain ⟨xd, hxd⟩ : ∃ xd, xd = x := ⟨_, rfl⟩
        rw [← hxw, ← hxd] at hx
        clear HX hnil
        obtain ⟨ti, vi, fu, fd, hxv, hmu, hmd, hna, hcu, hcd, hun, hdo2⟩ := deed_calls HX1.out
        subst hxv
        obtain ⟨N, hN⟩ : ∃ N : Nat, N = x.units := ⟨_, rfl⟩
        have HNN := Lib.hid hN
        have hNp := x.units_pos
        have HUN : Hid (∀ W : World, Step w1 W → Calls Tryz.prog fu #[vi] W fun y w' => y = .returned (.int .i64 (N : Int)) ∧ Step W w') := Lib.hid (fun W hW => by rw [hN]; exact hun W MM (Ty.step _ HX1.out hW))
        have HDO : Hid (∀ W : World, Step w1 W → Calls Tryz.prog fd #[vi, .map (some mb), .int .i64 (N : Int)] W fun y w' => y = .returned (.tuple #[]) ∧ MapR Tryz.prog 9 DPair.key flR w' MM mb (x.doB N D.seen) ∧ Turn (· = mb) W w') := Lib.hid (fun W hW => hdo2 W MM mb N D.seen (Ty.step _ HX1.out hW) (HMP1.out.step keep_flR hW) hMmb (fun c hc => Nat.lt_of_lt_of_le (hold1 c hc) hW.size) (by omega) (by omega) HF.out hfs)
        clear hun hdo2 hN hNp HF HX1
        refine wp_region_held_drew (S := (fun w' => w'.cell? ⟨b, 1, none⟩ = some (.map (some mb)))) (by kernel_rfl) ?_ (fun hHeld => ?_)
        · (go_keep)
        refine tkH 0 ?_
        try simp only [Act.put, gtA, gtB, gtC, gtD, gtE, gtF]
        refine tkH 1 ?_
        try simp only [Act.put, gtA, gtB, gtC, gtD, gtE, gtF]
        refine tkH 2 ?_
        try simp only [Act.put, gtA, gtB, gtC, gtD, gtE, gtF]
        refine tkH 3 ?_
        try simp only [Act.put, gtA, gtB, gtC, gtD, gtE, gtF]
        refine tkH 4 ?_
        try simp only [Act.put, gtA, gtB, gtC, gtD, gtE, gtF]
        refine tkH 5 ?_
        try simp only [Act.put, gtA, gtB, gtC, gtD, gtE, gtF]
        refine tkH 7 ?_
        try simp only [Act.put, gtA, gtB, gtC, gtD, gtE, gtF]
        refine tkH 8 ?_
        try simp only [Act.put, gtA, gtB, gtC, gtD, gtE, gtF]
        refine tkH 9 ?_
        try simp only [Act.put, gtA, gtB, gtC, gtD, gtE, gtF]
        refine rdH (rs := [6]) (.cons rfl (fun K hK => ?_) .nil)
        try simp only [gtA, gtB, gtC]
        go_simp
        refine (HUN.out _ stp).mono ?_; rintro y w2 ⟨rfl, hS2⟩; have s2 : ∀ j, w2.cell? ⟨b, j, none⟩ = _ := fun j => hS2.cell (by first | assumption | omega | (simp; done) | (simp; omega)) j; have HS2 : Hid (Step w1 w2) := Lib.hid (Step.trans stp hS2); have hz2 := HS2.out.size; clear hS2
        refine hK.out _ _ ?_ (fun hHeld => ?_)
        · (go_keep)
        clear hK K
        try simp only [Act.put, gtA, gtB, gtC, gtD, gtE, gtF]
        refine rdH (rs := [10]) (.cons rfl (fun K hK => ?_) .nil)
        try simp only [gtA, gtB, gtC]
        go_simp
        refine (HDO.out _ HS2.out).mono ?_; rintro y w3 ⟨rfl, hm3, hT3⟩; have s3 : ∀ j, w3.cell? ⟨b, j, none⟩ = _ := fun j => hT3.cell (by first | assumption | omega | (simp; done) | (simp; omega)) hne2 j; have HM3 := Lib.hid hm3; have HT3 := Lib.hid hT3; clear hm3 hT3
        refine hK.out _ _ ?_ (fun hHeld => ?_)
        · (go_keep)
        clear hK K
        try simp only [Act.put, gtA, gtB, gtC, gtD, gtE, gtF]
        refine wpAnyH_done (by kernel_rfl) ?_ _
        have hb3 : w3.heap[b]? = w1.heap[b]? := (HT3.out.block b (by omega) (fun er => hne2 er)).trans (HS2.out.heap (by omega))
        have HT : Hid (Turn (fun c => w.heap.size ≤ c ∨ DM b sf sn c) w w3) := Lib.hid ((HT1.out.mono (fun c hc hm => .inr (.inl hm))).trans ((Turn.of HS2.out).trans (HT3.out.mono (fun c hc hm => HMBT.out.elim (fun h => .inl (by omega)) (fun h => .inr (.inr (.inr (by rw [hm]; exact h))))))))
        have HTN : Hid (Turn (fun c => c = b ∨ c = mb) w w3) := Lib.hid ((HT1.out.mono (fun c hc hm => .inl hm)).trans ((Turn.of HS2.out).trans (HT3.out.mono (fun c hc hm => .inr hm))))
        have hkp3 : ∀ c, c < w.heap.size → ¬ M c → w3.heap[c]? = w.heap[c]? ∧ ¬ MM c := fun c hc hm => ⟨HT.out.block c hc (fun hx => by rcases hx with hx | hx; omega; exact hm (ho c hx)), fun h => hm (hless c hc h)⟩
        have hz3 := HT3.out.size
        have hC3 := HC1.out.kept hb3
        obtain ⟨qa, qc, hqv, hqc, _, hql⟩ := Ty.slice_val hqu
        subst hqv
        have HQ3 := Lib.hid ((Ty.slice tDeed).keep hqu hkp3)
        have c2 : w3.cell? ⟨b, 2, none⟩ = some (.slice qa D.queue.length qc) := hC3.cell 2
        have f2 : w3.frozen? ⟨b, 2, none⟩ = false := hC3.frozen 2
        have HC3 := Lib.hid hC3
        have HX3 : Hid (tDeed.rep w3 MM [xw] xd) := Lib.hid (tDeed.keep hx hkp3)
        have HQF : Hid ((Ty.slice tDeed).rep w3 MM [.slice qa D.queue.length D.queue.length] D.queue) := Lib.hid (by
          obtain ⟨a', c', hv, g1, g2, g3, hc⟩ := HQ3.out
          simp only [List.cons.injEq, Value.slice.injEq, and_true] at hv
          obtain ⟨rfl, hzz, rfl⟩ := hv
          exact ⟨qa, _, rfl, Nat.le_refl _, by omega, g3, hc⟩)
        have hqn : D.queue.length < 1000000 := by omega
        generalize hQN : D.queue.length = QN at *
        rw [hxw] at HX3
        have hlm : D.queue.length + 1 ≤ lim := by rw [hQN, lim_eq]; omega
        have hblt3 : b < w3.heap.size := by omega
        clear hkp3 hC3 hb3 p1 hHeld hqu hx hrb HMAY HC1 HQ3 hmu hmd hna hcu hcd HUN HDO s2 s3
        go_upto_region 6 with fail
        refine wp_region_cut (S := (fun w' => w'.cell? ⟨b, 2, none⟩ = some (.slice qa QN qc))) 21 (by kernel_rfl) ?_ (fun hHeld => ?_)
        · (go_keep)
        refine tkC 0 [19, 20, 21] ?_
        try simp only [Act.put, gtA, gtB, gtC, gtD, gtE, gtF]
        refine tkC 1 [2, 3, 4, 15, 18, 19, 20, 21] ?_
        try simp only [Act.put, gtA, gtB, gtC, gtD, gtE, gtF]
        refine tkC 2 [3, 4, 15, 18, 19, 20, 21] ?_
        try simp only [Act.put, gtA, gtB, gtC, gtD, gtE, gtF]
        refine tkC 3 [4, 15, 18, 19, 20, 21] ?_
        try simp only [Act.put, gtA, gtB, gtC, gtD, gtE, gtF]
        refine tkC 4 [15, 18, 19, 20, 21] ?_
        try simp only [Act.put, gtA, gtB, gtC, gtD, gtE, gtF]
        refine tkC 5 [6, 7, 8, 9, 15, 18, 19, 20, 21] ?_
        try simp only [Act.put, gtA, gtB, gtC, gtD, gtE, gtF]
        refine tkC 6 [7, 8, 9, 15, 18, 19, 20, 21] ?_
        try simp only [Act.put, gtA, gtB, gtC, gtD, gtE, gtF]
        refine tkC 7 [8, 9, 15, 18, 19, 20, 21] ?_
        try simp only [Act.put, gtA, gtB, gtC, gtD, gtE, gtF]
        refine tkC 8 [9, 15, 18, 19, 20, 21] ?_
        try simp only [Act.put, gtA, gtB, gtC, gtD, gtE, gtF]
        refine tkC 9 [15, 18, 19, 20, 21] ?_
        try simp only [Act.put, gtA, gtB, gtC, gtD, gtE, gtF]
        refine tkC 10 [11, 12, 13, 14, 15, 18, 19, 20, 21] ?_
        try simp only [Act.put, gtA, gtB, gtC, gtD, gtE, gtF]
        refine tkC 11 [12, 13, 14, 15, 18, 19, 20, 21] ?_
        try simp only [Act.put, gtA, gtB, gtC, gtD, gtE, gtF]
        refine tkC 12 [13, 14, 15, 18, 19, 20, 21] ?_
        try simp only [Act.put, gtA, gtB, gtC, gtD, gtE, gtF]
        refine tkC 13 [14, 15, 18, 19, 20, 21] ?_
        try simp only [Act.put, gtA, gtB, gtC, gtD, gtE, gtF]
        refine tkC 14 [15, 18, 19, 20, 21] ?_
        try simp only [Act.put, gtA, gtB, gtC, gtD, gtE, gtF]
        refine tkC 15 [18, 19, 20, 21] ?_
        try simp only [Act.put, gtA, gtB, gtC, gtD, gtE, gtF]
        refine tkC 16 [17, 18, 19, 20, 21] ?_
        try simp only [Act.put, gtA, gtB, gtC, gtD, gtE, gtF]
        refine rdC (rs := [17]) (.cons rfl (by decide) (fun K hK => ?_) .nil)
        try simp only [gtA, gtB, gtC]
        go_simp
        refine hK.out _ _ ?_ (fun hHeld => ?_)
        · (go_keep)
        clear hK K
        try simp only [Act.put, gtA, gtB, gtC, gtD, gtE, gtF]
        refine rdC (rs := [18]) (.cons rfl (by decide) (fun K hK => ?_) .nil)
        try simp only [gtA, gtB, gtC]
        refine ite_then rfl ?_; refine wp_append_full (E := tDeed) (M := MM) (xs := D.queue) (ys := [xd]) (.tmp 55) (.tmp 57) rfl stDeeds (by rw [hQN]; exact Ty.step _ HQF.out stp) (Src.oneAt (by first | rfl | simp) (Ty.step _ HX3.out stp)) (by simp) hlm (by rw [hQN]; rfl) (by rfl) ?_; intro v4 w4 hA4 hS4; obtain ⟨a4, n4, c4, rfl, HN4⟩ := hA4.valN; have s4 : ∀ j, w4.cell? ⟨b, j, none⟩ = w3.cell? ⟨b, j, none⟩ := fun j => (hS4.cell (Nat.lt_of_lt_of_le hblt3 (Step.size (stp : Step w3 _))) j).trans (Step.cell (stp : Step w3 _) (by omega) j); have t4 : ∀ j, w4.frozen? ⟨b, j, none⟩ = w3.frozen? ⟨b, j, none⟩ := fun j => (hS4.frozen (Nat.lt_of_lt_of_le hblt3 (Step.size (stp : Step w3 _))) j).trans (Step.frozen (stp : Step w3 _) (by omega) j); have HA4 := Lib.hid hA4; have HS4 : Hid (Step w3 w4) := Lib.hid (Step.trans stp hS4); clear hA4 hS4
        refine hK.out _ _ ?_ (fun hHeld => ?_)
        · (go_keep)
        clear hK K
        try simp only [Act.put, gtA, gtB, gtC, gtD, gtE, gtF]
        refine tkC 19 [20, 21] ?_
        try simp only [Act.put, gtA, gtB, gtC, gtD, gtE, gtF]
        refine tkC 20 [21] ?_
        try simp only [Act.put, gtA, gtB, gtC, gtD, gtE, gtF]
        refine rdC (rs := [21]) (.cut rfl (fun K hK => ?_))
        try simp only [gtA, gtB, gtC]
        go_simp
        refine hK.out _ _ trivial (fun hHeld => ?_)
        clear hK K
        try simp only [Act.put, gtA, gtB, gtC, gtD, gtE, gtF]
        have hTrue : True := trivial
        refine wpAnyH_done (by kernel_rfl) ?_ _
        go_wp2
        go_ret
        have hz4 := HS4.out.size
        have hkp4 : ∀ c, c < w.heap.size → ¬ M c → (w4.setCell ⟨b, 2, none⟩ (.slice a4 n4 c4)).heap[c]? = w.heap[c]? ∧ ¬ MM c := fun c hc hm => ⟨(Below.heap_setCell _ _ _ _ (fun er => hm (ho c (.inl er)))).trans ((HS4.out.heap (by omega)).trans (HT.out.block c hc (fun hx => by rcases hx with hx | hx; omega; exact hm (ho c hx)))), fun h => hm (hless c hc h)⟩
        have HTF : Turn (fun c => w.heap.size ≤ c ∨ DM b sf sn c) w (w4.setCell ⟨b, 2, none⟩ (.slice a4 n4 c4)) := (HT.out.then HS4.out).setCell (p := ⟨b, 2, none⟩) (fun _ => .inr (.inl rfl)) _
        have HTN4 : Turn (fun c => c = b ∨ c = mb) w (w4.setCell ⟨b, 2, none⟩ (.slice a4 n4 c4)) := (HTN.out.then HS4.out).setCell (p := ⟨b, 2, none⟩) (fun _ => .inl rfl) _
        refine ⟨rfl, MM, sf, some mb, ⟨⟨.slice a4 n4 c4, ?_, ?_⟩, ?_, ?_, fun m hm er => (HSF.out m hm).2.2 (by injection er with er; exact er.symm), ho2, fun c hc => ?_, HWF.out⟩, ⟨HTF, hmore, hless, fun c hc hd => ?_⟩⟩
        · exact CellsAt.set (CellsAt.step HC3.out HS4.out) 2 _
        · refine Ty.kept _ ?_ (Kept.setCell w4 ⟨b, 2, none⟩ _ (ho2 b (.inl rfl)))
          rw [← hxd]
          refine Own.rep' HA4.out (fun c hc hm => ?_)
          have h1 := (HA4.out.lt hc).1
          have h2 := hold1 c hm
          simp at h1
          omega
        · exact hs.keep2 (fun m hm => ⟨HTN4.block m (HSF.out m hm).1 (fun hx => hx.elim (HSF.out m hm).2.1 (HSF.out m hm).2.2), ho2 m (.inr (.inl hm))⟩) hkp4
        · refine .inr ⟨mb, rfl, hMmb, ?_⟩
          have hM5 := (HM3.out.step keep_flR HS4.out).keep (w' := w4.setCell ⟨b, 2, none⟩ (.slice a4 n4 c4)) (M' := MM) keep_flR (Below.heap_setCell _ _ _ _ (fun er => hne2 er.symm)) (fun c hc hm => ⟨Below.heap_setCell _ _ _ _ (fun er => hm (ho2 c (.inl er))), hm⟩)
          first | exact hM5 | (rw [HNN.out] at hM5; exact hM5)
        · have h2 := hold1 c hc
          have : (w4.setCell ⟨b, 2, none⟩ (.slice a4 n4 c4)).heap.size = w4.heap.size := by simp
          omega
        · rcases hd with hd | hd | hd
          · exact .inl hd
          · exact .inr (.inl hd)
          · injection hd with hd
            exact HMBT.out.elim (fun h => by omega) (fun h => .inr (.inr (by rw [← hd]; exact h)))


      | false =>
        obtain rfl : m2 = true := by simpa using hdo
        go_upto_region 5 with (go_at_call 64; refine HMAY.out.mono ?_; rintro y w1 ⟨rfl, hC1, hT1⟩; have p1 : w1.cell? ⟨b, 1, none⟩ = some (.map (some mb)) := hC1.cell 1; have HC1 := Lib.hid hC1; have HT1 := Lib.hid hT1; clear hC1 hT1)
        obtain ⟨MM, hmore, hless, hold1, HMP1, ho2⟩ : ∃ MM : Nat → Prop, (∀ c, M c → MM c) ∧ (∀ c, c < w.heap.size → MM c → M c) ∧ (∀ c, MM c → c < w1.heap.size) ∧ Hid (MapR Tryz.prog 9 DPair.key flR w1 MM mb D.seen) ∧ (∀ c, DM b sf (some mb) c → MM c) :=
          ⟨M, fun _ h => h, fun _ _ h => h, fun c hc => by have := hold c hc; have := HT1.out.size; omega, Lib.hid (HMP.out.keep keep_flR (HT1.out.block mb hmbl (fun e => hne2 e.symm)) (fun c hc hm => ⟨HT1.out.block c hc (fun e => hm (ho c (.inl e))), hm⟩)), fun c hc => ho c (by rw [HSN.out]; exact hc)⟩
        have hz1 := HT1.out.size
        have hkp : ∀ c, c < w.heap.size → ¬ M c → w1.heap[c]? = w.heap[c]? ∧ ¬ MM c := fun c hc hm => ⟨HT1.out.block c hc (fun e => hm (ho c (.inl e))), fun h => hm (hless c hc h)⟩
        have HX1 : Hid (tDeed.rep w1 MM [xv] x) := Lib.hid (tDeed.keep HX.out hkp)
        have hMmb : MM mb := ho2 mb (.inr (.inr rfl))
        obtain ⟨xw, hxw⟩ : ∃ xw, xw = xv := ⟨_, rfl⟩
        obtain ⟨xd, hxd⟩ : ∃ xd, xd = x := ⟨_, rfl⟩
        rw [← hxw, ← hxd] at hx
        clear HX hnil
        obtain ⟨ti, vi, fu, fd, hxv, hmu, hmd, hna, hcu, hcd, hun, hdo2⟩ := deed_calls HX1.out
        subst hxv
        obtain ⟨N, hN⟩ : ∃ N : Nat, N = x.units := ⟨_, rfl⟩
        have HNN := Lib.hid hN
        have hNp := x.units_pos
        have HUN : Hid (∀ W : World, Step w1 W → Calls Tryz.prog fu #[vi] W fun y w' => y = .returned (.int .i64 (N : Int)) ∧ Step W w') := Lib.hid (fun W hW => by rw [hN]; exact hun W MM (Ty.step _ HX1.out hW))
        have HDO : Hid (∀ W : World, Step w1 W → Calls Tryz.prog fd #[vi, .map (some mb), .int .i64 (N : Int)] W fun y w' => y = .returned (.tuple #[]) ∧ MapR Tryz.prog 9 DPair.key flR w' MM mb (x.doB N D.seen) ∧ Turn (· = mb) W w') := Lib.hid (fun W hW => hdo2 W MM mb N D.seen (Ty.step _ HX1.out hW) (HMP1.out.step keep_flR hW) hMmb (fun c hc => Nat.lt_of_lt_of_le (hold1 c hc) hW.size) (by omega) (by omega) HF.out hfs)
        clear hun hdo2 hN hNp HF HX1
        refine wp_region_held_drew (S := (fun w' => w'.cell? ⟨b, 1, none⟩ = some (.map (some mb)))) (by kernel_rfl) ?_ (fun hHeld => ?_)
        · (go_keep)
        refine tkH 0 ?_
        try simp only [Act.put, gtA, gtB, gtC, gtD, gtE, gtF]
        refine tkH 1 ?_
        try simp only [Act.put, gtA, gtB, gtC, gtD, gtE, gtF]
        refine tkH 2 ?_
        try simp only [Act.put, gtA, gtB, gtC, gtD, gtE, gtF]
        refine tkH 3 ?_
        try simp only [Act.put, gtA, gtB, gtC, gtD, gtE, gtF]
        refine tkH 4 ?_
        try simp only [Act.put, gtA, gtB, gtC, gtD, gtE, gtF]
        refine tkH 5 ?_
        try simp only [Act.put, gtA, gtB, gtC, gtD, gtE, gtF]
        refine tkH 7 ?_
        try simp only [Act.put, gtA, gtB, gtC, gtD, gtE, gtF]
        refine tkH 8 ?_
        try simp only [Act.put, gtA, gtB, gtC, gtD, gtE, gtF]
        refine tkH 9 ?_
        try simp only [Act.put, gtA, gtB, gtC, gtD, gtE, gtF]
        refine rdH (rs := [6]) (.cons rfl (fun K hK => ?_) .nil)
        try simp only [gtA, gtB, gtC]
        go_simp
        refine (HUN.out _ stp).mono ?_; rintro y w2 ⟨rfl, hS2⟩; have s2 : ∀ j, w2.cell? ⟨b, j, none⟩ = _ := fun j => hS2.cell (by first | assumption | omega | (simp; done) | (simp; omega)) j; have HS2 : Hid (Step w1 w2) := Lib.hid (Step.trans stp hS2); have hz2 := HS2.out.size; clear hS2
        refine hK.out _ _ ?_ (fun hHeld => ?_)
        · (go_keep)
        clear hK K
        try simp only [Act.put, gtA, gtB, gtC, gtD, gtE, gtF]
        refine rdH (rs := [10]) (.cons rfl (fun K hK => ?_) .nil)
        try simp only [gtA, gtB, gtC]
        go_simp
        refine (HDO.out _ HS2.out).mono ?_; rintro y w3 ⟨rfl, hm3, hT3⟩; have s3 : ∀ j, w3.cell? ⟨b, j, none⟩ = _ := fun j => hT3.cell (by first | assumption | omega | (simp; done) | (simp; omega)) hne2 j; have HM3 := Lib.hid hm3; have HT3 := Lib.hid hT3; clear hm3 hT3
        refine hK.out _ _ ?_ (fun hHeld => ?_)
        · (go_keep)
        clear hK K
        try simp only [Act.put, gtA, gtB, gtC, gtD, gtE, gtF]
        refine wpAnyH_done (by kernel_rfl) ?_ _
        have hb3 : w3.heap[b]? = w1.heap[b]? := (HT3.out.block b (by omega) (fun er => hne2 er)).trans (HS2.out.heap (by omega))
        have HT : Hid (Turn (fun c => w.heap.size ≤ c ∨ DM b sf sn c) w w3) := Lib.hid ((HT1.out.mono (fun c hc hm => .inr (.inl hm))).trans ((Turn.of HS2.out).trans (HT3.out.mono (fun c hc hm => HMBT.out.elim (fun h => .inl (by omega)) (fun h => .inr (.inr (.inr (by rw [hm]; exact h))))))))
        have HTN : Hid (Turn (fun c => c = b ∨ c = mb) w w3) := Lib.hid ((HT1.out.mono (fun c hc hm => .inl hm)).trans ((Turn.of HS2.out).trans (HT3.out.mono (fun c hc hm => .inr hm))))
        have hkp3 : ∀ c, c < w.heap.size → ¬ M c → w3.heap[c]? = w.heap[c]? ∧ ¬ MM c := fun c hc hm => ⟨HT.out.block c hc (fun hx => by rcases hx with hx | hx; omega; exact hm (ho c hx)), fun h => hm (hless c hc h)⟩
        have hz3 := HT3.out.size
        have hC3 := HC1.out.kept hb3
        obtain ⟨qa, qc, hqv, hqc, _, hql⟩ := Ty.slice_val hqu
        subst hqv
        have HQ3 := Lib.hid ((Ty.slice tDeed).keep hqu hkp3)
        have c2 : w3.cell? ⟨b, 2, none⟩ = some (.slice qa D.queue.length qc) := hC3.cell 2
        have f2 : w3.frozen? ⟨b, 2, none⟩ = false := hC3.frozen 2
        have HC3 := Lib.hid hC3
        have HX3 : Hid (tDeed.rep w3 MM [xw] xd) := Lib.hid (tDeed.keep hx hkp3)
        have HQF : Hid ((Ty.slice tDeed).rep w3 MM [.slice qa D.queue.length D.queue.length] D.queue) := Lib.hid (by
          obtain ⟨a', c', hv, g1, g2, g3, hc⟩ := HQ3.out
          simp only [List.cons.injEq, Value.slice.injEq, and_true] at hv
          obtain ⟨rfl, hzz, rfl⟩ := hv
          exact ⟨qa, _, rfl, Nat.le_refl _, by omega, g3, hc⟩)
        have hqn : D.queue.length < 1000000 := by omega
        generalize hQN : D.queue.length = QN at *
        rw [hxw] at HX3
        have hlm : D.queue.length + 1 ≤ lim := by rw [hQN, lim_eq]; omega
        have hblt3 : b < w3.heap.size := by omega
        clear hkp3 hC3 hb3 p1 hHeld hqu hx hrb HMAY HC1 HQ3 hmu hmd hna hcu hcd HUN HDO s2 s3
        go_upto_region 6 with fail
        refine wp_region_cut (S := (fun w' => w'.cell? ⟨b, 2, none⟩ = some (.slice qa QN qc))) 21 (by kernel_rfl) ?_ (fun hHeld => ?_)
        · (go_keep)
        refine tkC 0 [19, 20, 21] ?_
        try simp only [Act.put, gtA, gtB, gtC, gtD, gtE, gtF]
        refine tkC 1 [2, 3, 4, 15, 18, 19, 20, 21] ?_
        try simp only [Act.put, gtA, gtB, gtC, gtD, gtE, gtF]
        refine tkC 2 [3, 4, 15, 18, 19, 20, 21] ?_
        try simp only [Act.put, gtA, gtB, gtC, gtD, gtE, gtF]
        refine tkC 3 [4, 15, 18, 19, 20, 21] ?_
        try simp only [Act.put, gtA, gtB, gtC, gtD, gtE, gtF]
        refine tkC 4 [15, 18, 19, 20, 21] ?_
        try simp only [Act.put, gtA, gtB, gtC, gtD, gtE, gtF]
        refine tkC 5 [6, 7, 8, 9, 15, 18, 19, 20, 21] ?_
        try simp only [Act.put, gtA, gtB, gtC, gtD, gtE, gtF]
        refine tkC 6 [7, 8, 9, 15, 18, 19, 20, 21] ?_
        try simp only [Act.put, gtA, gtB, gtC, gtD, gtE, gtF]
        refine tkC 7 [8, 9, 15, 18, 19, 20, 21] ?_
        try simp only [Act.put, gtA, gtB, gtC, gtD, gtE, gtF]
        refine tkC 8 [9, 15, 18, 19, 20, 21] ?_
        try simp only [Act.put, gtA, gtB, gtC, gtD, gtE, gtF]
        refine tkC 9 [15, 18, 19, 20, 21] ?_
        try simp only [Act.put, gtA, gtB, gtC, gtD, gtE, gtF]
        refine tkC 10 [11, 12, 13, 14, 15, 18, 19, 20, 21] ?_
        try simp only [Act.put, gtA, gtB, gtC, gtD, gtE, gtF]
        refine tkC 11 [12, 13, 14, 15, 18, 19, 20, 21] ?_
        try simp only [Act.put, gtA, gtB, gtC, gtD, gtE, gtF]
        refine tkC 12 [13, 14, 15, 18, 19, 20, 21] ?_
        try simp only [Act.put, gtA, gtB, gtC, gtD, gtE, gtF]
        refine tkC 13 [14, 15, 18, 19, 20, 21] ?_
        try simp only [Act.put, gtA, gtB, gtC, gtD, gtE, gtF]
        refine tkC 14 [15, 18, 19, 20, 21] ?_
        try simp only [Act.put, gtA, gtB, gtC, gtD, gtE, gtF]
        refine tkC 15 [18, 19, 20, 21] ?_
        try simp only [Act.put, gtA, gtB, gtC, gtD, gtE, gtF]
        refine tkC 16 [17, 18, 19, 20, 21] ?_
        try simp only [Act.put, gtA, gtB, gtC, gtD, gtE, gtF]
        refine rdC (rs := [17]) (.cons rfl (by decide) (fun K hK => ?_) .nil)
        try simp only [gtA, gtB, gtC]
        go_simp
        refine hK.out _ _ ?_ (fun hHeld => ?_)
        · (go_keep)
        clear hK K
        try simp only [Act.put, gtA, gtB, gtC, gtD, gtE, gtF]
        refine rdC (rs := [18]) (.cons rfl (by decide) (fun K hK => ?_) .nil)
        try simp only [gtA, gtB, gtC]
        refine ite_then rfl ?_; refine wp_append_full (E := tDeed) (M := MM) (xs := D.queue) (ys := [xd]) (.tmp 55) (.tmp 57) rfl stDeeds (by rw [hQN]; exact Ty.step _ HQF.out stp) (Src.oneAt (by first | rfl | simp) (Ty.step _ HX3.out stp)) (by simp) hlm (by rw [hQN]; rfl) (by rfl) ?_; intro v4 w4 hA4 hS4; obtain ⟨a4, n4, c4, rfl, HN4⟩ := hA4.valN; have s4 : ∀ j, w4.cell? ⟨b, j, none⟩ = w3.cell? ⟨b, j, none⟩ := fun j => (hS4.cell (Nat.lt_of_lt_of_le hblt3 (Step.size (stp : Step w3 _))) j).trans (Step.cell (stp : Step w3 _) (by omega) j); have t4 : ∀ j, w4.frozen? ⟨b, j, none⟩ = w3.frozen? ⟨b, j, none⟩ := fun j => (hS4.frozen (Nat.lt_of_lt_of_le hblt3 (Step.size (stp : Step w3 _))) j).trans (Step.frozen (stp : Step w3 _) (by omega) j); have HA4 := Lib.hid hA4; have HS4 : Hid (Step w3 w4) := Lib.hid (Step.trans stp hS4); clear hA4 hS4
        refine hK.out _ _ ?_ (fun hHeld => ?_)
        · (go_keep)
        clear hK K
        try simp only [Act.put, gtA, gtB, gtC, gtD, gtE, gtF]
        refine tkC 19 [20, 21] ?_
        try simp only [Act.put, gtA, gtB, gtC, gtD, gtE, gtF]
        refine tkC 20 [21] ?_
        try simp only [Act.put, gtA, gtB, gtC, gtD, gtE, gtF]
        refine rdC (rs := [21]) (.cut rfl (fun K hK => ?_))
        try simp only [gtA, gtB, gtC]
        go_simp
        refine hK.out _ _ trivial (fun hHeld => ?_)
        clear hK K
        try simp only [Act.put, gtA, gtB, gtC, gtD, gtE, gtF]
        have hTrue : True := trivial
        refine wpAnyH_done (by kernel_rfl) ?_ _
        go_wp2
        go_ret
        have hz4 := HS4.out.size
        have hkp4 : ∀ c, c < w.heap.size → ¬ M c → (w4.setCell ⟨b, 2, none⟩ (.slice a4 n4 c4)).heap[c]? = w.heap[c]? ∧ ¬ MM c := fun c hc hm => ⟨(Below.heap_setCell _ _ _ _ (fun er => hm (ho c (.inl er)))).trans ((HS4.out.heap (by omega)).trans (HT.out.block c hc (fun hx => by rcases hx with hx | hx; omega; exact hm (ho c hx)))), fun h => hm (hless c hc h)⟩
        have HTF : Turn (fun c => w.heap.size ≤ c ∨ DM b sf sn c) w (w4.setCell ⟨b, 2, none⟩ (.slice a4 n4 c4)) := (HT.out.then HS4.out).setCell (p := ⟨b, 2, none⟩) (fun _ => .inr (.inl rfl)) _
        have HTN4 : Turn (fun c => c = b ∨ c = mb) w (w4.setCell ⟨b, 2, none⟩ (.slice a4 n4 c4)) := (HTN.out.then HS4.out).setCell (p := ⟨b, 2, none⟩) (fun _ => .inl rfl) _
        refine ⟨rfl, MM, sf, some mb, ⟨⟨.slice a4 n4 c4, ?_, ?_⟩, ?_, ?_, fun m hm er => (HSF.out m hm).2.2 (by injection er with er; exact er.symm), ho2, fun c hc => ?_, HWF.out⟩, ⟨HTF, hmore, hless, fun c hc hd => ?_⟩⟩
        · exact CellsAt.set (CellsAt.step HC3.out HS4.out) 2 _
        · refine Ty.kept _ ?_ (Kept.setCell w4 ⟨b, 2, none⟩ _ (ho2 b (.inl rfl)))
          rw [← hxd]
          refine Own.rep' HA4.out (fun c hc hm => ?_)
          have h1 := (HA4.out.lt hc).1
          have h2 := hold1 c hm
          simp at h1
          omega
        · exact hs.keep2 (fun m hm => ⟨HTN4.block m (HSF.out m hm).1 (fun hx => hx.elim (HSF.out m hm).2.1 (HSF.out m hm).2.2), ho2 m (.inr (.inl hm))⟩) hkp4
        · refine .inr ⟨mb, rfl, hMmb, ?_⟩
          have hM5 := (HM3.out.step keep_flR HS4.out).keep (w' := w4.setCell ⟨b, 2, none⟩ (.slice a4 n4 c4)) (M' := MM) keep_flR (Below.heap_setCell _ _ _ _ (fun er => hne2 er.symm)) (fun c hc hm => ⟨Below.heap_setCell _ _ _ _ (fun er => hm (ho2 c (.inl er))), hm⟩)
          first | exact hM5 | (rw [HNN.out] at hM5; exact hM5)
        · have h2 := hold1 c hc
          have : (w4.setCell ⟨b, 2, none⟩ (.slice a4 n4 c4)).heap.size = w4.heap.size := by simp
          omega
        · rcases hd with hd | hd | hd
          · exact .inl hd
          · exact .inr (.inl hd)
          · injection hd with hd
            exact HMBT.out.elim (fun h => by omega) (fun h => .inr (.inr (by rw [← hd]; exact h)))


  · rw [if_neg hdo]
    obtain rfl : m1 = false := by simpa using fun h => hdo (.inl h)
    obtain rfl : m2 = false := by simpa using fun h => hdo (.inr h)
    clear hdo
    go_enter Tryz.func59, Tryz.ntmps59
    go_wp2_with (go_at_call 64; refine HMAY.out.mono ?_; rintro y w1 ⟨rfl, hC1, hT1⟩; have HC1 := Lib.hid hC1; have HT1 := Lib.hid hT1; clear hC1 hT1)
    go_ret
    have hz1 := HT1.out.size
    have hkp : ∀ c, c < w.heap.size → ¬ M c → w1.heap[c]? = w.heap[c]? ∧ ¬ M c := fun c hc hm => ⟨HT1.out.block c hc (fun er => hm (ho c (.inl er))), hm⟩
    refine ⟨rfl, M, sf, sn, ⟨⟨queue, HC1.out, (Ty.slice tDeed).keep hqu hkp⟩, hs.keep2 (fun m hm => ⟨HT1.out.block m (HSF0.out m hm).1 (HSF0.out m hm).2.1, ho m (.inr (.inl hm))⟩) hkp, ?_, hne, ho, fun c hc => by have := hold c hc; omega, HW2.out⟩, ⟨HT1.out.mono (fun c _ hm => .inr (.inl hm)), fun c h => h, fun c _ h => h, fun c _ h => h⟩⟩
    refine HN.out.keep2 (fun m hm => ⟨HT1.out.block m ?_ ?_, ho m (.inr (.inr hm))⟩) hkp
    · exact hold m (ho m (.inr (.inr hm)))
    · rcases HN.out with ⟨h1, _⟩ | ⟨m', h1, _, hmp⟩
      · rw [hm] at h1; cases h1
      · obtain rfl : m = m' := by rw [hm] at h1; injection h1 with h1; injection h1
        obtain ⟨es, cl, hob⟩ := MapR.obj hmp
        rintro rfl
        rw [show w.heap[m]? = _ from hrb] at hob
        cases hob
end Go.Proofs.YthebdlkmoailaaaGreatDoor
