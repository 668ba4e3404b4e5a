/-
  A range over a function whose rounds turn what lay ahead of the loop, and keep the loop's own two blocks; slices.Backward.
  Walks: slices.Backward; a journal removes files, the last one first.
  Walk: a journal loads its files, where one that has no head stands behind those that join on: it goes.
  Walk: a journal loads its files, where the last one's bytes end in a piece of a record: it is cut off.
  Walk: Open, whatever load comes to.
-/
import Derived.Test.YthebdlkmoailaaaGreatDoorZP11
import Derived.RangeFuncNested
import Derived.RangeFuncBound
import Derived.RangeFuncCalls
import Derived.RangeFuncLeaves
import Derived.Shelf.Abstract
import Derived.Shelf.RegionOpen
import Derived.OwnWalkIn
import Derived.TacticsInMore
import Derived.LoopNIn
import Derived.LoopIn
import Derived.Test.YthebdlkmoailaaaGreatDoorZP9
set_option linter.unusedVariables false
set_option linter.unusedSimpArgs false
namespace Go.Gr
open Go.RowKit
set_option linter.unusedVariables false
/-- An iterator of N rounds, the k-th of which is handed encs k; Rd: what it reads between two rounds. -/
def BkSeq (F : Fence) (n : Nat) (P : Program) (gf : Nat) (lb : Array Value) (N : Nat) (encs : Nat → Array Value) (Rd : World → Prop) : Prop :=
  ∀ (l : Nat) (J : Nat → World → Prop) (Jx : World → Prop) (W : World), (∀ k W, J k W → Rd W) →
    (∀ k W1, J k W1 → k < N → YieldAt F (n - 1) P l (encs k) W1 fun e W' => (e = .returned (.bool true) ∧ J (k + 1) W') ∨ (e = .returned (.bool false) ∧ Jx W')) →
    J 0 W → CallsIn F n P gf (#[.func (.yield l) #[] #[]] ++ lb) W fun e W' => (∃ v, e = .returned v) ∧ (J N W' ∨ Jx W')
/-- How a round may be left. -/
def postK (l D : Nat) (I : World → Prop) (Ix : World → Prop) (W : World) : Exit → Act → World → Prop
  | .normal, _, W' => (W'.heap[l]? = W.heap[l]? ∧ W'.heap[D]? = W.heap[D]?) ∧ I W'
  | .ret, _, W' => (W'.heap[l]? = W.heap[l]? ∧ W'.heap[D]? = W.heap[D]?) ∧ Ix W'
  | _, _, _ => False
theorem range_k {F : Fence} {n : Nat} {P : Program} {g : Operand} {ps : Array Tmp} {assign body : Code} {Q : Exit → Act → World → Prop} {a : Act} {w : World}
    (hro : F.round = none) (h1 : 1 ≤ n) {gf : Nat} {lb : Array Value} (hg : a.eval g = .func (.func gf) #[] lb) (hFg : F.fn gf) (eg : ∀ args w, (callFunc gf args).run P w = .ok (.enter gf args) w)
    {N : Nat} {encs : Nat → Array Value} {Rd : World → Prop} (hseq : BkSeq F (n - 1) P gf lb N encs Rd) (hps : ∀ k, (encs k).size = ps.size)
    (I : Nat → World → Prop) (Ix : World → Prop) (hRd : ∀ k W, I k W → Rd W)
    (hI : ∀ k W r r', I k W → W.heap[w.heap.size + 1]? = some (.loop r) → I k (W.putObj (w.heap.size + 1) (.loop r')))
    (hIx : ∀ W r r', Ix W → W.heap[w.heap.size + 1]? = some (.loop r) → Ix (W.putObj (w.heap.size + 1) (.loop r')))
    (h0 : ∀ r, I 0 ((w.alloc (.deferred (some []))).alloc (.loop r))) (a₁ : Nat → Act)
    (hassign : ∀ (l : Nat) (k : Nat) (W : World) (K : Act → World → Prop), K (a₁ k) W →
      assign.wpIn (F.inRound l) (n - 1 - 1) P (Exit.then K (fun _ _ _ => False)) { tmps := (ps.zip (encs k)).foldl (fun t (p, v) => t.setIfInBounds p v) a.tmps, defers := [] } W)
    (hbody : ∀ (l : Nat) (k : Nat) (W : World), l = w.heap.size + 1 → I k W → k < N → body.wpIn (F.inRound l) (n - 1 - 1) P (postK (w.heap.size + 1) w.heap.size (I (k + 1)) Ix W) (a₁ k) W)
    (hdone : ∀ (W : World), I N W → W.heap[w.heap.size]? = some (.deferred (some [])) → Q .normal { a with defers := { target := .collected w.heap.size, args := #[] } :: a.defers } W)
    (hstop : ∀ (W : World), Ix W → W.heap[w.heap.size]? = some (.deferred (some [])) → Code.ret.wpIn F n P Q { a with defers := { target := .collected w.heap.size, args := #[] } :: a.defers } W) :
    (Code.rangeFunc g ps assign body).wpIn F n P Q a w := by
  refine wpIn_rangeFunc ?_
  intro fn hfn
  rw [hro]
  obtain ⟨rec, hrec⟩ : ∃ rec : LoopState → Option Code → Loop, rec = fun st pe => { state := st, pending := pe, fn, tmps := a.tmps, params := ps, assign, body, defers := w.heap.size } := ⟨_, rfl⟩
  obtain ⟨W1, hW1⟩ : ∃ W1, (w.alloc (.deferred (some []))).alloc (.loop (rec .ready none)) = W1 := ⟨_, rfl⟩
  have hL1 : W1.heap[w.heap.size + 1]? = some (.loop (rec .ready none)) := by
    rw [← hW1]; have := World.alloc_heap_new (w.alloc (.deferred (some []))) (.loop (rec .ready none)); rwa [World.size_alloc] at this
  have hK1 : W1.heap[w.heap.size]? = some (.deferred (some [])) := by
    rw [← hW1]; exact (Below.heap_alloc _ _ _ (by simp)).trans (World.alloc_heap_new w _)
  have hI1 : I 0 W1 := by rw [← hW1]; exact h0 _
  refine ⟨w.heap.size + 1, [{ target := .collected w.heap.size, args := #[] }], W1, { target := .fn (.func gf) lb, args := #[.func (.yield (w.heap.size + 1)) #[] #[]] }, W1, gf,
    #[.func (.yield (w.heap.size + 1)) #[] #[]] ++ lb, W1, ?_, ?_, ?_, ?_, fun _ => h1, ?_⟩
  · rw [← hW1, hrec]; exact run_enterLoop_outer _ _ _ _ _
  · simp only [resolve, hg]
    simp [go_sem]
  · intro f' hf'; simp [Target.leads] at hf'; subst hf'; exact hFg
  · simp [invoke, go_sem, eg]
  · refine (hseq (w.heap.size + 1)
      (fun k W => I k W ∧ W.heap[w.heap.size + 1]? = some (.loop (rec .ready none)) ∧ W.heap[w.heap.size]? = some (.deferred (some [])))
      (fun W => Ix W ∧ W.heap[w.heap.size + 1]? = some (.loop (rec .done (some .ret))) ∧ W.heap[w.heap.size]? = some (.deferred (some [])))
      W1 (fun k W h => hRd k W h.1) ?_ ⟨hI1, hL1, hK1⟩).mono ?_
    · rintro k W ⟨hi, hl, hk⟩ hlen
      have hlt : w.heap.size + 1 < W.heap.size := (Array.getElem?_eq_some_iff.1 hl).1
      have hy := run_yield (P := P) (args := encs k) hl (by rw [hrec]; exact hps k)
      rw [hrec] at hy
      refine ⟨fn, _, assign, body, hy, roundIn_of_wpIn hfn (hassign _ k W _ ⟨_, run_beginRound hl (by rw [hrec]), ?_⟩)⟩
      have hl2 : (W.putObj (w.heap.size + 1) (.loop { rec .ready none with state := .busy })).heap[w.heap.size + 1]? = some (.loop { rec .ready none with state := .busy }) := World.putObj_heap_same hlt
      have hk2 : (W.putObj (w.heap.size + 1) (.loop { rec .ready none with state := .busy })).heap[w.heap.size]? = some (.deferred (some [])) := (World.putObj_heap_other (by omega)).trans hk
      refine wpIn_mono (hbody _ k _ rfl (hI _ _ _ _ hi hl) hlen) ?_
      have fin : ∀ (jump : Option Code) (W3 : World), (W3.heap[w.heap.size + 1]? = some (.loop { rec .ready none with state := .busy })) → W3.heap[w.heap.size]? = some (.deferred (some [])) →
          (Instr.endRound (w.heap.size + 1) jump).run P W3 = .ok (.bool jump.isNone) (W3.putObj (w.heap.size + 1) (.loop (rec (if jump.isNone then .ready else .done) jump))) ∧
          (W3.putObj (w.heap.size + 1) (.loop (rec (if jump.isNone then .ready else .done) jump))).heap[w.heap.size + 1]? = some (.loop (rec (if jump.isNone then .ready else .done) jump)) ∧
          (W3.putObj (w.heap.size + 1) (.loop (rec (if jump.isNone then .ready else .done) jump))).heap[w.heap.size]? = some (.deferred (some [])) := fun jump W3 hl3 hk3 => by
        have := run_endRound (P := P) jump hl3
        rw [hrec] at this ⊢
        exact ⟨this, World.putObj_heap_same (Array.getElem?_eq_some_iff.1 hl3).1, (World.putObj_heap_other (by omega)).trans hk3⟩
      rintro e a3 W3 hp
      cases e with
      | normal =>
        obtain ⟨⟨e1, e2⟩, hi3⟩ := hp
        have hl3 := e1.trans hl2
        obtain ⟨hr, hl4, hk4⟩ := fin none W3 hl3 (e2.trans hk2)
        exact ⟨_, _, hr, .inl ⟨rfl, hI _ _ _ _ hi3 hl3, hl4, hk4⟩⟩
      | ret =>
        obtain ⟨⟨e1, e2⟩, hi3⟩ := hp
        have hl3 := e1.trans hl2
        obtain ⟨hr, hl4, hk4⟩ := fin (some .ret) W3 hl3 (e2.trans hk2)
        exact ⟨_, _, hr, .inr ⟨rfl, hIx _ _ _ hi3 hl3, hl4, hk4⟩⟩
      | exit id => exact hp.elim
      | goto t => exact hp.elim
      | panic ch => exact hp.elim
      | outgrown => exact hp.elim
    · rintro e W2 ⟨⟨v, rfl⟩, (⟨hi, hl, hk⟩ | ⟨hi, hl, hk⟩)⟩
      · exact ⟨none, _, by have := run_endLoop (P := P) hl (by rw [hrec]; simp); rw [hrec] at this; exact this, hdone _ (hI _ _ _ _ hi hl) ((World.putObj_heap_other (by omega)).trans hk)⟩
      · exact ⟨some .ret, _, by have := run_endLoop (P := P) hl (by rw [hrec]; simp); rw [hrec] at this; exact this, hstop _ (hIx _ _ _ hi hl) ((World.putObj_heap_other (by omega)).trans hk)⟩
end Go.Gr

namespace Go.Proofs.YthebdlkmoailaaaGreatDoor
open Go.RowKit Go.Gr Go.Maps Go.Shelf
open Go.Proofs (encStr)
set_option linter.unusedSimpArgs false
set_option linter.unusedVariables false
attribute [local go_sem] Oper.semAt_some
/-- What Backward's closure reads: its box, and the row in it. -/
def BkRd (B : Nat) (a : Option Addr) (n c : Nat) (xs : List Nat) (W : World) : Prop := W.cell? ⟨B, 0, none⟩ = some (.slice a n c) ∧ (Ty.slice Ty.u64).rep W (fun _ => False) [.slice a n c] xs
theorem bkwd_ {w : World} (a : Option Addr) (m c : Nat) (F : Fence) (n : Nat) (hF : F.fn 99) (hro : F.round = none) : CallsIn F n Tryz.prog 99 #[.slice a m c] w fun e w' => e = .returned (.func (.func 114) #[] #[.pointer (some ⟨w.heap.size, 0, none⟩)]) ∧ w' = w.alloc (.cells #[.slice a m c] 124) := by
  refine callsIn_of_wp Tryz.func99 rfl hF ?_ hro
  simp only [Tryz.ntmps99, List.size_toArray, List.length_cons, List.length_nil, Nat.reduceAdd, Nat.reduceSub, Array.replicate_succ, Array.replicate_zero, List.push_toArray, List.append_toArray, List.nil_append, List.cons_append]
  gi_wp2
  go_ret
  exact ⟨rfl, rfl⟩
set_option maxRecDepth 100000 in
set_option maxHeartbeats 2000000 in
theorem bkwd1_seq (F : Fence) (n : Nat) (hF : F.fn 114) (hro : F.round = none) (hn : 1 ≤ n) (B : Nat) (a : Option Addr) (c : Nat) (xs : List Nat) (hx : xs.length ≤ 1000000) :
    BkSeq F n Tryz.prog 114 #[.pointer (some ⟨B, 0, none⟩)] xs.length (fun k => #[.int .i64 ((xs.length : Int) - 1 - (k : Int)), .int .u64 ((xs.getD (xs.length - 1 - k) 0 : Nat) : Int)]) (BkRd B a xs.length c xs) := fun l J Jx W hrd hY h0 => by
  refine callsIn_of_wp Tryz.func114 rfl hF ?_ hro
  simp only [Tryz.ntmps114, List.size_toArray, List.length_cons, List.length_nil, Nat.reduceAdd, Nat.reduceSub, Array.replicate_succ, Array.replicate_zero, List.push_toArray, List.append_toArray, List.nil_append, List.cons_append]
  have c0 := (hrd 0 W h0).1
  gi_wp2
  gi_loopw [3] (fun iv wr => ∃ k : Nat, iv = .int .i64 ((xs.length : Int) - 1 - (k : Int)) ∧ k ≤ xs.length ∧ J k wr) (fun iv _ => (intOf iv + 1).toNat)
  case atStart => exact ⟨0, by simp, Nat.zero_le _, h0⟩
  case round =>
    obtain ⟨k, rfl, hk, hJ⟩ := hrel
    obtain ⟨c1, hr⟩ := hrd k wr hJ
    by_cases hlt : k < xs.length
    · have hd : decide ((0 : Int) ≤ (xs.length : Int) - 1 - (k : Int)) = true := decide_eq_true (by omega)
      obtain ⟨fn, tmps, assign, body, hy, hR⟩ := hY k wr hJ hlt
      have hi : xs.length - 1 - k < xs.length := by omega
      obtain ⟨b1, o1, u1, rfl, hb1, _, hu1, hc1⟩ := Ty.slice_at1 rfl hr hi
      obtain ⟨hu, hul⟩ : [u1] = [Value.int .u64 ((xs[xs.length - 1 - k] : Nat) : Int)] ∧ _ := hu1
      have hux : u1 = Value.int .u64 ((xs.getD (xs.length - 1 - k) 0 : Nat) : Int) := by
        rw [(List.cons.inj hu).1, List.getD_eq_getElem?_getD, List.getElem?_eq_getElem hi]
        rfl
      subst hux
      have hz : ((xs.length : Int) - 1 - (k : Int)) = ((xs.length - 1 - k : Nat) : Int) := by omega
      generalize xs.getD (xs.length - 1 - k) 0 = X at *
      generalize hI : xs.length - 1 - k = I0 at *
      rw [hz] at hy ⊢
      rw [hz] at hd
      have hlt2 : (I0 : Int) < (xs.length : Int) := by omega
      have hlt3 : (0 : Int) ≤ (I0 : Int) := by omega
      clear hu hul hJ
      gi_wp2
      refine hR.mono ?_
      rintro e W' (⟨rfl, hJ'⟩ | ⟨rfl, hJx⟩)
      · gi_wp2
        exact ⟨⟨k + 1, by congr 1; omega, by omega, hJ'⟩, by simp [intOf] <;> omega⟩
      · gi_wp2
        refine bodyPost_ret (results_none rfl _ _ _) rfl ?_
        exact ⟨⟨_, rfl⟩, .inr hJx⟩
    · have hd : decide ((0 : Int) ≤ (xs.length : Int) - 1 - (k : Int)) = false := decide_eq_false (by omega)
      obtain rfl : k = xs.length := by omega
      gi_wp2
      go_end0
      exact ⟨⟨_, rfl⟩, .inl hJ⟩
/-- Files are removed, as long as the drive lets them. -/
def removeJ (pre : List UInt8) : DDr → List Nat → DDr × Int
  | D, [] => (D, 0)
  | D, n :: ns => if (removeD D (nameB pre n)).2 = 0 then removeJ pre (removeD D (nameB pre n)).1 ns else removeD D (nameB pre n)
theorem removeJ_snoc (pre : List UInt8) : ∀ (xs : List Nat) (D : DDr) (y : Nat), (removeJ pre D xs).2 = 0 → removeJ pre D (xs ++ [y]) = removeD (removeJ pre D xs).1 (nameB pre y)
  | [], D, y, _ => by
    show (if _ then _ else _) = _
    by_cases h : (removeD D (nameB pre y)).2 = 0
    · rw [if_pos h]
      show ((removeD D (nameB pre y)).1, (0 : Int)) = _
      rw [← h]
      rfl
    · rw [if_neg h]; rfl
  | x :: xs, D, y, h => by
    simp only [List.cons_append, removeJ] at h ⊢
    by_cases hx : (removeD D (nameB pre x)).2 = 0
    · rw [if_pos hx] at h ⊢
      rw [if_pos hx]
      exact removeJ_snoc pre xs _ y h
    · rw [if_neg hx] at h
      exact absurd h hx
theorem removeJ_stop (pre : List UInt8) : ∀ (xs zs : List Nat) (D : DDr), (removeJ pre D xs).2 ≠ 0 → removeJ pre D (xs ++ zs) = removeJ pre D xs
  | [], zs, D, h => absurd rfl h
  | x :: xs, zs, D, h => by
    simp only [List.cons_append, removeJ] at h ⊢
    by_cases hx : (removeD D (nameB pre x)).2 = 0
    · rw [if_pos hx] at h ⊢
      rw [if_pos hx]
      exact removeJ_stop pre xs zs _ h
    · rw [if_neg hx, if_neg hx]
theorem removeJ_len (pre : List UInt8) : ∀ (xs : List Nat) (D : DDr), (removeJ pre D xs).1.safe = D.safe ∧ (removeJ pre D xs).1.queue.length ≤ D.queue.length + xs.length
  | [], D => ⟨rfl, Nat.le_refl _⟩
  | x :: xs, D => by
    have h := rawB_len D (.rm (nameB pre x)) (noneB D.seen (nameB pre x))
    simp only [removeJ]
    split
    · have h2 := removeJ_len pre xs (removeD D (nameB pre x)).1
      exact ⟨h2.1.trans h.1, by have := h2.2; have h3 : (removeD D (nameB pre x)).1.queue.length ≤ D.queue.length + 1 := h.2; simp only [List.length_cons]; omega⟩
    · exact ⟨h.1, by have h3 : (removeD D (nameB pre x)).1.queue.length ≤ D.queue.length + 1 := h.2; simp only [List.length_cons]; omega⟩
theorem _root_.Go.Gr.Turn.putObj {M : Nat → Prop} {w w' : World} (h : Turn M w w') {p : Nat} (hp : p < w.heap.size → M p) (o : Obj) : Turn M w (w'.putObj p o) := by
  have hz : (w'.putObj p o).heap.size = w'.heap.size := by simp
  refine ⟨h.os, h.tape, h.output, by rw [hz]; exact h.size, fun c h1 h2 => ?_⟩
  by_cases hc : c = p
  · subst hc; exact absurd (hp h1) h2
  · exact (World.putObj_heap_other (by omega)).trans (h.block c h1 h2)
/-- Between two rounds. -/
structure RmAt (w : World) (M : Nat → Prop) (b : Nat) (sf sn : Option Nat) (l : Nat) (v : Value) (D : DDr) (e : Int) (W : World) : Prop where
  drive : ∃ M' sf' sn', DriveAt W M' b sf' sn' D ∧ DGo b w M sf sn W M' sf' sn' ∧ M' (w.heap.size + 1) ∧ M' (w.heap.size + 3) ∧ M' (w.heap.size + 4) ∧ ∀ c, w.heap.size ≤ c → c ≤ w.heap.size + 4 → ¬ DM b sf' sn' c
  c2 : W.cell? ⟨w.heap.size, 0, none⟩ = some (.pointer (some ⟨l, 0, none⟩))
  c4 : W.cell? ⟨w.heap.size + 1, 0, none⟩ = some (.int .i64 e)
  f4 : W.frozen? ⟨w.heap.size + 1, 0, none⟩ = false
  cb : W.cell? ⟨w.heap.size + 2, 0, none⟩ = some v
  lt : w.heap.size + 4 < W.heap.size
theorem RmAt.put {w : World} {M : Nat → Prop} {b : Nat} {sf sn : Option Nat} {l : Nat} {v : Value} {D : DDr} {e : Int} {W : World} (h : RmAt w M b sf sn l v D e W) {p : Nat} (hp : p = w.heap.size + 3 ∨ p = w.heap.size + 4) (o : Obj) : RmAt w M b sf sn l v D e (W.putObj p o) := by
  obtain ⟨⟨M', sf', sn', h1, h2, h31, h3, h4, h5⟩, c2, c4, f4, cb, lt⟩ := h
  have hMp : M' p := by rcases hp with rfl | rfl <;> assumption
  have hz : (W.putObj p o).heap.size = W.heap.size := by simp
  have hblk : ∀ c, c ≠ p → (W.putObj p o).heap[c]? = W.heap[c]? := fun c hc => World.putObj_heap_other (by omega)
  have hnd : ¬ DM b sf' sn' p := h5 p (by omega) (by omega)
  refine ⟨⟨M', sf', sn', h1.keep (fun c hc => ⟨hblk c (fun e => hnd (e ▸ hc)), h1.own c hc⟩) (fun c _ hm => ⟨hblk c (fun e => hm (e ▸ hMp)), hm⟩) (fun c hc => by rw [hz]; exact h1.old c hc), ⟨h2.turn.putObj (fun hx => by omega) o, h2.more, h2.less, h2.own⟩, h31, h3, h4, h5⟩, ?_, ?_, ?_, ?_, by rw [hz]; exact lt⟩
  · exact (World.cell?_of_block (hblk w.heap.size (by omega))).trans c2
  · exact (World.cell?_of_block (hblk (w.heap.size + 1) (by omega))).trans c4
  · exact (World.frozen?_of_block (hblk (w.heap.size + 1) (by omega))).trans f4
  · exact (World.cell?_of_block (hblk (w.heap.size + 2) (by omega))).trans cb
theorem RmAt.go {w : World} {M M' M3 : Nat → Prop} {b : Nat} {sf sn sf' sn' sf3 sn3 : Option Nat} {l : Nat} {v : Value} {D D3 : DDr} {e : Int} {W W3 : World} (h : RmAt w M b sf sn l v D e W) (hG1 : DGo b w M sf sn W M' sf' sn') (hm : M' (w.heap.size + 1) ∧ M' (w.heap.size + 3) ∧ M' (w.heap.size + 4) ∧ ∀ c, w.heap.size ≤ c → c ≤ w.heap.size + 4 → ¬ DM b sf' sn' c) (h3 : DriveAt W3 M3 b sf3 sn3 D3) (g3 : DGo b W M' sf' sn' W3 M3 sf3 sn3) :
    RmAt w M b sf sn l v D3 e W3 ∧ ∀ c, w.heap.size ≤ c → c ≤ w.heap.size + 4 → W3.heap[c]? = W.heap[c]? := by
  obtain ⟨_, c2, c4, f4, cb, lt⟩ := h
  obtain ⟨m1, m3, m4, m5⟩ := hm
  have hblk : ∀ c, w.heap.size ≤ c → c ≤ w.heap.size + 4 → W3.heap[c]? = W.heap[c]? := fun c k1 k2 => g3.turn.block c (by omega) (fun hx => hx.elim (fun h => by omega) (m5 c k1 k2))
  refine ⟨⟨⟨M3, sf3, sn3, h3, hG1.trans g3, g3.more _ m1, g3.more _ m3, g3.more _ m4, fun c k1 k2 hx => m5 c k1 k2 (g3.own c (by omega) hx)⟩, ?_, ?_, ?_, ?_, by have := g3.turn.size; omega⟩, hblk⟩
  · exact (World.cell?_of_block (hblk w.heap.size (by omega) (by omega))).trans c2
  · exact (World.cell?_of_block (hblk (w.heap.size + 1) (by omega) (by omega))).trans c4
  · exact (World.frozen?_of_block (hblk (w.heap.size + 1) (by omega) (by omega))).trans f4
  · exact (World.cell?_of_block (hblk (w.heap.size + 2) (by omega) (by omega))).trans cb
theorem RmAt.store {w : World} {M : Nat → Prop} {b : Nat} {sf sn : Option Nat} {l : Nat} {v : Value} {D : DDr} {e : Int} {W : World} (h : RmAt w M b sf sn l v D e W) (e' : Int) : RmAt w M b sf sn l v D e' (W.setCell ⟨w.heap.size + 1, 0, none⟩ (.int .i64 e')) := by
  obtain ⟨⟨M', sf', sn', h1, h2, h31, h3, h4, h5⟩, c2, c4, f4, cb, lt⟩ := h
  have hz : (W.setCell ⟨w.heap.size + 1, 0, none⟩ (.int .i64 e')).heap.size = W.heap.size := by simp
  have hblk : ∀ c, c ≠ w.heap.size + 1 → (W.setCell ⟨w.heap.size + 1, 0, none⟩ (.int .i64 e')).heap[c]? = W.heap[c]? := fun c hc => heap_setCell_other _ _ _ _ hc
  have hnd : ¬ DM b sf' sn' (w.heap.size + 1) := h5 _ (by omega) (by omega)
  refine ⟨⟨M', sf', sn', h1.keep (fun c hc => ⟨hblk c (fun e => hnd (e ▸ hc)), h1.own c hc⟩) (fun c _ hm => ⟨hblk c (fun e => hm (e ▸ h31)), hm⟩) (fun c hc => by rw [hz]; exact h1.old c hc), ⟨h2.turn.setCell (p := ⟨w.heap.size + 1, 0, none⟩) (fun hx => by simp at hx; omega) _, h2.more, h2.less, h2.own⟩, h31, h3, h4, h5⟩, ?_, ?_, ?_, ?_, by rw [hz]; exact lt⟩
  · exact (World.cell?_of_block (hblk w.heap.size (by omega))).trans c2
  · exact World.cell?_setCell_same' _ _ _ (by rw [c4]; rfl)
  · rw [World.frozen?_setCell]; exact f4
  · exact (World.cell?_of_block (hblk (w.heap.size + 2) (by omega))).trans cb
set_option maxRecDepth 100000 in
set_option maxHeartbeats 8000000 in
theorem jRemove_ {w : World} {M : Nat → Prop} {b l : Nat} {sf sn : Option Nat} {pre : List UInt8} {D : DDr} {most : Int} {fv : Value} {closed : Bool} {v : Value} {ns : List Nat} (hD : DriveAt w M b sf sn D) (hL : LgAt w l b pre most fv closed) (hnl : ¬ DM b sf sn l) (hv : (Ty.slice Ty.u64).rep w M [v] ns) (hp : pre.length ≤ 998) (hn : ∀ n ∈ ns, n < 100) (hq : D.safe.length + D.queue.length + ns.length < 1000000) :
    Calls Tryz.prog 77 #[.pointer (some ⟨l, 0, none⟩), v] w fun e w' => e = .returned (.int .i64 (removeJ pre D ns.reverse).2) ∧ ∃ M' sf' sn', DriveAt w' M' b sf' sn' (removeJ pre D ns.reverse).1 ∧ DGo b w M sf sn w' M' sf' sn' := by
  obtain ⟨a, c, rfl, _, _, _⟩ := Ty.slice_val hv
  have HD := Lib.hid hD
  have HL := Lib.hid hL
  have HV := Lib.hid hv
  have hn1 : ns.length ≤ 1000000 := by omega
  have hllt : l < w.heap.size := hL.lt
  clear hD hL hv
  refine (callsIn_wide (n := 3)).1 ?_
  refine callsIn_of_wp_marks Tryz.func77 rfl trivial ?_ rfl
  simp only [Tryz.ntmps77, List.size_toArray, List.length_cons, List.length_nil, Nat.reduceAdd, Nat.reduceSub, Array.replicate_succ, Array.replicate_zero, List.push_toArray, List.append_toArray, List.nil_append, List.cons_append]
  gi_wp2_with (refine ⟨trivial, ?_⟩; gi_at_call 99; refine (bkwd_ _ _ _ Fence.wide 2 trivial rfl).mono ?_; rintro e w2 ⟨rfl, rfl⟩)
  obtain ⟨W0, hW0⟩ : ∃ W0, W0 = ((w.alloc (.cells #[.pointer (some ⟨l, 0, none⟩)] 26)).alloc (.cells #[.int .i64 0] 27)).alloc (.cells #[.slice a ns.length c] 124) := ⟨_, rfl⟩
  rw [← hW0]
  have hz0 : W0.heap.size = w.heap.size + 3 := by rw [hW0]; simp
  have HS0 : Hid (Step w W0) := Lib.hid (by rw [hW0]; (repeat (first | exact Step.refl _ | refine Step.alloc ?_ _ | refine Step.drew ?_ | refine Step.drewN ?_ _ | refine Step.setCell ?_ (by first | exact Nat.le_refl _ | assumption | omega | (simp; done) | (simp; omega)) _ | assumption | refine Step.trans ?_ (by assumption : Step _ _))))
  have HC0 : Hid (W0.cell? ⟨w.heap.size, 0, none⟩ = some (.pointer (some ⟨l, 0, none⟩)) ∧ W0.cell? ⟨w.heap.size + 1, 0, none⟩ = some (.int .i64 0) ∧ W0.frozen? ⟨w.heap.size + 1, 0, none⟩ = false ∧ W0.cell? ⟨w.heap.size + 2, 0, none⟩ = some (.slice a ns.length c)) := Lib.hid (by
    rw [hW0]
    have k1 : CellsAt (w.alloc (.cells #[.pointer (some ⟨l, 0, none⟩)] 26)) w.heap.size _ _ := CellsAt.new rfl
    have k2 : CellsAt ((w.alloc (.cells #[.pointer (some ⟨l, 0, none⟩)] 26)).alloc (.cells #[.int .i64 0] 27)) (w.heap.size + 1) _ _ := CellsAt.new (by simp)
    have k3 : CellsAt (((w.alloc (.cells #[.pointer (some ⟨l, 0, none⟩)] 26)).alloc (.cells #[.int .i64 0] 27)).alloc (.cells #[.slice a ns.length c] 124)) (w.heap.size + 2) _ _ := CellsAt.new (by simp)
    exact ⟨(k1.step stp).cell 0, (k2.step stp).cell 0, (k2.step stp).frozen 0, k3.cell 0⟩)
  clear hW0
  have hzz : W0.heap.size + 1 = w.heap.size + 4 := by omega
  refine range_k (F := Fence.wide) (n := 3) rfl (by omega) (gf := 114) (lb := #[.pointer (some ⟨w.heap.size + 1 + 1, 0, none⟩)]) rfl trivial (enters_of Tryz.func114 (by kernel_rfl) rfl) (bkwd1_seq Fence.wide 2 trivial rfl (by omega) (w.heap.size + 1 + 1) a c ns hn1) (fun _ => rfl)
    (fun k W => (removeJ pre D (ns.reverse.take k)).2 = 0 ∧ RmAt w M b sf sn l (.slice a ns.length c) (removeJ pre D (ns.reverse.take k)).1 0 W)
    (fun W => ∃ j, (removeJ pre D (ns.reverse.take j)).2 ≠ 0 ∧ RmAt w M b sf sn l (.slice a ns.length c) (removeJ pre D (ns.reverse.take j)).1 (removeJ pre D (ns.reverse.take j)).2 W)
    ?rd (fun k W r r' h _ => ⟨h.1, h.2.put (by omega) _⟩) (fun W r r' ⟨j, h, h2⟩ _ => ⟨j, h, h2.put (by omega) _⟩) ?start
    (fun k => { tmps := #[.pointer (some ⟨l, 0, none⟩), .slice a ns.length c, .pointer (some ⟨w.heap.size, 0, none⟩), undef, .pointer (some ⟨w.heap.size + 1, 0, none⟩), undef, .int .u64 ((ns.getD (ns.length - 1 - k) 0 : Nat) : Int), undef, .slice a ns.length c, .func (.func 114) #[] #[.pointer (some ⟨w.heap.size + 1 + 1, 0, none⟩)], .int .i64 ((ns.length : Int) - 1 - (k : Int)), .int .u64 ((ns.getD (ns.length - 1 - k) 0 : Nat) : Int), undef, undef, undef, undef, undef, undef, undef, undef, undef, undef, undef], defers := [] }) ?assign ?body ?done ?stop
  case rd =>
    rintro k W ⟨_, ⟨M', sf', sn', h1, h2, h31, h3, h4, h5⟩, c2, c4, f4, cb, lt⟩
    exact ⟨cb, Ty.less _ (h2.rep _ HD.out.own HV.out) (fun _ _ h => h.elim)⟩
  case start =>
    intro r
    obtain ⟨hq2, hq4, hqf, hqb⟩ := HC0.out
    refine ⟨by simp [removeJ], ?_⟩
    have hS2 : Step W0 ((W0.alloc (.deferred (some []))).alloc (.loop r)) := by (repeat (first | exact Step.refl _ | refine Step.alloc ?_ _ | refine Step.drew ?_ | refine Step.drewN ?_ _ | refine Step.setCell ?_ (by first | exact Nat.le_refl _ | assumption | omega | (simp; done) | (simp; omega)) _ | assumption | refine Step.trans ?_ (by assumption : Step _ _)))
    have hz2 : ((W0.alloc (.deferred (some []))).alloc (.loop r)).heap.size = w.heap.size + 5 := by simp; omega
    have hSA := HS0.out.trans hS2
    have hDW : DriveAt ((W0.alloc (.deferred (some []))).alloc (.loop r)) (fun c => M c ∨ (w.heap.size ≤ c ∧ c ≤ w.heap.size + 4)) b sf sn D := HD.out.keep (fun c hc => ⟨hSA.heap (HD.out.lt hc), .inl (HD.out.own c hc)⟩) (fun c hc hm => ⟨hSA.heap hc, fun hx => hx.elim hm (fun e => by omega)⟩) (fun c hc => by
      rw [hz2]
      rcases hc with hc | hc
      · have := HD.out.old c hc; omega
      · omega)
    refine ⟨⟨(fun c => M c ∨ (w.heap.size ≤ c ∧ c ≤ w.heap.size + 4)), sf, sn, by simpa [removeJ] using hDW, ⟨Turn.of hSA, fun c hc => .inl hc, fun c hc hx => hx.elim id (fun e => by omega), fun c hc hx => hx⟩, .inr ⟨by omega, by omega⟩, .inr ⟨by omega, by omega⟩, .inr ⟨by omega, by omega⟩, fun c k1 k2 hx => by have := HD.out.lt hx; omega⟩, ?_, ?_, ?_, ?_, by rw [hz2]; omega⟩
    · exact (hS2.cell (by omega) 0).trans hq2
    · exact (hS2.cell (by omega) 0).trans hq4
    · exact (hS2.frozen (by omega) 0).trans hqf
    · exact (hS2.cell (by omega) 0).trans hqb
  case assign =>
    intro l0 k W K hK
    gi_wp2
    exact hK
  case body =>
    rintro l0 k W rfl ⟨h0, hR⟩ hk
    have hd : 1 ≤ 3 - 1 - 1 := by omega
    have hmx : Tryz.prog.follows .mixedOrders = true := by kernel_rfl
    have q2 := hR.c2
    obtain ⟨M', sf', sn', hD1, hG1, hm1⟩ := hR.drive
    have hlg1 : LgAt W l b pre most fv closed := HL.out.kept (hG1.turn.block l hllt (fun hx => hx.elim (fun h => by omega) hnl))
    have q0 : W.cell? ⟨l, 0, none⟩ = some (.pointer (some ⟨b, 0, none⟩)) := hlg1.cell 0
    have hi : ns.length - 1 - k < ns.length := by omega
    have hx : (ns.getD (ns.length - 1 - k) 0) < 100 := by
      rw [List.getD_eq_getElem?_getD, List.getElem?_eq_getElem hi]
      exact hn _ (List.getElem_mem hi)
    have hrk : ns.reverse.take (k + 1) = ns.reverse.take k ++ [ns.getD (ns.length - 1 - k) 0] := by
      rw [List.take_succ_eq_append_getElem (by simpa using hk), List.getElem_reverse, List.getD_eq_getElem?_getD, List.getElem?_eq_getElem hi]
      rfl
    have hsn := removeJ_snoc pre (ns.reverse.take k) D (ns.getD (ns.length - 1 - k) 0) h0
    rw [← hrk] at hsn
    have HSN := Lib.hid hsn
    have HR := Lib.hid hR
    have HNM : Hid (∀ W' : World, Step W W' → Calls Tryz.prog 51 #[.pointer (some ⟨l, 0, none⟩), .int .u64 ((ns.getD (ns.length - 1 - k) 0 : Nat) : Int)] W' fun e w' => e = .returned (encStr (nameB pre (ns.getD (ns.length - 1 - k) 0))) ∧ ∃ m, w' = W'.drewN m) := Lib.hid (fun W' hW => jName_ (CellsAt.step hlg1 hW) hx (by omega))
    clear hsn hrk hlg1 hR
    generalize ns.getD (ns.length - 1 - k) 0 = X at *
    obtain ⟨r, hr⟩ : ∃ r, r = removeD (removeJ pre D (ns.reverse.take k)).1 (nameB pre X) := ⟨_, rfl⟩
    have hqk := removeJ_len pre (ns.reverse.take k) D
    have HRM : Hid (∀ W' : World, Step W W' → Calls Tryz.prog 66 #[.pointer (some ⟨b, 0, none⟩), encStr (nameB pre X)] W' fun y w' => y = .returned (.int .i64 r.2) ∧ ∃ M1 sf1 sn1, DriveAt w' M1 b sf1 sn1 r.1 ∧ DGo b W M' sf' sn' w' M1 sf1 sn1) := Lib.hid (fun W' hW => by
      have hlen : (ns.reverse.take k).length ≤ ns.length := by simp; omega
      refine (dRemove_ (hD1.step hW) (by have := nameB_len pre X; omega) (by rw [hqk.1]; omega)).mono ?_
      rintro y w' ⟨rfl, M1, sf1, sn1, h1, h2⟩
      exact ⟨by rw [hr], M1, sf1, sn1, by rw [hr]; exact h1, DGo.from hW hD1.old h2⟩)
    rw [← hr] at HSN
    have HGO : Hid (∀ W3 M3 sf3 sn3, DriveAt W3 M3 b sf3 sn3 r.1 → DGo b W M' sf' sn' W3 M3 sf3 sn3 → RmAt w M b sf sn l (.slice a ns.length c) r.1 0 W3 ∧ ∀ c, w.heap.size ≤ c → c ≤ w.heap.size + 4 → W3.heap[c]? = W.heap[c]?) := Lib.hid (fun W3 M3 sf3 sn3 k1 k2 => RmAt.go HR.out hG1 hm1 k1 k2)
    clear hr hm1 hD1 hG1 hqk HR h0
    gi_wp2
    gi_region_with_o (first
      | (refine ⟨trivial, ?_⟩; gi_at_call 51; refine (CallsIn.inRound _ (callsIn_wide.2 (HNM.out _ stp))).mono ?_; rintro e w2 ⟨rfl, m2, rfl⟩)
      | (refine ⟨trivial, ?_⟩; gi_at_call 66; refine (CallsIn.inRound _ (callsIn_wide.2 (HRM.out _ stp))).mono ?_; rintro e w3 ⟨rfl, M3, sf3, sn3, hD3, hG3⟩; have HD3 := Lib.hid hD3; have HG3 := Lib.hid hG3; clear hD3 hG3))
    all_goals (
      obtain ⟨hR3, hb3⟩ := HGO.out w3 M3 sf3 sn3 HD3.out HG3.out
      have c4 := hR3.c4
      have f4 := hR3.f4
      have HR3 := Lib.hid hR3
      have HB3 := Lib.hid hb3
      clear hR3 hb3 HGO HRM HNM
      obtain ⟨D3, re⟩ := r
      dsimp only at HR3 HSN ⊢
      by_cases he : re = 0
      · subst he
        gi_wp2
        refine ⟨⟨HB3.out _ (by omega) (by omega), HB3.out _ (by omega) (by omega)⟩, ?_⟩
        rw [HSN.out]
        exact ⟨rfl, HR3.out⟩
      · have hne : (re == 0) = false := by simpa using he
        gi_wp2
        refine ⟨⟨?_, ?_⟩, k + 1, ?_⟩
        · exact (heap_setCell_other _ _ _ _ (by first | (simp; done) | (simp; omega))).trans (HB3.out _ (by omega) (by omega))
        · exact (heap_setCell_other _ _ _ _ (by first | (simp; done) | (simp; omega))).trans (HB3.out _ (by omega) (by omega))
        · rw [HSN.out]
          exact ⟨he, HR3.out.store re⟩)
  case done =>
    rintro W ⟨h0, hR⟩ hK
    have c4 := hR.c4
    have f4 := hR.f4
    gi_wp2
    have hK4 : (W.setCell ⟨w.heap.size + 1, 0, none⟩ (.int .i64 0)).heap[W0.heap.size]? = some (.deferred (some [])) := (heap_setCell_other _ _ _ _ (by show W0.heap.size ≠ w.heap.size + 1; omega)).trans hK
    refine ⟨by simp, .inl ⟨_, _, rfl, run_takeDeferred hK4, ?_⟩⟩
    have hF := (hR.store 0).put (p := W0.heap.size) (.inl hz0) (.deferred none)
    have hc5 := hF.c4
    obtain ⟨M', sf', sn', k1, k2, _⟩ := hF.drive
    have htk : ns.reverse.take ns.length = ns.reverse := List.take_of_length_le (by simp)
    rw [htk] at h0 k1
    refine ⟨.int .i64 0, ?_, by rw [h0], M', sf', sn', k1, k2⟩
    simp [results, Tryz.results77, go_sem, hc5]
  case stop =>
    rintro W ⟨j, h0, hR⟩ hK
    gi_wp2
    refine ⟨by simp, .inl ⟨_, _, rfl, run_takeDeferred hK, ?_⟩⟩
    have hF := hR.put (p := W0.heap.size) (.inl hz0) (.deferred none)
    have hc5 := hF.c4
    obtain ⟨M', sf', sn', k1, k2, _⟩ := hF.drive
    have hst := removeJ_stop pre (ns.reverse.take j) (ns.reverse.drop j) D h0
    rw [List.take_append_drop] at hst
    rw [← hst] at k1 hc5
    refine ⟨.int .i64 (removeJ pre D ns.reverse).2, ?_, rfl, M', sf', sn', k1, k2⟩
    simp [results, Tryz.results77, go_sem, hc5]
end Go.Proofs.YthebdlkmoailaaaGreatDoor

namespace Go.Proofs.YthebdlkmoailaaaGreatDoor
open Go.RowKit Go.Gr Go.Maps
open Go.Proofs (encStr)
set_option linter.unusedSimpArgs false
set_option linter.unusedVariables false
/-- Whole files that join on to one another, and a last one that has no head. -/
structure BadFs (pre : List UInt8) (seen : List DPair) (ns : List Nat) (fs : List DFile) (n : Nat) : Prop where
  names : sortN ns = fs.map (·.serial) ++ [n]
  ok : ∀ f ∈ fs, f.Ok ∧ f.serial < 100 ∧ thereB seen (nameB pre f.serial) = true ∧ (dataB seen (nameB pre f.serial)).length ≤ 68719476736 ∧ fileJ f.serial (dataB seen (nameB pre f.serial)) = (f, true, true)
  chain : ∀ i (hi : i + 1 < fs.length), fs[i + 1].serial = fs[i].serial + 1 ∧ fs[i + 1].from_ = fs[i].to_
  few : fs.length < 100000
  bad : n < 100 ∧ thereB seen (nameB pre n) = true ∧ (dataB seen (nameB pre n)).length ≤ 68719476736 ∧ fileJ n (dataB seen (nameB pre n)) = (DFile.none, false, false)
set_option maxRecDepth 100000 in
set_option maxHeartbeats 8000000 in
theorem jLoadR_ {w : World} {M : Nat → Prop} {b l n : Nat} {sf sn : Option Nat} {D : DDr} {pre : List UInt8} {most : Int} {closed : Bool} {ns : List Nat} {fs : List DFile} (h : DriveAt w M b sf sn D) (hM : M l) (hlb : l ≠ b) (hdead : D.dead = false) (hl : LgAt w l b pre most (.slice none 0 0) closed) (hp : pre.length ≤ 998) (hn : JNames pre D.seen ns) (hG : BadFs pre D.seen ns fs n) (hq : D.safe.length + D.queue.length + 1 < 1000000) :
    Calls Tryz.prog 47 #[.pointer (some ⟨l, 0, none⟩)] w fun e w' => e = .returned (.int .i64 (removeJ pre D [n]).2) ∧ ∃ fv M' sf' sn', LgAt w' l b pre most fv closed ∧ FRow w' fv fs ∧ (∀ g, blkOf fv = some g → w.heap.size ≤ g ∧ M' g) ∧ DriveAt w' M' b sf' sn' (removeJ pre D [n]).1 ∧ JGo b l w M sf sn none w' M' sf' sn' none := by
  have HSER : Hid (∀ W : World, Step w W → Calls Tryz.prog 74 #[.pointer (some ⟨l, 0, none⟩)] W fun e w' => ∃ v, e = .returned v ∧ Gr.Own Ty.u64 32 w' (fun _ => False) W.heap.size v (fs.map (·.serial) ++ [n]) ∧ Step W w') := Lib.hid (fun W hW => by
    rw [← hG.names]
    exact jSerials_ (h.step hW) hdead (CellsAt.step hl hW) hp hn)
  have HD := Lib.hid h
  have HL0 := Lib.hid hl
  have HGG := Lib.hid hG
  have hllt := hl.lt
  have hfew := hG.few
  clear h hl hn hG
  go_enter Tryz.func47, Tryz.ntmps47
  go_wp2_with (go_at_call 74; refine (HSER.out _ stp).mono ?_; rintro e w1 ⟨v1, rfl, hA1, hS1⟩; obtain ⟨a1, n1, c1, rfl, HN1⟩ := hA1.valN; have HA1 := Lib.hid hA1; have HS1 : Hid (Step w w1) := Lib.hid (Step.trans stp hS1); clear hA1 hS1)
  have HNN1 : Hid (n1 = fs.length + 1) := Lib.hid (HN1.out.trans (by simp))
  have HV1 : Hid ((Ty.slice Ty.u64).rep w1 (· < w.heap.size) [.slice a1 n1 c1] (fs.map (·.serial) ++ [n])) := Lib.hid (Gr.Own.rep' (Gr.Own.flat Ty.flat_u64 HA1.out) (fun c hc hm => by have := (HA1.out.lt hc); omega))
  have hbl1 : Hid (∀ c, (Value.slice a1 n1 c1).ownBlock = some c → w.heap.size ≤ c) := Lib.hid (fun c hc => by have := (HA1.out.lt hc); omega)
  have HD1 := Lib.hid (HD.out.step HS1.out)
  have HL1 := Lib.hid (CellsAt.step HL0.out HS1.out)
  have hl1 : l < w1.heap.size := Nat.lt_of_lt_of_le hllt HS1.out.size
  clear HSER HN1 HA1
  go_loopw [16] (fun iv w' => ∃ (k : Nat) (fv : Value), iv = .int .i64 (k : Int) ∧ k ≤ fs.length ∧ Hid (LgAt w' l b pre most fv closed) ∧ Hid (FRow w' fv (fs.take k)) ∧ Hid (∀ g, blkOf fv = some g → w1.heap.size ≤ g) ∧ Hid (Turn (fun c => c = l) w1 w')) (fun iv _ => n1 - (Go.RowKit.intOf iv).toNat)
  case atStart => exact ⟨0, _, rfl, Nat.zero_le _, HL1, Lib.hid (FRow.nil _), Lib.hid (fun g h => by cases h), Lib.hid (Turn.refl _ _)⟩
  case round =>
    obtain ⟨k, fv, rfl, hk, HL, HF, HGB, HT⟩ := hrel
    obtain ⟨fa, fc, hfv⟩ := HF.out.val
    have hlen : (fs.take k).length = k := by rw [List.length_take]; omega
    rw [hlen] at hfv
    subst hfv
    by_cases hlt : k < fs.length
    · have hkn : k < n1 := by have := HNN1.out; omega
      have hd : decide ((k : Int) < (n1 : Int)) = true := decide_eq_true (by omega)
      have HDr : Hid (DriveAt wr M b sf sn D) := Lib.hid (HD1.out.beside HT.out (fun c hc hx => ⟨by rw [hx]; exact hM, by rw [hx]; exact HD1.out.notDM HL1.out hlb⟩) (fun _ h => h) (fun _ _ h => h) (fun c hc => Nat.lt_of_lt_of_le (HD1.out.old c hc) HT.out.size))
      have HVr := (Ty.slice Ty.u64).keep HV1.out (w' := wr) (M' := (· < w.heap.size)) (fun c hc hm => ⟨HT.out.block c hc (fun e => hm (by rw [e]; exact hllt)), hm⟩)
      obtain ⟨b4, o4, u4, rfl, hb4, _, hu4, hc4⟩ := Ty.slice_at1 rfl HVr (k := k) (by simp; omega)
      obtain ⟨hu5, -⟩ := hu4
      obtain ⟨F, hF⟩ : ∃ F, F = fs[k] := ⟨_, rfl⟩
      have hu6 : u4 = .int .u64 (F.serial : Int) := by
        rw [List.getElem_append_left (by simpa using hlt)] at hu5
        rw [hF]; simpa using hu5
      subst hu6
      have hok := HGG.out.ok F (by rw [hF]; exact List.getElem_mem hlt)
      have HRJ : Hid (∀ W : World, Step wr W → Calls Tryz.prog 76 #[.pointer (some ⟨l, 0, none⟩), .int .u64 (F.serial : Int)] W fun e w' => e = .returned (.tuple #[.agg (flV F), .bool true, .bool true, .int .i64 0]) ∧ Step W w') := Lib.hid (fun W hW => by
        have h := jRead_ (HDr.out.step hW) hdead (CellsAt.step HL.out hW) hp hok.2.1 hok.2.2.1 hok.2.2.2.1
        rw [hok.2.2.2.2] at h
        exact h)
      have htk : Hid (fs.take (k + 1) = fs.take k ++ [F]) := Lib.hid (by rw [take_snoc hlt, hF])
      have hFok := hok.1
      have HFE := Lib.hid hF
      clear hok hu5 HVr hF hlen
      have hc40 : wr.cell? ⟨b4, o4 + k, none⟩ = some (.int .u64 (F.serial : Int)) := hc4
      clear hc4
      go_upto_region 6 with (go_at_call 76; refine (HRJ.out _ stp).mono ?_; rintro e w2 ⟨rfl, hS2⟩; have HS2 : Hid (Step wr w2) := Lib.hid (Step.trans stp hS2); clear hS2)
      refine wp_code (fun wx => CellsAt wx w2.heap.size (flV F) 89 ∧ Step wr wx) ⟨CellsAt.new rfl, HS2.out.trans stp⟩ ?_
      rintro w3 ⟨hb3, hS3⟩
      obtain ⟨fb, hfb⟩ : ∃ fb, fb = w2.heap.size := ⟨_, rfl⟩
      rw [← hfb] at hb3 ⊢
      have hfbr : wr.heap.size ≤ fb := by have := HS2.out.size; omega
      have hlr : l < wr.heap.size := HL.out.lt
      have k0 : w3.cell? ⟨fb, 0, none⟩ = some (.int .u64 (F.serial : Int)) := hb3.cell 0
      have k1 : w3.cell? ⟨fb, 1, none⟩ = some (.int .u64 (F.from_ : Int)) := hb3.cell 1
      have k2 : w3.cell? ⟨fb, 2, none⟩ = some (.int .u64 (F.to_ : Int)) := hb3.cell 2
      have k3 : w3.cell? ⟨fb, 3, none⟩ = some (.int .i64 F.size) := hb3.cell 3
      have hfb3 : fb < w3.heap.size := hb3.lt
      have HS3 := Lib.hid hS3
      have HB3 := Lib.hid hb3
      clear hfb hb3 hS3 HRJ HS2 hc40
      rcases k with _ | kk
      · have m3 : w3.cell? ⟨l, 3, none⟩ = some (.slice fa 0 fc) := (HS3.out.cell hlr 3).trans (HL.out.cell 3)
        go_upto_region 13 with fail
        have hfr3 : Hid (FRow w3 (.slice fa 0 fc) (fs.take 0)) := Lib.hid (HF.out.step HS3.out)
        have hlg3 : Hid (LgAt w3 l b pre most (.slice fa 0 fc) closed) := Lib.hid (CellsAt.step HL.out HS3.out)
        have hzr : w1.heap.size ≤ wr.heap.size := HT.out.size
        have hz3 : wr.heap.size ≤ w3.heap.size := HS3.out.size
        have hgl : ∀ c, blkOf (.slice fa 0 fc) = some c → c ≠ l ∧ c ≠ fb := fun c hc => ⟨by have := HGB.out c hc; omega, by have := HF.out.lt hc; omega⟩
        have hl3 : l < w3.heap.size := by omega
        have hfl : (fs.take 0).length < 1000000 := by rw [List.length_take]; omega
        refine wp_region_cut (S := (fun w' => w'.cell? ⟨l, 3, none⟩ = some (.slice fa 0 fc) ∧ w'.cell? ⟨fb, 0, none⟩ = some (.int .u64 (F.serial : Int)) ∧ w'.cell? ⟨fb, 1, none⟩ = some (.int .u64 (F.from_ : Int)) ∧ w'.cell? ⟨fb, 2, none⟩ = some (.int .u64 (F.to_ : Int)) ∧ w'.cell? ⟨fb, 3, none⟩ = some (.int .i64 F.size))) 10 (by kernel_rfl) ?_ (fun hHeld => ?_)
        · (go_keep)
        refine tkC 0 [8, 9, 10] ?_
        try simp only [Act.put, gtA, gtB, gtC, gtD, gtE, gtF]
        refine tkC 1 [2, 3, 4, 7, 8, 9, 10] ?_
        try simp only [Act.put, gtA, gtB, gtC, gtD, gtE, gtF]
        refine tkC 2 [3, 4, 7, 8, 9, 10] ?_
        try simp only [Act.put, gtA, gtB, gtC, gtD, gtE, gtF]
        refine tkC 3 [4, 7, 8, 9, 10] ?_
        try simp only [Act.put, gtA, gtB, gtC, gtD, gtE, gtF]
        refine tkC 4 [7, 8, 9, 10] ?_
        try simp only [Act.put, gtA, gtB, gtC, gtD, gtE, gtF]
        refine tkC 5 [6, 7, 8, 9, 10] ?_
        try simp only [Act.put, gtA, gtB, gtC, gtD, gtE, gtF]
        refine rdC (rs := [6]) (.cons rfl (by decide) (fun K hK => ?_) .nil)
        try simp only [gtA, gtB, gtC]
        go_simp
        refine hK.out _ _ ?_ (fun hHeld => ?_)
        · (go_keep)
        clear hK K
        try simp only [Act.put, gtA, gtB, gtC, gtD, gtE, gtF]
        refine rdC (rs := [7]) (.cons rfl (by decide) (fun K hK => ?_) .nil)
        try simp only [gtA, gtB, gtC]
        refine ite_then rfl ?_; refine wp_append_file (fs := fs.take 0) (f := F) (v := .slice fa 0 fc) (.tmp 80) (.tmp 82) rfl (FRow.step hfr3.out stp) hFok hfl ?_ rfl rfl ?_; (intro j u hj; exact (CellsAt.cell (CellsAt.step (CellsAt.new (w := w3) (cs := flV F) (e := 89) rfl) stp) j).trans (by rcases j with _ | _ | _ | _ | j <;> first | (simp at hj; done) | simpa using hj)); intro v11 w11 hFR11 hT11 hbk; rw [← htk.out] at hFR11; obtain ⟨a11, c11, hv11⟩ := hFR11.val; rw [List.length_take_of_le hlt] at hv11; subst hv11; have HT11 : Hid (Turn (fun c => blkOf (.slice fa 0 fc) = some c) w3 w11) := Lib.hid ((Turn.of stp).trans hT11); have HFR11 := Lib.hid hFR11; have HBK : Hid (∀ c, blkOf (.slice a11 (0 + 1) c11) = some c → w1.heap.size ≤ c) := Lib.hid (fun c hc => by rcases hbk with h | h; exact HGB.out c (h.symm.trans hc); (rw [hc] at h; injection h with h; simp only [World.size_alloc, World.size_drew] at h; omega)); have HLG11 := Lib.hid (hlg3.out.kept (HT11.out.block l hl3 (fun e => (hgl l e).1 rfl))); have s11 : ∀ j, w11.cell? ⟨l, j, none⟩ = w3.cell? ⟨l, j, none⟩ := fun j => HT11.out.cell hl3 (fun e => (hgl l e).1 rfl) j; have t11 : ∀ j, w11.cell? ⟨fb, j, none⟩ = w3.cell? ⟨fb, j, none⟩ := fun j => HT11.out.cell hfb3 (fun e => (hgl fb e).2 rfl) j; have f11 : ∀ j, w11.frozen? ⟨l, j, none⟩ = false := fun j => HLG11.out.frozen j; clear hFR11 hT11 hbk
        refine hK.out _ _ ?_ (fun hHeld => ?_)
        · (go_keep)
        clear hK K
        try simp only [Act.put, gtA, gtB, gtC, gtD, gtE, gtF]
        refine tkC 8 [9, 10] ?_
        try simp only [Act.put, gtA, gtB, gtC, gtD, gtE, gtF]
        refine tkC 9 [10] ?_
        try simp only [Act.put, gtA, gtB, gtC, gtD, gtE, gtF]
        refine rdC (rs := [10]) (.cut rfl (fun K hK => ?_))
        try simp only [gtA, gtB, gtC]
        go_simp
        refine hK.out _ _ trivial (fun hHeld => ?_)
        clear hK K
        try simp only [Act.put, gtA, gtB, gtC, gtD, gtE, gtF]
        have hTrue : True := trivial
        refine wpAnyH_done (by kernel_rfl) ?_ _
        refine wp_at (fun wx => LgAt wx l b pre most (.slice a11 (0 + 1) c11) closed ∧ FRow wx (.slice a11 (0 + 1) c11) (fs.take (0 + 1)) ∧ Turn (fun c => c = l) w1 wx) ⟨?_, ?_, ?_⟩ ?_
        · exact CellsAt.step (CellsAt.set HLG11.out 3 _) stp
        · exact FRow.step (HFR11.out.kept (w' := w11.setCell ⟨l, 3, none⟩ (.slice a11 (0 + 1) c11)) (fun c hc => heap_setCell_other _ _ _ _ (fun e => by have h1 := HBK.out c hc; have h2 : c = l := e; omega))) stp
        · have h1 : Turn (fun c => c = l ∨ w1.heap.size ≤ c) w1 w11 := ((HT.out.mono fun c _ h => .inl h).then HS3.out).trans (HT11.out.mono fun c _ h => .inr (HGB.out c h))
          exact (Turn.mono ((h1.setCell (p := ⟨l, 3, none⟩) (fun _ => .inl rfl) _)) (fun c hc h => h.elim id (fun h => by omega))).then stp
        clear m3 k0 k1 k2 k3 s11 t11 f11
        rintro w12 ⟨hlg12, hfr12, hT12⟩
        have HLG12 := Lib.hid hlg12
        have HFR12 := Lib.hid hfr12
        have HT12 := Lib.hid hT12
        clear hlg12 hfr12 hT12
        go_wp2
        go_roundw
        case rel => first
          | exact ⟨0 + 1, _, by go_num, hlt, HLG12, HFR12, HBK, HT12⟩
          | exact ⟨0 + 1, by go_num, hlt, _, HLG12, HFR12, HBK, HT12⟩
        case measure => simp [Go.RowKit.intOf]; omega

      · have m3 : w3.cell? ⟨l, 3, none⟩ = some (.slice fa (kk + 1) fc) := (HS3.out.cell hlr 3).trans (HL.out.cell 3)
        have hFR3 := HF.out.step HS3.out
        obtain ⟨g3, o3, rfl, hg3, q0, _, q2, _, _⟩ := hFR3.cells (k := kk) (by rw [List.length_take]; omega)
        rw [List.getElem_take] at q0 q2
        obtain ⟨P, hP⟩ : ∃ P, P = fs[kk] := ⟨_, rfl⟩
        rw [← hP] at q0 q2
        have hPok := (HGG.out.ok P (by rw [hP]; exact List.getElem_mem (by omega))).2.1
        have hch := HGG.out.chain kk hlt
        rw [← hP, ← HFE.out] at hch
        have hb1 : ((F.serial : Int) == (P.serial : Int) + 1) = true := beq_iff_eq.2 (by omega)
        have hb2 : ((F.from_ : Int) == (P.to_ : Int)) = true := beq_iff_eq.2 (by omega)
        have hwp : IntKind.u64.wrap ((P.serial : Int) + 1) = (P.serial : Int) + 1 := by rw [IntKind.wrap_u64]; omega
        have hwn : IntKind.i64.wrap (kk : Int) = (kk : Int) := by rw [IntKind.wrap_i64]; omega
        have hnlt : (kk : Int) < (kk : Int) + 1 := by omega
        have hge : decide ((0 : Int) ≤ (kk : Int)) = true := decide_eq_true (by omega)
        clear hP hch hFR3
        go_upto_region 10 with fail
        go_quiet (fail)
        go_upto_region 13 with fail
        refine wp_code (fun wx => Step wr wx ∧ CellsAt wx fb (flV F) 89) ⟨HS3.out.trans stp, CellsAt.step HB3.out stp⟩ ?_
        clear k0 k1 k2 k3 m3 q0 q2 hfb3 HS3 HB3 hg3 hb1 hb2 hwp hwn hnlt hge
        rintro w3 ⟨hS3, hb3⟩
        have k0 : w3.cell? ⟨fb, 0, none⟩ = some (.int .u64 (F.serial : Int)) := hb3.cell 0
        have k1 : w3.cell? ⟨fb, 1, none⟩ = some (.int .u64 (F.from_ : Int)) := hb3.cell 1
        have k2 : w3.cell? ⟨fb, 2, none⟩ = some (.int .u64 (F.to_ : Int)) := hb3.cell 2
        have k3 : w3.cell? ⟨fb, 3, none⟩ = some (.int .i64 F.size) := hb3.cell 3
        have hfb3 : fb < w3.heap.size := hb3.lt
        have m3 : w3.cell? ⟨l, 3, none⟩ = some (.slice (some ⟨g3, o3, none⟩) (kk + 1) fc) := (hS3.cell hlr 3).trans (HL.out.cell 3)
        have HS3 := Lib.hid hS3
        clear hS3 hb3
        have hfr3 : Hid (FRow w3 (.slice (some ⟨g3, o3, none⟩) (kk + 1) fc) (fs.take (kk + 1))) := Lib.hid (HF.out.step HS3.out)
        have hlg3 : Hid (LgAt w3 l b pre most (.slice (some ⟨g3, o3, none⟩) (kk + 1) fc) closed) := Lib.hid (CellsAt.step HL.out HS3.out)
        have hzr : w1.heap.size ≤ wr.heap.size := HT.out.size
        have hz3 : wr.heap.size ≤ w3.heap.size := HS3.out.size
        have hgl : ∀ c, blkOf (.slice (some ⟨g3, o3, none⟩) (kk + 1) fc) = some c → c ≠ l ∧ c ≠ fb := fun c hc => ⟨by have := HGB.out c hc; omega, by have := HF.out.lt hc; omega⟩
        have hl3 : l < w3.heap.size := by omega
        have hfl : (fs.take (kk + 1)).length < 1000000 := by rw [List.length_take]; omega
        refine wp_region_cut (S := (fun w' => w'.cell? ⟨l, 3, none⟩ = some (.slice (some ⟨g3, o3, none⟩) (kk + 1) fc) ∧ w'.cell? ⟨fb, 0, none⟩ = some (.int .u64 (F.serial : Int)) ∧ w'.cell? ⟨fb, 1, none⟩ = some (.int .u64 (F.from_ : Int)) ∧ w'.cell? ⟨fb, 2, none⟩ = some (.int .u64 (F.to_ : Int)) ∧ w'.cell? ⟨fb, 3, none⟩ = some (.int .i64 F.size))) 10 (by kernel_rfl) ?_ (fun hHeld => ?_)
        · (go_keep)
        refine tkC 0 [8, 9, 10] ?_
        try simp only [Act.put, gtA, gtB, gtC, gtD, gtE, gtF]
        refine tkC 1 [2, 3, 4, 7, 8, 9, 10] ?_
        try simp only [Act.put, gtA, gtB, gtC, gtD, gtE, gtF]
        refine tkC 2 [3, 4, 7, 8, 9, 10] ?_
        try simp only [Act.put, gtA, gtB, gtC, gtD, gtE, gtF]
        refine tkC 3 [4, 7, 8, 9, 10] ?_
        try simp only [Act.put, gtA, gtB, gtC, gtD, gtE, gtF]
        refine tkC 4 [7, 8, 9, 10] ?_
        try simp only [Act.put, gtA, gtB, gtC, gtD, gtE, gtF]
        refine tkC 5 [6, 7, 8, 9, 10] ?_
        try simp only [Act.put, gtA, gtB, gtC, gtD, gtE, gtF]
        refine rdC (rs := [6]) (.cons rfl (by decide) (fun K hK => ?_) .nil)
        try simp only [gtA, gtB, gtC]
        go_simp
        refine hK.out _ _ ?_ (fun hHeld => ?_)
        · (go_keep)
        clear hK K
        try simp only [Act.put, gtA, gtB, gtC, gtD, gtE, gtF]
        refine rdC (rs := [7]) (.cons rfl (by decide) (fun K hK => ?_) .nil)
        try simp only [gtA, gtB, gtC]
        refine ite_then rfl ?_; refine wp_append_file (fs := fs.take (kk + 1)) (f := F) (v := .slice (some ⟨g3, o3, none⟩) (kk + 1) fc) (.tmp 80) (.tmp 82) rfl (FRow.step hfr3.out stp) hFok hfl ?_ rfl rfl ?_; (intro j u hj; exact (CellsAt.cell (CellsAt.step (CellsAt.new (w := w3) (cs := flV F) (e := 89) rfl) stp) j).trans (by rcases j with _ | _ | _ | _ | j <;> first | (simp at hj; done) | simpa using hj)); intro v11 w11 hFR11 hT11 hbk; rw [← htk.out] at hFR11; obtain ⟨a11, c11, hv11⟩ := hFR11.val; rw [List.length_take_of_le hlt] at hv11; subst hv11; have HT11 : Hid (Turn (fun c => blkOf (.slice (some ⟨g3, o3, none⟩) (kk + 1) fc) = some c) w3 w11) := Lib.hid ((Turn.of stp).trans hT11); have HFR11 := Lib.hid hFR11; have HBK : Hid (∀ c, blkOf (.slice a11 ((kk + 1) + 1) c11) = some c → w1.heap.size ≤ c) := Lib.hid (fun c hc => by rcases hbk with h | h; exact HGB.out c (h.symm.trans hc); (rw [hc] at h; injection h with h; simp only [World.size_alloc, World.size_drew] at h; omega)); have HLG11 := Lib.hid (hlg3.out.kept (HT11.out.block l hl3 (fun e => (hgl l e).1 rfl))); have s11 : ∀ j, w11.cell? ⟨l, j, none⟩ = w3.cell? ⟨l, j, none⟩ := fun j => HT11.out.cell hl3 (fun e => (hgl l e).1 rfl) j; have t11 : ∀ j, w11.cell? ⟨fb, j, none⟩ = w3.cell? ⟨fb, j, none⟩ := fun j => HT11.out.cell hfb3 (fun e => (hgl fb e).2 rfl) j; have f11 : ∀ j, w11.frozen? ⟨l, j, none⟩ = false := fun j => HLG11.out.frozen j; clear hFR11 hT11 hbk
        refine hK.out _ _ ?_ (fun hHeld => ?_)
        · (go_keep)
        clear hK K
        try simp only [Act.put, gtA, gtB, gtC, gtD, gtE, gtF]
        refine tkC 8 [9, 10] ?_
        try simp only [Act.put, gtA, gtB, gtC, gtD, gtE, gtF]
        refine tkC 9 [10] ?_
        try simp only [Act.put, gtA, gtB, gtC, gtD, gtE, gtF]
        refine rdC (rs := [10]) (.cut rfl (fun K hK => ?_))
        try simp only [gtA, gtB, gtC]
        go_simp
        refine hK.out _ _ trivial (fun hHeld => ?_)
        clear hK K
        try simp only [Act.put, gtA, gtB, gtC, gtD, gtE, gtF]
        have hTrue : True := trivial
        refine wpAnyH_done (by kernel_rfl) ?_ _
        refine wp_at (fun wx => LgAt wx l b pre most (.slice a11 ((kk + 1) + 1) c11) closed ∧ FRow wx (.slice a11 ((kk + 1) + 1) c11) (fs.take ((kk + 1) + 1)) ∧ Turn (fun c => c = l) w1 wx) ⟨?_, ?_, ?_⟩ ?_
        · exact CellsAt.step (CellsAt.set HLG11.out 3 _) stp
        · exact FRow.step (HFR11.out.kept (w' := w11.setCell ⟨l, 3, none⟩ (.slice a11 (kk + 1 + 1) c11)) (fun c hc => heap_setCell_other _ _ _ _ (fun e => by have h1 := HBK.out c hc; have h2 : c = l := e; omega))) stp
        · have h1 : Turn (fun c => c = l ∨ w1.heap.size ≤ c) w1 w11 := ((HT.out.mono fun c _ h => .inl h).then HS3.out).trans (HT11.out.mono fun c _ h => .inr (HGB.out c h))
          exact (Turn.mono ((h1.setCell (p := ⟨l, 3, none⟩) (fun _ => .inl rfl) _)) (fun c hc h => h.elim id (fun h => by omega))).then stp
        clear m3 k0 k1 k2 k3 s11 t11 f11
        rintro w12 ⟨hlg12, hfr12, hT12⟩
        have HLG12 := Lib.hid hlg12
        have HFR12 := Lib.hid hfr12
        have HT12 := Lib.hid hT12
        clear hlg12 hfr12 hT12
        go_wp2
        go_roundw
        case rel => first
          | exact ⟨(kk + 1) + 1, _, by go_num, hlt, HLG12, HFR12, HBK, HT12⟩
          | exact ⟨(kk + 1) + 1, by go_num, hlt, _, HLG12, HFR12, HBK, HT12⟩
        case measure => simp [Go.RowKit.intOf]; omega

    · have hkn : k < n1 := by have := HNN1.out; omega
      have hd : decide ((k : Int) < (n1 : Int)) = true := decide_eq_true (by omega)
      have hkf : k = fs.length := by omega
      have hke : fs.take k = fs := List.take_of_length_le (by omega)
      rw [hke] at HF
      obtain ⟨Mx, hMx⟩ : ∃ Mx : Nat → Prop, ∀ c, Mx c ↔ M c ∨ blkOf (.slice fa k fc) = some c := ⟨_, fun _ => Iff.rfl⟩
      have HMX := Lib.hid hMx
      clear hMx
      have HDr : Hid (DriveAt wr Mx b sf sn D) := Lib.hid (HD1.out.beside HT.out (fun c hc hx => ⟨by rw [hx]; exact hM, by rw [hx]; exact HD1.out.notDM HL1.out hlb⟩) (fun c h => (HMX.out c).2 (.inl h)) (fun c hc h => ((HMX.out c).1 h).elim id (fun e => by have := HGB.out c e; omega)) (fun c hc => ((HMX.out c).1 hc).elim (fun hc => Nat.lt_of_lt_of_le (HD1.out.old c hc) HT.out.size) (fun e => HF.out.lt e)))
      have HVr := (Ty.slice Ty.u64).keep HV1.out (w' := wr) (M' := fun c => c < w.heap.size ∨ w1.heap.size ≤ c) (fun c hc hm => ⟨HT.out.block c hc (fun e => hm (by rw [e]; exact hllt)), fun h => h.elim hm (fun e => by omega)⟩)
      obtain ⟨b4, o4, u4, rfl, hb4, _, hu4, hc4⟩ := Ty.slice_at1 rfl HVr (k := k) (by simp; omega)
      obtain ⟨hu5, -⟩ := hu4
      have hu6 : u4 = .int .u64 (n : Int) := by
        rw [List.getElem_append_right (by simp; omega)] at hu5
        simpa using hu5
      subst hu6
      obtain ⟨hbn, hbt, hbd, hbf⟩ := HGG.out.bad
      have HRJ : Hid (∀ W : World, Step wr W → Calls Tryz.prog 76 #[.pointer (some ⟨l, 0, none⟩), .int .u64 (n : Int)] W fun e w' => e = .returned (.tuple #[.agg (flV DFile.none), .bool false, .bool false, .int .i64 0]) ∧ Step W w') := Lib.hid (fun W hW => by
        have h := jRead_ (HDr.out.step hW) hdead (CellsAt.step HL.out hW) hp hbn hbt hbd
        rw [hbf] at h
        exact h)
      have hc40 : wr.cell? ⟨b4, o4 + k, none⟩ = some (.int .u64 (n : Int)) := hc4
      have hdrop : (fs.map (·.serial) ++ [n]).drop k = [n] := by rw [hkf]; exact List.drop_left' (by simp)
      have HVD := slice_dropP rfl HVr (k := k) (by simp; omega)
      rw [hdrop] at HVD
      have hcap : n1 ≤ c1 := by
        obtain ⟨_, _, hv, h1, _⟩ := HVr
        simp only [List.cons.injEq, Value.slice.injEq, and_true] at hv
        obtain ⟨_, h2, h3⟩ := hv
        omega
      have hck : ¬ (c1 = k) := by have := HNN1.out; omega
      have HKF := Lib.hid hkf
      clear hkf hke hu5
      rw [if_neg hck] at HVD
      have HVD := Lib.hid HVD
      have hlr : l < wr.heap.size := HL.out.lt
      clear HVr hc4 hdrop hlen
      go_upto_region 6 with (go_at_call 76; refine (HRJ.out _ stp).mono ?_; rintro e w2 ⟨rfl, hS2⟩; have HS2 : Hid (Step wr w2) := Lib.hid (Step.trans stp hS2); clear hS2)
      refine wp_code (fun wx => Step wr wx) (HS2.out.trans stp) ?_
      rintro w3 hS3
      have HS3 := Lib.hid hS3
      clear hS3 HRJ HS2 hc40
      have m3 : w3.cell? ⟨l, 3, none⟩ = some (.slice fa k fc) := (HS3.out.cell hlr 3).trans (HL.out.cell 3)
      have HD3 : Hid (DriveAt w3 Mx b sf sn D) := Lib.hid (HDr.out.step HS3.out)
      have HRMV : Hid (∀ W : World, Step w3 W → Calls Tryz.prog 77 #[.pointer (some ⟨l, 0, none⟩), .slice (some ⟨b4, o4 + k, none⟩) (n1 - k) (c1 - k)] W fun e w' => e = .returned (.int .i64 (removeJ pre D [n]).2) ∧ ∃ M' sf' sn', DriveAt w' M' b sf' sn' (removeJ pre D [n]).1 ∧ DGo b W Mx sf sn w' M' sf' sn') := Lib.hid (fun W hW => by
        refine jRemove_ (HD3.out.step hW) (CellsAt.step HL.out (HS3.out.trans hW)) (HD1.out.notDM HL1.out hlb) (Ty.less _ (Ty.step _ HVD.out (HS3.out.trans hW)) (fun c _ hc => ((HMX.out c).1 hc).elim (fun h => .inl (HD.out.old c h)) (fun e => .inr (HGB.out c e)))) hp (fun m hm => ?_) ?_
        · obtain rfl : m = n := by simpa using hm
          exact hbn
        · simp only [List.length_singleton]
          exact hq)
      have HFRE : Hid (∀ W w', Step w3 W → (∃ M' sf' sn', DriveAt w' M' b sf' sn' (removeJ pre D [n]).1 ∧ DGo b W Mx sf sn w' M' sf' sn') → ∃ fv M' sf' sn', LgAt w' l b pre most fv closed ∧ FRow w' fv fs ∧ (∀ g, blkOf fv = some g → w.heap.size ≤ g ∧ M' g) ∧ DriveAt w' M' b sf' sn' (removeJ pre D [n]).1 ∧ JGo b l w M sf sn none w' M' sf' sn' none) := Lib.hid (fun W w' hW ⟨M', sf', sn', h1, h2⟩ => by
        have hSW := HS3.out.trans hW
        have hzr := HT.out.size
        have hz1 := HS1.out.size
        have hzW := hSW.size
        refine ⟨.slice fa k fc, M', sf', sn', ?_, ?_, fun g hg => ⟨Nat.le_trans hz1 (HGB.out g hg), h2.more g ((HMX.out g).2 (.inr hg))⟩, h1, ?_⟩
        · exact (CellsAt.step HL.out hSW).kept (h2.turn.block l (by omega) (fun hx => hx.elim (fun h => by omega) (HD1.out.notDM HL1.out hlb)))
        · refine (HF.out.step hSW).kept (fun g hg => h2.turn.block g (by have := HF.out.lt hg; omega) (fun hx => hx.elim (fun h => by have := HF.out.lt hg; omega) (fun hd => ?_)))
          have h3 := HD.out.lt hd
          have := HGB.out g hg
          omega
        · refine ⟨((Turn.of HS1.out).trans (HT.out.mono (fun c _ hc => .inr (.inr (.inl hc))))).trans ((Turn.of hSW).trans (h2.turn.mono (fun c hc hx => ?_))), fun c hc => h2.more c ((HMX.out c).2 (.inl hc)), fun c hc hx => ((HMX.out c).1 (h2.less c (by omega) hx)).elim id (fun e => by have := HGB.out c e; omega), fun c hc hx => ?_⟩
          · rcases hx with hx | hx
            · exact .inl (by omega)
            · exact .inr (.inl hx)
          · rcases hx with hx | hx | hx
            · exact .inl (h2.own c (by omega) hx)
            · exact .inr (.inl hx)
            · cases hx)
      have e1 : (k : Int) ≤ (n1 : Int) := by omega
      have e2 : (n1 : Int) ≤ (c1 : Int) := by omega
      have e3 : (k : Int) ≤ (c1 : Int) := by omega
      clear HD3 HVD HDr
      rcases k with _ | kk
      · go_wp2_with (go_at_call 77; refine (HRMV.out _ stp).mono ?_; rintro e w4 ⟨rfl, hx4⟩; have HX4 := Lib.hid (HFRE.out _ _ stp hx4); clear hx4)
        go_ret
        exact ⟨rfl, HX4.out⟩
      · have hwn : IntKind.i64.wrap (kk : Int) = (kk : Int) := by rw [IntKind.wrap_i64]; omega
        have hnlt : (kk : Int) < (kk : Int) + 1 := by omega
        have hge : decide ((0 : Int) ≤ (kk : Int)) = true := decide_eq_true (by omega)
        go_upto_region 10 with fail
        go_quiet (fail)
        go_wp2_with (go_at_call 77; refine (HRMV.out _ stp).mono ?_; rintro e w4 ⟨rfl, hx4⟩; have HX4 := Lib.hid (HFRE.out _ _ stp hx4); clear hx4)
        go_ret
        exact ⟨rfl, HX4.out⟩
end Go.Proofs.YthebdlkmoailaaaGreatDoor

namespace Go.Proofs.YthebdlkmoailaaaGreatDoor
open Go.RowKit Go.Gr Go.Maps
open Go.Proofs (encStr)
set_option linter.unusedSimpArgs false
set_option linter.unusedVariables false
/-- Files that join on to one another; the last one ends in a piece. -/
structure CutFs (pre : List UInt8) (seen : List DPair) (ns : List Nat) (fs : List DFile) : Prop where
  names : sortN ns = fs.map (·.serial)
  ok : ∀ k (hk : k < fs.length), fs[k].Ok ∧ fs[k].serial < 100 ∧ thereB seen (nameB pre fs[k].serial) = true ∧ (dataB seen (nameB pre fs[k].serial)).length ≤ 68719476736 ∧ fileJ fs[k].serial (dataB seen (nameB pre fs[k].serial)) = (fs[k], true, decide (k + 1 < fs.length))
  chain : ∀ i (hi : i + 1 < fs.length), fs[i + 1].serial = fs[i].serial + 1 ∧ fs[i + 1].from_ = fs[i].to_
  few : fs.length < 100000
  some : fs ≠ []
  cut : ∀ k (hk : k < fs.length), 0 ≤ fs[k].size ∧ fs[k].size.toNat ≤ (dataB seen (nameB pre fs[k].serial)).length
theorem slice_none_any {α : Type} {E : Ty α} {w w' : World} {M M' : Nat → Prop} {a a' : Option Addr} {n c : Nat} (h : (Ty.slice E).rep w M [.slice a n c] []) : (Ty.slice E).rep w' M' [.slice a' n c] [] := by
  obtain ⟨a1, c1, hv, g1, g2, g3, hs⟩ := h
  simp only [List.cons.injEq, Value.slice.injEq, and_true] at hv
  obtain ⟨rfl, rfl, rfl⟩ := hv
  exact ⟨a', c, rfl, g1, g2, g3, fun hn => absurd hn (by simp)⟩
set_option maxRecDepth 100000 in
set_option maxHeartbeats 8000000 in
theorem jLoadT_ {w : World} {M : Nat → Prop} {b l : Nat} {sf sn : Option Nat} {D : DDr} {pre : List UInt8} {most : Int} {closed : Bool} {ns : List Nat} {fs : List DFile} (h : DriveAt w M b sf sn D) (hM : M l) (hlb : l ≠ b) (hdead : D.dead = false) (hl : LgAt w l b pre most (.slice none 0 0) closed) (hp : pre.length ≤ 998) (hn : JNames pre D.seen ns) (hG : CutFs pre D.seen ns fs) (hq : D.safe.length + D.queue.length < 1000000) :
    Calls Tryz.prog 47 #[.pointer (some ⟨l, 0, none⟩)] w fun e w' => e = .returned (.int .i64 (trimD D (nameB pre (lastF fs).serial) (lastF fs).size.toNat).2) ∧ ∃ fv M' sf' sn', LgAt w' l b pre most fv closed ∧ FRow w' fv fs ∧ (∀ g, blkOf fv = some g → w.heap.size ≤ g ∧ M' g) ∧ DriveAt w' M' b sf' sn' (trimD D (nameB pre (lastF fs).serial) (lastF fs).size.toNat).1 ∧ JGo b l w M sf sn none w' M' sf' sn' none := by
  have HSER : Hid (∀ W : World, Step w W → Calls Tryz.prog 74 #[.pointer (some ⟨l, 0, none⟩)] W fun e w' => ∃ v, e = .returned v ∧ Gr.Own Ty.u64 32 w' (fun _ => False) W.heap.size v (fs.map (·.serial)) ∧ Step W w') := Lib.hid (fun W hW => by
    rw [← hG.names]
    exact jSerials_ (h.step hW) hdead (CellsAt.step hl hW) hp hn)
  have HD := Lib.hid h
  have HL0 := Lib.hid hl
  have HGG := Lib.hid hG
  have hllt := hl.lt
  have hfew := hG.few
  have h0lt : 0 < fs.length := List.length_pos_iff.2 hG.some
  clear h hl hn hG
  go_enter Tryz.func47, Tryz.ntmps47
  go_wp2_with (go_at_call 74; refine (HSER.out _ stp).mono ?_; rintro e w1 ⟨v1, rfl, hA1, hS1⟩; obtain ⟨a1, n1, c1, rfl, HN1⟩ := hA1.valN; have HA1 := Lib.hid hA1; have HS1 : Hid (Step w w1) := Lib.hid (Step.trans stp hS1); clear hA1 hS1)
  have hn1 : n1 = fs.length := HN1.out.trans (by simp)
  subst hn1
  have HV1 : Hid ((Ty.slice Ty.u64).rep w1 (· < w.heap.size) [.slice a1 fs.length c1] (fs.map (·.serial))) := Lib.hid (Gr.Own.rep' (Gr.Own.flat Ty.flat_u64 HA1.out) (fun c hc hm => by have := (HA1.out.lt hc); omega))
  have hbl1 : Hid (∀ c, (Value.slice a1 fs.length c1).ownBlock = some c → w.heap.size ≤ c) := Lib.hid (fun c hc => by have := (HA1.out.lt hc); omega)
  have HD1 := Lib.hid (HD.out.step HS1.out)
  have HL1 := Lib.hid (CellsAt.step HL0.out HS1.out)
  have hl1 : l < w1.heap.size := Nat.lt_of_lt_of_le hllt HS1.out.size
  clear HSER HN1 HA1
  go_loopw [16] (fun iv w' => ∃ (k : Nat) (fv : Value), iv = .int .i64 (k : Int) ∧ k < fs.length ∧ Hid (LgAt w' l b pre most fv closed) ∧ Hid (FRow w' fv (fs.take k)) ∧ Hid (∀ g, blkOf fv = some g → w1.heap.size ≤ g) ∧ Hid (Turn (fun c => c = l) w1 w')) (fun iv _ => fs.length - (Go.RowKit.intOf iv).toNat)
  case atStart => exact ⟨0, _, rfl, h0lt, HL1, Lib.hid (FRow.nil _), Lib.hid (fun g h => by cases h), Lib.hid (Turn.refl _ _)⟩
  case round =>
    obtain ⟨k, fv, rfl, hk, HL, HF, HGB, HT⟩ := hrel
    obtain ⟨fa, fc, hfv⟩ := HF.out.val
    have hlen : (fs.take k).length = k := by rw [List.length_take]; omega
    rw [hlen] at hfv
    subst hfv
    have hlt : k < fs.length := hk
    · have hd : decide ((k : Int) < (fs.length : Int)) = true := decide_eq_true (by omega)
      have HDr : Hid (DriveAt wr M b sf sn D) := Lib.hid (HD1.out.beside HT.out (fun c hc hx => ⟨by rw [hx]; exact hM, by rw [hx]; exact HD1.out.notDM HL1.out hlb⟩) (fun _ h => h) (fun _ _ h => h) (fun c hc => Nat.lt_of_lt_of_le (HD1.out.old c hc) HT.out.size))
      have HVr := (Ty.slice Ty.u64).keep HV1.out (w' := wr) (M' := (· < w.heap.size)) (fun c hc hm => ⟨HT.out.block c hc (fun e => hm (by rw [e]; exact hllt)), hm⟩)
      obtain ⟨b4, o4, u4, rfl, hb4, _, hu4, hc4⟩ := Ty.slice_at1 rfl HVr (k := k) (by simpa using hlt)
      obtain ⟨hu5, _⟩ := hu4
      obtain ⟨F, hF⟩ : ∃ F, F = fs[k] := ⟨_, rfl⟩
      have hu6 : u4 = .int .u64 (F.serial : Int) := by rw [hF]; simpa using hu5
      subst hu6
      have hok := HGG.out.ok k hlt
      have HCUT := Lib.hid (HGG.out.cut k hlt)
      rw [← hF] at hok HCUT
      obtain ⟨q, hq0⟩ : ∃ q, q = decide (k + 1 < fs.length) := ⟨_, rfl⟩
      have HQ := Lib.hid hq0
      rw [← hq0] at hok
      clear hq0
      have hser := hok.2.1
      have HVD := Lib.hid (slice_dropP rfl HV1.out (k := k + 1) (by simp; omega))
      have hcap : fs.length ≤ c1 := by
        obtain ⟨_, _, hv, h1, _⟩ := HVr
        simp only [List.cons.injEq, Value.slice.injEq, and_true] at hv
        obtain ⟨_, h2, h3⟩ := hv
        simp only [List.length_map] at h1 h2
        omega
      have HRJ : Hid (∀ W : World, Step wr W → Calls Tryz.prog 76 #[.pointer (some ⟨l, 0, none⟩), .int .u64 (F.serial : Int)] W fun e w' => e = .returned (.tuple #[.agg (flV F), .bool true, .bool q, .int .i64 0]) ∧ Step W w') := Lib.hid (fun W hW => by
        have h := jRead_ (HDr.out.step hW) hdead (CellsAt.step HL.out hW) hp hok.2.1 hok.2.2.1 hok.2.2.2.1
        rw [hok.2.2.2.2] at h
        exact h)
      have htk : Hid (fs.take (k + 1) = fs.take k ++ [F]) := Lib.hid (by rw [take_snoc hlt, hF])
      have hFok := hok.1
      have HFE := Lib.hid hF
      clear hok hu5 HVr hF hlen
      have hc40 : wr.cell? ⟨b4, o4 + k, none⟩ = some (.int .u64 (F.serial : Int)) := hc4
      clear hc4
      go_upto_region 6 with (go_at_call 76; refine (HRJ.out _ stp).mono ?_; rintro e w2 ⟨rfl, hS2⟩; have HS2 : Hid (Step wr w2) := Lib.hid (Step.trans stp hS2); clear hS2)
      refine wp_code (fun wx => CellsAt wx w2.heap.size (flV F) 89 ∧ Step wr wx) ⟨CellsAt.new rfl, HS2.out.trans stp⟩ ?_
      rintro w3 ⟨hb3, hS3⟩
      obtain ⟨fb, hfb⟩ : ∃ fb, fb = w2.heap.size := ⟨_, rfl⟩
      rw [← hfb] at hb3 ⊢
      have hfbr : wr.heap.size ≤ fb := by have := HS2.out.size; omega
      have hlr : l < wr.heap.size := HL.out.lt
      have k0 : w3.cell? ⟨fb, 0, none⟩ = some (.int .u64 (F.serial : Int)) := hb3.cell 0
      have k1 : w3.cell? ⟨fb, 1, none⟩ = some (.int .u64 (F.from_ : Int)) := hb3.cell 1
      have k2 : w3.cell? ⟨fb, 2, none⟩ = some (.int .u64 (F.to_ : Int)) := hb3.cell 2
      have k3 : w3.cell? ⟨fb, 3, none⟩ = some (.int .i64 F.size) := hb3.cell 3
      have hfb3 : fb < w3.heap.size := hb3.lt
      have HS3 := Lib.hid hS3
      have HB3 := Lib.hid hb3
      clear hfb hb3 hS3 HRJ HS2 hc40
      rcases k with _ | kk
      · have m3 : w3.cell? ⟨l, 3, none⟩ = some (.slice fa 0 fc) := (HS3.out.cell hlr 3).trans (HL.out.cell 3)
        go_upto_region 13 with fail
        have hfr3 : Hid (FRow w3 (.slice fa 0 fc) (fs.take 0)) := Lib.hid (HF.out.step HS3.out)
        have hlg3 : Hid (LgAt w3 l b pre most (.slice fa 0 fc) closed) := Lib.hid (CellsAt.step HL.out HS3.out)
        have hzr : w1.heap.size ≤ wr.heap.size := HT.out.size
        have hz3 : wr.heap.size ≤ w3.heap.size := HS3.out.size
        have hgl : ∀ c, blkOf (.slice fa 0 fc) = some c → c ≠ l ∧ c ≠ fb := fun c hc => ⟨by have := HGB.out c hc; omega, by have := HF.out.lt hc; omega⟩
        have hl3 : l < w3.heap.size := by omega
        have hfl : (fs.take 0).length < 1000000 := by rw [List.length_take]; omega
        refine wp_region_cut (S := (fun w' => w'.cell? ⟨l, 3, none⟩ = some (.slice fa 0 fc) ∧ w'.cell? ⟨fb, 0, none⟩ = some (.int .u64 (F.serial : Int)) ∧ w'.cell? ⟨fb, 1, none⟩ = some (.int .u64 (F.from_ : Int)) ∧ w'.cell? ⟨fb, 2, none⟩ = some (.int .u64 (F.to_ : Int)) ∧ w'.cell? ⟨fb, 3, none⟩ = some (.int .i64 F.size))) 10 (by kernel_rfl) ?_ (fun hHeld => ?_)
        · (go_keep)
        refine tkC 0 [8, 9, 10] ?_
        try simp only [Act.put, gtA, gtB, gtC, gtD, gtE, gtF]
        refine tkC 1 [2, 3, 4, 7, 8, 9, 10] ?_
        try simp only [Act.put, gtA, gtB, gtC, gtD, gtE, gtF]
        refine tkC 2 [3, 4, 7, 8, 9, 10] ?_
        try simp only [Act.put, gtA, gtB, gtC, gtD, gtE, gtF]
        refine tkC 3 [4, 7, 8, 9, 10] ?_
        try simp only [Act.put, gtA, gtB, gtC, gtD, gtE, gtF]
        refine tkC 4 [7, 8, 9, 10] ?_
        try simp only [Act.put, gtA, gtB, gtC, gtD, gtE, gtF]
        refine tkC 5 [6, 7, 8, 9, 10] ?_
        try simp only [Act.put, gtA, gtB, gtC, gtD, gtE, gtF]
        refine rdC (rs := [6]) (.cons rfl (by decide) (fun K hK => ?_) .nil)
        try simp only [gtA, gtB, gtC]
        go_simp
        refine hK.out _ _ ?_ (fun hHeld => ?_)
        · (go_keep)
        clear hK K
        try simp only [Act.put, gtA, gtB, gtC, gtD, gtE, gtF]
        refine rdC (rs := [7]) (.cons rfl (by decide) (fun K hK => ?_) .nil)
        try simp only [gtA, gtB, gtC]
        refine ite_then rfl ?_; refine wp_append_file (fs := fs.take 0) (f := F) (v := .slice fa 0 fc) (.tmp 80) (.tmp 82) rfl (FRow.step hfr3.out stp) hFok hfl ?_ rfl rfl ?_; (intro j u hj; exact (CellsAt.cell (CellsAt.step (CellsAt.new (w := w3) (cs := flV F) (e := 89) rfl) stp) j).trans (by rcases j with _ | _ | _ | _ | j <;> first | (simp at hj; done) | simpa using hj)); intro v11 w11 hFR11 hT11 hbk; rw [← htk.out] at hFR11; obtain ⟨a11, c11, hv11⟩ := hFR11.val; rw [List.length_take_of_le hlt] at hv11; subst hv11; have HT11 : Hid (Turn (fun c => blkOf (.slice fa 0 fc) = some c) w3 w11) := Lib.hid ((Turn.of stp).trans hT11); have HFR11 := Lib.hid hFR11; have HBK : Hid (∀ c, blkOf (.slice a11 (0 + 1) c11) = some c → w1.heap.size ≤ c) := Lib.hid (fun c hc => by rcases hbk with h | h; exact HGB.out c (h.symm.trans hc); (rw [hc] at h; injection h with h; simp only [World.size_alloc, World.size_drew] at h; omega)); have HLG11 := Lib.hid (hlg3.out.kept (HT11.out.block l hl3 (fun e => (hgl l e).1 rfl))); have HFB11 := Lib.hid (CellsAt.kept HB3.out (HT11.out.block fb hfb3 (fun e => (hgl fb e).2 rfl))); have s11 : ∀ j, w11.cell? ⟨l, j, none⟩ = w3.cell? ⟨l, j, none⟩ := fun j => HT11.out.cell hl3 (fun e => (hgl l e).1 rfl) j; have t11 : ∀ j, w11.cell? ⟨fb, j, none⟩ = w3.cell? ⟨fb, j, none⟩ := fun j => HT11.out.cell hfb3 (fun e => (hgl fb e).2 rfl) j; have f11 : ∀ j, w11.frozen? ⟨l, j, none⟩ = false := fun j => HLG11.out.frozen j; clear hFR11 hT11 hbk
        refine hK.out _ _ ?_ (fun hHeld => ?_)
        · (go_keep)
        clear hK K
        try simp only [Act.put, gtA, gtB, gtC, gtD, gtE, gtF]
        refine tkC 8 [9, 10] ?_
        try simp only [Act.put, gtA, gtB, gtC, gtD, gtE, gtF]
        refine tkC 9 [10] ?_
        try simp only [Act.put, gtA, gtB, gtC, gtD, gtE, gtF]
        refine rdC (rs := [10]) (.cut rfl (fun K hK => ?_))
        try simp only [gtA, gtB, gtC]
        go_simp
        refine hK.out _ _ trivial (fun hHeld => ?_)
        clear hK K
        try simp only [Act.put, gtA, gtB, gtC, gtD, gtE, gtF]
        have hTrue : True := trivial
        refine wpAnyH_done (by kernel_rfl) ?_ _
        refine wp_at (fun wx => LgAt wx l b pre most (.slice a11 (0 + 1) c11) closed ∧ FRow wx (.slice a11 (0 + 1) c11) (fs.take (0 + 1)) ∧ Turn (fun c => c = l) w1 wx ∧ CellsAt wx fb (flV F) 89) ⟨?_, ?_, ?_, ?_⟩ ?_
        · exact CellsAt.step (CellsAt.set HLG11.out 3 _) stp
        · exact FRow.step (HFR11.out.kept (w' := w11.setCell ⟨l, 3, none⟩ (.slice a11 (0 + 1) c11)) (fun c hc => heap_setCell_other _ _ _ _ (fun e => by have h1 := HBK.out c hc; have h2 : c = l := e; omega))) stp
        · have h1 : Turn (fun c => c = l ∨ w1.heap.size ≤ c) w1 w11 := ((HT.out.mono fun c _ h => .inl h).then HS3.out).trans (HT11.out.mono fun c _ h => .inr (HGB.out c h))
          exact (Turn.mono ((h1.setCell (p := ⟨l, 3, none⟩) (fun _ => .inl rfl) _)) (fun c hc h => h.elim id (fun h => by omega))).then stp
        · exact CellsAt.step (CellsAt.kept HFB11.out (heap_setCell_other w11 ⟨l, 3, none⟩ _ _ (fun e => by have h2 : fb = l := e; omega))) stp
        clear m3 k0 k1 k2 k3 s11 t11 f11
        rintro w12 ⟨hlg12, hfr12, hT12, hfb12⟩
        have HFB12 := Lib.hid hfb12
        have HLG12 := Lib.hid hlg12
        have HFR12 := Lib.hid hfr12
        have HT12 := Lib.hid hT12
        clear hlg12 hfr12 hT12 hfb12
        rcases q with _ | _
        · skip
          have hlast : 0 + 1 = fs.length := by
            have h := HQ.out
            have h2 : ¬ (0 + 1 < fs.length) := fun h3 => by rw [decide_eq_true h3] at h; cases h
            omega
          have hzr : w1.heap.size ≤ w12.heap.size := HT12.out.size
          have hz1 : w.heap.size ≤ w1.heap.size := HS1.out.size
          have hl12 : l < w12.heap.size := by omega
          obtain ⟨Mx, hMx⟩ : ∃ Mx : Nat → Prop, ∀ c, Mx c ↔ M c ∨ blkOf (.slice a11 (0 + 1) c11) = some c := ⟨_, fun _ => Iff.rfl⟩
          have HMX := Lib.hid hMx
          clear hMx
          have HD12 : Hid (DriveAt w12 Mx b sf sn D) := Lib.hid (HD1.out.beside HT12.out (fun c hc hx => ⟨by rw [hx]; exact hM, by rw [hx]; exact HD1.out.notDM HL1.out hlb⟩) (fun c h => (HMX.out c).2 (.inl h)) (fun c hc h => ((HMX.out c).1 h).elim id (fun e => by have := HBK.out c e; omega)) (fun c hc => ((HMX.out c).1 hc).elim (fun hc => Nat.lt_of_lt_of_le (HD1.out.old c hc) HT12.out.size) (fun e => HFR12.out.lt e)))
          have hfl3 : lastF fs = F := by
            have h := HFE.out
            rcases files_cases fs with h0 | ⟨i, f, h0⟩
            · exact absurd h0 HGG.out.some
            · subst h0
              rw [lastF_snoc, h, List.getElem_append_right (by simp only [List.length_append, List.length_singleton] at hlast; omega)]
              simp
          have HTA : Hid (fs.take (0 + 1) = fs) := Lib.hid (List.take_of_length_le (by omega))
          have hfbw : w.heap.size ≤ fb := by omega
          have HRMV : Hid (∀ (W : World) (a : Option Addr) (n c : Nat), Step w12 W → n = fs.length - (0 + 1) → c = c1 - (0 + 1) → Calls Tryz.prog 77 #[.pointer (some ⟨l, 0, none⟩), .slice a n c] W fun e w' => e = .returned (.int .i64 0) ∧ ∃ M1 sf1 sn1, DriveAt w' M1 b sf1 sn1 D ∧ DGo b W Mx sf sn w' M1 sf1 sn1) := Lib.hid (fun W a n c hW h1 h2 => by
            subst h1; subst h2
            have hv := HVD.out
            rw [List.drop_eq_nil_of_le (by simp; omega)] at hv
            exact jRemove_ (HD12.out.step hW) (CellsAt.step HLG12.out hW) (HD1.out.notDM HL1.out hlb) (slice_none_any (a' := a) (w' := W) (M' := Mx) hv) hp (fun m hm => by cases hm) (by simp only [List.length_nil]; omega))
          have e1 : ((0 : Nat) : Int) + 1 ≤ (fs.length : Int) := by omega
          have e2 : (fs.length : Int) ≤ (c1 : Int) := by omega
          have e3 : ((0 : Nat) : Int) + 1 ≤ (c1 : Int) := by omega
          have hw1 : IntKind.i64.wrap (((0 : Nat) : Int) + 1) = ((0 : Nat) : Int) + 1 := by rw [IntKind.wrap_i64]; omega
          clear hlast
          go_upto_region 16 with (go_at_call 77; refine (HRMV.out _ _ _ _ stp (by omega) (by omega)).mono ?_; rintro e w13 ⟨rfl, M13, sf13, sn13, hD13, hG13⟩; have HD13 := Lib.hid hD13; have HG13 : Hid (DGo b w12 Mx sf sn w13 M13 sf13 sn13) := Lib.hid (DGo.from stp HD12.out.old hG13); clear hD13 hG13)
          have HB13 : Hid (CellsAt w13 fb (flV F) 89) := Lib.hid (CellsAt.kept HFB12.out (HG13.out.turn.block fb (HFB12.out.lt) (fun hx => hx.elim (fun h => by have := HFB12.out.lt; omega) (fun hd => by have := HD.out.lt hd; omega))))
          have HL13 : Hid (LgAt w13 l b pre most _ closed) := Lib.hid (CellsAt.kept HLG12.out (HG13.out.turn.block l hl12 (fun hx => hx.elim (fun h => by omega) (HD1.out.notDM HL1.out hlb))))
          have HF13 := Lib.hid (HFR12.out.kept (fun c hc => HG13.out.turn.block c (by have := HFR12.out.lt hc; omega) (fun hx => hx.elim (fun h => by have := HFR12.out.lt hc; omega) (fun hd => by have h3 := HD.out.lt hd; have := HBK.out c hc; omega))))
          have k3 : w13.cell? ⟨fb, 3, none⟩ = some (.int .i64 F.size) := HB13.out.cell 3
          have l0 : w13.cell? ⟨l, 0, none⟩ = some (.pointer (some ⟨b, 0, none⟩)) := HL13.out.cell 0
          obtain ⟨hz0, hz9⟩ := HCUT.out
          have HNM : Hid (∀ W : World, Step w13 W → Calls Tryz.prog 51 #[.pointer (some ⟨l, 0, none⟩), .int .u64 (F.serial : Int)] W fun e w' => e = .returned (encStr (nameB pre F.serial)) ∧ ∃ m, w' = W.drewN m) := Lib.hid (fun W hW => jName_ (CellsAt.step HL13.out hW) hser (by omega))
          have HTR : Hid (∀ W : World, Step w13 W → Calls Tryz.prog 26 #[.pointer (some ⟨b, 0, none⟩), encStr (nameB pre F.serial), .int .i64 F.size] W fun y w' => y = .returned (.int .i64 (trimD D (nameB pre F.serial) F.size.toNat).2) ∧ ∃ fv M1 sf1 sn1, LgAt w' l b pre most fv closed ∧ FRow w' fv fs ∧ (∀ g, blkOf fv = some g → w.heap.size ≤ g ∧ M1 g) ∧ DriveAt w' M1 b sf1 sn1 (trimD D (nameB pre F.serial) F.size.toNat).1 ∧ JGo b l w M sf sn none w' M1 sf1 sn1 none) := Lib.hid (fun W hW => by
            have h := dTrim_ (s := nameB pre F.serial) (z := F.size.toNat) (HD13.out.step hW) (by have := nameB_len pre F.serial; omega) hz9 (by omega)
            rw [show ((F.size.toNat : Nat) : Int) = F.size by omega] at h
            refine h.mono ?_
            rintro y w' ⟨rfl, M1, sf1, sn1, h1, h2⟩
            have hGG := HG13.out.trans (DGo.from hW HD13.out.old h2)
            refine ⟨rfl, _, M1, sf1, sn1, ?_, ?_, fun g hg => ⟨Nat.le_trans hz1 (HBK.out g hg), hGG.more g ((HMX.out g).2 (.inr hg))⟩, h1, ?_⟩
            · exact CellsAt.kept HLG12.out (hGG.turn.block l hl12 (fun hx => hx.elim (fun h => by omega) (HD1.out.notDM HL1.out hlb)))
            · rw [← HTA.out]
              exact HFR12.out.kept (fun c hc => hGG.turn.block c (by have := HFR12.out.lt hc; omega) (fun hx => hx.elim (fun h => by have := HFR12.out.lt hc; omega) (fun hd => by have h3 := HD.out.lt hd; have := HBK.out c hc; omega)))
            · refine ⟨((Turn.of HS1.out).trans (HT12.out.mono (fun c _ hc => .inr (.inr (.inl hc))))).trans (hGG.turn.mono (fun c hc hx => ?_)), fun c hc => hGG.more c ((HMX.out c).2 (.inl hc)), fun c hc hx => ((HMX.out c).1 (hGG.less c (by omega) hx)).elim id (fun e => by have := HBK.out c e; omega), fun c hc hx => ?_⟩
              · rcases hx with hx | hx
                · exact .inl (by omega)
                · exact .inr (.inl hx)
              · rcases hx with hx | hx | hx
                · exact .inl (hGG.own c (by omega) hx)
                · exact .inr (.inl hx)
                · cases hx)
          clear HRMV HVD HTA hw1 e1 e2 e3
          go_upto_region 18 with fail
          refine wp_region_cut (S := (fun w' => w'.cell? ⟨l, 0, none⟩ = some (.pointer (some ⟨b, 0, none⟩)) ∧ w'.cell? ⟨fb, 3, none⟩ = some (.int .i64 F.size))) 9 (by kernel_rfl) ?_ (fun hHeld => ?_)
          · (go_keep)
          refine tkC 0 [1, 2, 3, 9, 10] ?_
          try simp only [Act.put, gtA, gtB, gtC, gtD, gtE, gtF]
          refine tkC 1 [2, 3, 9, 10] ?_
          try simp only [Act.put, gtA, gtB, gtC, gtD, gtE, gtF]
          refine tkC 2 [3, 9, 10] ?_
          try simp only [Act.put, gtA, gtB, gtC, gtD, gtE, gtF]
          refine tkC 3 [9, 10] ?_
          try simp only [Act.put, gtA, gtB, gtC, gtD, gtE, gtF]
          refine tkC 4 [6, 9, 10] ?_
          try simp only [Act.put, gtA, gtB, gtC, gtD, gtE, gtF]
          refine tkC 5 [6, 9, 10] ?_
          try simp only [Act.put, gtA, gtB, gtC, gtD, gtE, gtF]
          refine tkC 7 [8, 9, 10] ?_
          try simp only [Act.put, gtA, gtB, gtC, gtD, gtE, gtF]
          refine tkC 8 [9, 10] ?_
          try simp only [Act.put, gtA, gtB, gtC, gtD, gtE, gtF]
          refine rdC (rs := [6]) (.cons rfl (by decide) (fun K hK => ?_) .nil)
          try simp only [gtA, gtB, gtC]
          go_simp
          (go_at_call 51; refine (HNM.out _ stp).mono ?_; rintro e w14 ⟨rfl, m14, rfl⟩)
          refine hK.out _ _ ?_ (fun hHeld => ?_)
          · (go_keep)
          clear hK K
          try simp only [Act.put, gtA, gtB, gtC, gtD, gtE, gtF]
          refine rdC (rs := [9]) (.cut rfl (fun K hK => ?_))
          try simp only [gtA, gtB, gtC]
          go_simp
          (go_at_call 26; refine (HTR.out _ stp).mono ?_; rintro e w15 ⟨rfl, hx15⟩; have HX15 := Lib.hid hx15; clear hx15)
          refine hK.out _ _ trivial (fun hHeld => ?_)
          clear hK K
          try simp only [Act.put, gtA, gtB, gtC, gtD, gtE, gtF]
          have hTrue : True := trivial
          refine tkH 10 ?_
          try simp only [Act.put, gtA, gtB, gtC, gtD, gtE, gtF]
          refine wpAnyH_done (by kernel_rfl) ?_ _
          go_wp2
          all_goals
            go_ret
            try rw [hfl3]
            obtain ⟨fv9, M9, sf9, sn9, z1, z2, z3, z4, z5⟩ := HX15.out
            first
              | exact ⟨rfl, fv9, M9, sf9, sn9, z1, z2, z3, z4, z5⟩
              | exact ⟨rfl, fv9, z1, z2, z3, M9, sf9, sn9, z4, z5⟩
              | exact ⟨rfl, fv9, M9, z1, z2, z3, sf9, sn9, z4, z5⟩
              | exact ⟨rfl, fv9, z1, z2, M9, z3, sf9, sn9, z4, z5⟩

        · go_wp2
          go_roundw
          case rel => exact ⟨0 + 1, _, by go_num, of_decide_eq_true HQ.out.symm, HLG12, HFR12, HBK, HT12⟩
          case measure => simp [Go.RowKit.intOf]; omega

      · have m3 : w3.cell? ⟨l, 3, none⟩ = some (.slice fa (kk + 1) fc) := (HS3.out.cell hlr 3).trans (HL.out.cell 3)
        have hFR3 := HF.out.step HS3.out
        obtain ⟨g3, o3, rfl, hg3, q0, _, q2, _, _⟩ := hFR3.cells (k := kk) (by rw [List.length_take]; omega)
        rw [List.getElem_take] at q0 q2
        obtain ⟨P, hP⟩ : ∃ P, P = fs[kk] := ⟨_, rfl⟩
        rw [← hP] at q0 q2
        have hPok := (HGG.out.ok kk (by omega)).2.1
        rw [← hP] at hPok
        have hch := HGG.out.chain kk hlt
        rw [← hP, ← HFE.out] at hch
        have hb1 : ((F.serial : Int) == (P.serial : Int) + 1) = true := beq_iff_eq.2 (by omega)
        have hb2 : ((F.from_ : Int) == (P.to_ : Int)) = true := beq_iff_eq.2 (by omega)
        have hwp : IntKind.u64.wrap ((P.serial : Int) + 1) = (P.serial : Int) + 1 := by rw [IntKind.wrap_u64]; omega
        have hwn : IntKind.i64.wrap (kk : Int) = (kk : Int) := by rw [IntKind.wrap_i64]; omega
        have hnlt : (kk : Int) < (kk : Int) + 1 := by omega
        have hge : decide ((0 : Int) ≤ (kk : Int)) = true := decide_eq_true (by omega)
        clear hP hch hFR3
        go_upto_region 10 with fail
        go_quiet (fail)
        go_upto_region 13 with fail
        refine wp_code (fun wx => Step wr wx ∧ CellsAt wx fb (flV F) 89) ⟨HS3.out.trans stp, CellsAt.step HB3.out stp⟩ ?_
        clear k0 k1 k2 k3 m3 q0 q2 hfb3 HS3 HB3 hg3 hb1 hb2 hwp hwn hnlt hge
        rintro w3 ⟨hS3, hb3⟩
        have k0 : w3.cell? ⟨fb, 0, none⟩ = some (.int .u64 (F.serial : Int)) := hb3.cell 0
        have k1 : w3.cell? ⟨fb, 1, none⟩ = some (.int .u64 (F.from_ : Int)) := hb3.cell 1
        have k2 : w3.cell? ⟨fb, 2, none⟩ = some (.int .u64 (F.to_ : Int)) := hb3.cell 2
        have k3 : w3.cell? ⟨fb, 3, none⟩ = some (.int .i64 F.size) := hb3.cell 3
        have hfb3 : fb < w3.heap.size := hb3.lt
        have m3 : w3.cell? ⟨l, 3, none⟩ = some (.slice (some ⟨g3, o3, none⟩) (kk + 1) fc) := (hS3.cell hlr 3).trans (HL.out.cell 3)
        have HB3 := Lib.hid hb3
        have HS3 := Lib.hid hS3
        clear hS3 hb3
        have hfr3 : Hid (FRow w3 (.slice (some ⟨g3, o3, none⟩) (kk + 1) fc) (fs.take (kk + 1))) := Lib.hid (HF.out.step HS3.out)
        have hlg3 : Hid (LgAt w3 l b pre most (.slice (some ⟨g3, o3, none⟩) (kk + 1) fc) closed) := Lib.hid (CellsAt.step HL.out HS3.out)
        have hzr : w1.heap.size ≤ wr.heap.size := HT.out.size
        have hz3 : wr.heap.size ≤ w3.heap.size := HS3.out.size
        have hgl : ∀ c, blkOf (.slice (some ⟨g3, o3, none⟩) (kk + 1) fc) = some c → c ≠ l ∧ c ≠ fb := fun c hc => ⟨by have := HGB.out c hc; omega, by have := HF.out.lt hc; omega⟩
        have hl3 : l < w3.heap.size := by omega
        have hfl : (fs.take (kk + 1)).length < 1000000 := by rw [List.length_take]; omega
        refine wp_region_cut (S := (fun w' => w'.cell? ⟨l, 3, none⟩ = some (.slice (some ⟨g3, o3, none⟩) (kk + 1) fc) ∧ w'.cell? ⟨fb, 0, none⟩ = some (.int .u64 (F.serial : Int)) ∧ w'.cell? ⟨fb, 1, none⟩ = some (.int .u64 (F.from_ : Int)) ∧ w'.cell? ⟨fb, 2, none⟩ = some (.int .u64 (F.to_ : Int)) ∧ w'.cell? ⟨fb, 3, none⟩ = some (.int .i64 F.size))) 10 (by kernel_rfl) ?_ (fun hHeld => ?_)
        · (go_keep)
        refine tkC 0 [8, 9, 10] ?_
        try simp only [Act.put, gtA, gtB, gtC, gtD, gtE, gtF]
        refine tkC 1 [2, 3, 4, 7, 8, 9, 10] ?_
        try simp only [Act.put, gtA, gtB, gtC, gtD, gtE, gtF]
        refine tkC 2 [3, 4, 7, 8, 9, 10] ?_
        try simp only [Act.put, gtA, gtB, gtC, gtD, gtE, gtF]
        refine tkC 3 [4, 7, 8, 9, 10] ?_
        try simp only [Act.put, gtA, gtB, gtC, gtD, gtE, gtF]
        refine tkC 4 [7, 8, 9, 10] ?_
        try simp only [Act.put, gtA, gtB, gtC, gtD, gtE, gtF]
        refine tkC 5 [6, 7, 8, 9, 10] ?_
        try simp only [Act.put, gtA, gtB, gtC, gtD, gtE, gtF]
        refine rdC (rs := [6]) (.cons rfl (by decide) (fun K hK => ?_) .nil)
        try simp only [gtA, gtB, gtC]
        go_simp
        refine hK.out _ _ ?_ (fun hHeld => ?_)
        · (go_keep)
        clear hK K
        try simp only [Act.put, gtA, gtB, gtC, gtD, gtE, gtF]
        refine rdC (rs := [7]) (.cons rfl (by decide) (fun K hK => ?_) .nil)
        try simp only [gtA, gtB, gtC]
        refine ite_then rfl ?_; refine wp_append_file (fs := fs.take (kk + 1)) (f := F) (v := .slice (some ⟨g3, o3, none⟩) (kk + 1) fc) (.tmp 80) (.tmp 82) rfl (FRow.step hfr3.out stp) hFok hfl ?_ rfl rfl ?_; (intro j u hj; exact (CellsAt.cell (CellsAt.step (CellsAt.new (w := w3) (cs := flV F) (e := 89) rfl) stp) j).trans (by rcases j with _ | _ | _ | _ | j <;> first | (simp at hj; done) | simpa using hj)); intro v11 w11 hFR11 hT11 hbk; rw [← htk.out] at hFR11; obtain ⟨a11, c11, hv11⟩ := hFR11.val; rw [List.length_take_of_le hlt] at hv11; subst hv11; have HT11 : Hid (Turn (fun c => blkOf (.slice (some ⟨g3, o3, none⟩) (kk + 1) fc) = some c) w3 w11) := Lib.hid ((Turn.of stp).trans hT11); have HFR11 := Lib.hid hFR11; have HBK : Hid (∀ c, blkOf (.slice a11 ((kk + 1) + 1) c11) = some c → w1.heap.size ≤ c) := Lib.hid (fun c hc => by rcases hbk with h | h; exact HGB.out c (h.symm.trans hc); (rw [hc] at h; injection h with h; simp only [World.size_alloc, World.size_drew] at h; omega)); have HLG11 := Lib.hid (hlg3.out.kept (HT11.out.block l hl3 (fun e => (hgl l e).1 rfl))); have HFB11 := Lib.hid (CellsAt.kept HB3.out (HT11.out.block fb hfb3 (fun e => (hgl fb e).2 rfl))); have s11 : ∀ j, w11.cell? ⟨l, j, none⟩ = w3.cell? ⟨l, j, none⟩ := fun j => HT11.out.cell hl3 (fun e => (hgl l e).1 rfl) j; have t11 : ∀ j, w11.cell? ⟨fb, j, none⟩ = w3.cell? ⟨fb, j, none⟩ := fun j => HT11.out.cell hfb3 (fun e => (hgl fb e).2 rfl) j; have f11 : ∀ j, w11.frozen? ⟨l, j, none⟩ = false := fun j => HLG11.out.frozen j; clear hFR11 hT11 hbk
        refine hK.out _ _ ?_ (fun hHeld => ?_)
        · (go_keep)
        clear hK K
        try simp only [Act.put, gtA, gtB, gtC, gtD, gtE, gtF]
        refine tkC 8 [9, 10] ?_
        try simp only [Act.put, gtA, gtB, gtC, gtD, gtE, gtF]
        refine tkC 9 [10] ?_
        try simp only [Act.put, gtA, gtB, gtC, gtD, gtE, gtF]
        refine rdC (rs := [10]) (.cut rfl (fun K hK => ?_))
        try simp only [gtA, gtB, gtC]
        go_simp
        refine hK.out _ _ trivial (fun hHeld => ?_)
        clear hK K
        try simp only [Act.put, gtA, gtB, gtC, gtD, gtE, gtF]
        have hTrue : True := trivial
        refine wpAnyH_done (by kernel_rfl) ?_ _
        refine wp_at (fun wx => LgAt wx l b pre most (.slice a11 ((kk + 1) + 1) c11) closed ∧ FRow wx (.slice a11 ((kk + 1) + 1) c11) (fs.take ((kk + 1) + 1)) ∧ Turn (fun c => c = l) w1 wx ∧ CellsAt wx fb (flV F) 89) ⟨?_, ?_, ?_, ?_⟩ ?_
        · exact CellsAt.step (CellsAt.set HLG11.out 3 _) stp
        · exact FRow.step (HFR11.out.kept (w' := w11.setCell ⟨l, 3, none⟩ (.slice a11 (kk + 1 + 1) c11)) (fun c hc => heap_setCell_other _ _ _ _ (fun e => by have h1 := HBK.out c hc; have h2 : c = l := e; omega))) stp
        · have h1 : Turn (fun c => c = l ∨ w1.heap.size ≤ c) w1 w11 := ((HT.out.mono fun c _ h => .inl h).then HS3.out).trans (HT11.out.mono fun c _ h => .inr (HGB.out c h))
          exact (Turn.mono ((h1.setCell (p := ⟨l, 3, none⟩) (fun _ => .inl rfl) _)) (fun c hc h => h.elim id (fun h => by omega))).then stp
        · exact CellsAt.step (CellsAt.kept HFB11.out (heap_setCell_other w11 ⟨l, 3, none⟩ _ _ (fun e => by have h2 : fb = l := e; omega))) stp
        clear m3 k0 k1 k2 k3 s11 t11 f11
        rintro w12 ⟨hlg12, hfr12, hT12, hfb12⟩
        have HFB12 := Lib.hid hfb12
        have HLG12 := Lib.hid hlg12
        have HFR12 := Lib.hid hfr12
        have HT12 := Lib.hid hT12
        clear hlg12 hfr12 hT12 hfb12
        rcases q with _ | _
        · skip
          have hlast : (kk+1) + 1 = fs.length := by
            have h := HQ.out
            have h2 : ¬ ((kk+1) + 1 < fs.length) := fun h3 => by rw [decide_eq_true h3] at h; cases h
            omega
          have hzr : w1.heap.size ≤ w12.heap.size := HT12.out.size
          have hz1 : w.heap.size ≤ w1.heap.size := HS1.out.size
          have hl12 : l < w12.heap.size := by omega
          obtain ⟨Mx, hMx⟩ : ∃ Mx : Nat → Prop, ∀ c, Mx c ↔ M c ∨ blkOf (.slice a11 ((kk+1) + 1) c11) = some c := ⟨_, fun _ => Iff.rfl⟩
          have HMX := Lib.hid hMx
          clear hMx
          have HD12 : Hid (DriveAt w12 Mx b sf sn D) := Lib.hid (HD1.out.beside HT12.out (fun c hc hx => ⟨by rw [hx]; exact hM, by rw [hx]; exact HD1.out.notDM HL1.out hlb⟩) (fun c h => (HMX.out c).2 (.inl h)) (fun c hc h => ((HMX.out c).1 h).elim id (fun e => by have := HBK.out c e; omega)) (fun c hc => ((HMX.out c).1 hc).elim (fun hc => Nat.lt_of_lt_of_le (HD1.out.old c hc) HT12.out.size) (fun e => HFR12.out.lt e)))
          have hfl3 : lastF fs = F := by
            have h := HFE.out
            rcases files_cases fs with h0 | ⟨i, f, h0⟩
            · exact absurd h0 HGG.out.some
            · subst h0
              rw [lastF_snoc, h, List.getElem_append_right (by simp only [List.length_append, List.length_singleton] at hlast; omega)]
              simp
          have HTA : Hid (fs.take ((kk+1) + 1) = fs) := Lib.hid (List.take_of_length_le (by omega))
          have hfbw : w.heap.size ≤ fb := by omega
          have HRMV : Hid (∀ (W : World) (a : Option Addr) (n c : Nat), Step w12 W → n = fs.length - ((kk+1) + 1) → c = c1 - ((kk+1) + 1) → Calls Tryz.prog 77 #[.pointer (some ⟨l, 0, none⟩), .slice a n c] W fun e w' => e = .returned (.int .i64 0) ∧ ∃ M1 sf1 sn1, DriveAt w' M1 b sf1 sn1 D ∧ DGo b W Mx sf sn w' M1 sf1 sn1) := Lib.hid (fun W a n c hW h1 h2 => by
            subst h1; subst h2
            have hv := HVD.out
            rw [List.drop_eq_nil_of_le (by simp; omega)] at hv
            exact jRemove_ (HD12.out.step hW) (CellsAt.step HLG12.out hW) (HD1.out.notDM HL1.out hlb) (slice_none_any (a' := a) (w' := W) (M' := Mx) hv) hp (fun m hm => by cases hm) (by simp only [List.length_nil]; omega))
          have e1 : (((kk+1) : Nat) : Int) + 1 ≤ (fs.length : Int) := by omega
          have e2 : (fs.length : Int) ≤ (c1 : Int) := by omega
          have e3 : (((kk+1) : Nat) : Int) + 1 ≤ (c1 : Int) := by omega
          have hw1 : IntKind.i64.wrap ((((kk+1) : Nat) : Int) + 1) = (((kk+1) : Nat) : Int) + 1 := by rw [IntKind.wrap_i64]; omega
          clear hlast
          go_upto_region 16 with (go_at_call 77; refine (HRMV.out _ _ _ _ stp (by omega) (by omega)).mono ?_; rintro e w13 ⟨rfl, M13, sf13, sn13, hD13, hG13⟩; have HD13 := Lib.hid hD13; have HG13 : Hid (DGo b w12 Mx sf sn w13 M13 sf13 sn13) := Lib.hid (DGo.from stp HD12.out.old hG13); clear hD13 hG13)
          have HB13 : Hid (CellsAt w13 fb (flV F) 89) := Lib.hid (CellsAt.kept HFB12.out (HG13.out.turn.block fb (HFB12.out.lt) (fun hx => hx.elim (fun h => by have := HFB12.out.lt; omega) (fun hd => by have := HD.out.lt hd; omega))))
          have HL13 : Hid (LgAt w13 l b pre most _ closed) := Lib.hid (CellsAt.kept HLG12.out (HG13.out.turn.block l hl12 (fun hx => hx.elim (fun h => by omega) (HD1.out.notDM HL1.out hlb))))
          have HF13 := Lib.hid (HFR12.out.kept (fun c hc => HG13.out.turn.block c (by have := HFR12.out.lt hc; omega) (fun hx => hx.elim (fun h => by have := HFR12.out.lt hc; omega) (fun hd => by have h3 := HD.out.lt hd; have := HBK.out c hc; omega))))
          have k3 : w13.cell? ⟨fb, 3, none⟩ = some (.int .i64 F.size) := HB13.out.cell 3
          have l0 : w13.cell? ⟨l, 0, none⟩ = some (.pointer (some ⟨b, 0, none⟩)) := HL13.out.cell 0
          obtain ⟨hz0, hz9⟩ := HCUT.out
          have HNM : Hid (∀ W : World, Step w13 W → Calls Tryz.prog 51 #[.pointer (some ⟨l, 0, none⟩), .int .u64 (F.serial : Int)] W fun e w' => e = .returned (encStr (nameB pre F.serial)) ∧ ∃ m, w' = W.drewN m) := Lib.hid (fun W hW => jName_ (CellsAt.step HL13.out hW) hser (by omega))
          have HTR : Hid (∀ W : World, Step w13 W → Calls Tryz.prog 26 #[.pointer (some ⟨b, 0, none⟩), encStr (nameB pre F.serial), .int .i64 F.size] W fun y w' => y = .returned (.int .i64 (trimD D (nameB pre F.serial) F.size.toNat).2) ∧ ∃ fv M1 sf1 sn1, LgAt w' l b pre most fv closed ∧ FRow w' fv fs ∧ (∀ g, blkOf fv = some g → w.heap.size ≤ g ∧ M1 g) ∧ DriveAt w' M1 b sf1 sn1 (trimD D (nameB pre F.serial) F.size.toNat).1 ∧ JGo b l w M sf sn none w' M1 sf1 sn1 none) := Lib.hid (fun W hW => by
            have h := dTrim_ (s := nameB pre F.serial) (z := F.size.toNat) (HD13.out.step hW) (by have := nameB_len pre F.serial; omega) hz9 (by omega)
            rw [show ((F.size.toNat : Nat) : Int) = F.size by omega] at h
            refine h.mono ?_
            rintro y w' ⟨rfl, M1, sf1, sn1, h1, h2⟩
            have hGG := HG13.out.trans (DGo.from hW HD13.out.old h2)
            refine ⟨rfl, _, M1, sf1, sn1, ?_, ?_, fun g hg => ⟨Nat.le_trans hz1 (HBK.out g hg), hGG.more g ((HMX.out g).2 (.inr hg))⟩, h1, ?_⟩
            · exact CellsAt.kept HLG12.out (hGG.turn.block l hl12 (fun hx => hx.elim (fun h => by omega) (HD1.out.notDM HL1.out hlb)))
            · rw [← HTA.out]
              exact HFR12.out.kept (fun c hc => hGG.turn.block c (by have := HFR12.out.lt hc; omega) (fun hx => hx.elim (fun h => by have := HFR12.out.lt hc; omega) (fun hd => by have h3 := HD.out.lt hd; have := HBK.out c hc; omega)))
            · refine ⟨((Turn.of HS1.out).trans (HT12.out.mono (fun c _ hc => .inr (.inr (.inl hc))))).trans (hGG.turn.mono (fun c hc hx => ?_)), fun c hc => hGG.more c ((HMX.out c).2 (.inl hc)), fun c hc hx => ((HMX.out c).1 (hGG.less c (by omega) hx)).elim id (fun e => by have := HBK.out c e; omega), fun c hc hx => ?_⟩
              · rcases hx with hx | hx
                · exact .inl (by omega)
                · exact .inr (.inl hx)
              · rcases hx with hx | hx | hx
                · exact .inl (hGG.own c (by omega) hx)
                · exact .inr (.inl hx)
                · cases hx)
          clear HRMV HVD HTA hw1 e1 e2 e3
          go_upto_region 18 with fail
          refine wp_region_cut (S := (fun w' => w'.cell? ⟨l, 0, none⟩ = some (.pointer (some ⟨b, 0, none⟩)) ∧ w'.cell? ⟨fb, 3, none⟩ = some (.int .i64 F.size))) 9 (by kernel_rfl) ?_ (fun hHeld => ?_)
          · (go_keep)
          refine tkC 0 [1, 2, 3, 9, 10] ?_
          try simp only [Act.put, gtA, gtB, gtC, gtD, gtE, gtF]
          refine tkC 1 [2, 3, 9, 10] ?_
          try simp only [Act.put, gtA, gtB, gtC, gtD, gtE, gtF]
          refine tkC 2 [3, 9, 10] ?_
          try simp only [Act.put, gtA, gtB, gtC, gtD, gtE, gtF]
          refine tkC 3 [9, 10] ?_
          try simp only [Act.put, gtA, gtB, gtC, gtD, gtE, gtF]
          refine tkC 4 [6, 9, 10] ?_
          try simp only [Act.put, gtA, gtB, gtC, gtD, gtE, gtF]
          refine tkC 5 [6, 9, 10] ?_
          try simp only [Act.put, gtA, gtB, gtC, gtD, gtE, gtF]
          refine tkC 7 [8, 9, 10] ?_
          try simp only [Act.put, gtA, gtB, gtC, gtD, gtE, gtF]
          refine tkC 8 [9, 10] ?_
          try simp only [Act.put, gtA, gtB, gtC, gtD, gtE, gtF]
          refine rdC (rs := [6]) (.cons rfl (by decide) (fun K hK => ?_) .nil)
          try simp only [gtA, gtB, gtC]
          go_simp
          (go_at_call 51; refine (HNM.out _ stp).mono ?_; rintro e w14 ⟨rfl, m14, rfl⟩)
          refine hK.out _ _ ?_ (fun hHeld => ?_)
          · (go_keep)
          clear hK K
          try simp only [Act.put, gtA, gtB, gtC, gtD, gtE, gtF]
          refine rdC (rs := [9]) (.cut rfl (fun K hK => ?_))
          try simp only [gtA, gtB, gtC]
          go_simp
          (go_at_call 26; refine (HTR.out _ stp).mono ?_; rintro e w15 ⟨rfl, hx15⟩; have HX15 := Lib.hid hx15; clear hx15)
          refine hK.out _ _ trivial (fun hHeld => ?_)
          clear hK K
          try simp only [Act.put, gtA, gtB, gtC, gtD, gtE, gtF]
          have hTrue : True := trivial
          refine tkH 10 ?_
          try simp only [Act.put, gtA, gtB, gtC, gtD, gtE, gtF]
          refine wpAnyH_done (by kernel_rfl) ?_ _
          go_wp2
          all_goals
            go_ret
            try rw [hfl3]
            obtain ⟨fv9, M9, sf9, sn9, z1, z2, z3, z4, z5⟩ := HX15.out
            first
              | exact ⟨rfl, fv9, M9, sf9, sn9, z1, z2, z3, z4, z5⟩
              | exact ⟨rfl, fv9, z1, z2, z3, M9, sf9, sn9, z4, z5⟩
              | exact ⟨rfl, fv9, M9, z1, z2, z3, sf9, sn9, z4, z5⟩
              | exact ⟨rfl, fv9, z1, z2, M9, z3, sf9, sn9, z4, z5⟩

        · go_wp2
          go_roundw
          case rel => exact ⟨(kk + 1) + 1, _, by go_num, of_decide_eq_true HQ.out.symm, HLG12, HFR12, HBK, HT12⟩
          case measure => simp [Go.RowKit.intOf]; omega

end Go.Proofs.YthebdlkmoailaaaGreatDoor

namespace Go.Proofs.YthebdlkmoailaaaGreatDoor
open Go.RowKit Go.Gr Go.Maps
open Go.Proofs (encStr)
set_option linter.unusedSimpArgs false
set_option linter.unusedVariables false
/-- What load comes to, upon a drive at D: the files fs, and the drive at D1. -/
def LoadsTo (pre : List UInt8) (most : Int) (b : Nat) (sf sn : Option Nat) (D : DDr) (fs : List DFile) (D1 : DDr) : Prop :=
  ∀ (W : World) (M : Nat → Prop) (l : Nat), DriveAt W M b sf sn D → M l → l ≠ b → LgAt W l b pre most (.slice none 0 0) true →
    Calls Tryz.prog 47 #[.pointer (some ⟨l, 0, none⟩)] W fun e w' => e = .returned (.int .i64 0) ∧ ∃ fv M' sf' sn', LgAt w' l b pre most fv true ∧ FRow w' fv fs ∧ (∀ g, blkOf fv = some g → W.heap.size ≤ g ∧ M' g) ∧ DriveAt w' M' b sf' sn' D1 ∧ JGo b l W M sf sn none w' M' sf' sn' none
theorem LoadsTo.good {pre : List UInt8} {most : Int} {b : Nat} {sf sn : Option Nat} {D : DDr} {ns : List Nat} {fs : List DFile} (hdead : D.dead = false) (hp : pre.length ≤ 998) (hn : JNames pre D.seen ns) (hG : GoodFs pre D.seen ns fs) : LoadsTo pre most b sf sn D fs D := fun W M l hD hM hlb hL => by
  refine (jLoad_ hD hM hlb hdead hL hp hn hG).mono ?_
  rintro e w' ⟨rfl, fv, h1, h2, h3, hT⟩
  have hless : ∀ c, c < W.heap.size → (M c ∨ blkOf fv = some c) → M c := fun c hc h => h.elim id (fun e => by have := h3 c e; omega)
  refine ⟨rfl, fv, fun c => M c ∨ blkOf fv = some c, sf, sn, h1, h2, fun g hg => ⟨h3 g hg, .inr hg⟩, ?_, ⟨hT.mono fun c _ hc => .inr (.inr (.inl hc)), fun c hc => .inl hc, hless, fun c _ hx => hx⟩⟩
  exact hD.beside hT (fun c hc hx => ⟨by rw [hx]; exact hM, by rw [hx]; exact hD.notDM hL hlb⟩) (fun c h => .inl h) hless (fun c hc => hc.elim (fun hc => Nat.lt_of_lt_of_le (hD.old c hc) hT.size) (fun e => h2.lt e))
/-- Behind Open: a fresh journal l upon the drive at D2. -/
def OpenedAt (w w' : World) (M : Nat → Prop) (b : Nat) (sf sn : Option Nat) (pre : List UInt8) (D2 : DDr) (L : DLog) (l : Nat) : Prop :=
  w.heap.size ≤ l ∧ ∃ g M' sf' sn', DriveAt w' M' b sf' sn' D2 ∧ LogAt w' M' l b g pre L ∧ DGo b w M sf sn w' M' sf' sn' ∧ ∀ c, g = some c → w.heap.size ≤ c
set_option maxRecDepth 100000 in
set_option maxHeartbeats 8000000 in
theorem jOpenG_ {w : World} {M : Nat → Prop} {b : Nat} {sf sn : Option Nat} {D D1 : DDr} {pre : List UInt8} {most : Int} {fs : List DFile} (h : DriveAt w M b sf sn D) (hdead : D.dead = false) (hm : I64 most) (hld : LoadsTo pre (max 1 most) b sf sn D fs D1) (hok : D.queue.length < D1.queue.length → (flushD D1).2 = 0) :
    Calls Tryz.prog 12 #[.pointer (some ⟨b, 0, none⟩), encStr pre, .int .i64 most] w fun e w' => ∃ l, e = .returned (.tuple #[.pointer (some ⟨l, 0, none⟩), .int .i64 0]) ∧ OpenedAt w w' M b sf sn pre (if D.queue.length < D1.queue.length then (flushD D1).1 else D1) ⟨max 1 most, fs, true⟩ l := by
  obtain ⟨queue, hr, hq⟩ := h.row
  obtain ⟨qa, qc, rfl, _, _, hql⟩ := Ty.slice_val hq
  have HDEAD : Hid (∀ W : World, Step w W → Calls Tryz.prog 45 #[.pointer (some ⟨b, 0, none⟩)] W fun e w' => e = .returned (.bool false) ∧ w' = W) := Lib.hid (fun W hW => by
    have h2 := dDead_ (CellsAt.step hr hW)
    rw [hdead] at h2
    exact h2)
  have HQ : Hid (∀ W : World, Step w W → Calls Tryz.prog 46 #[.pointer (some ⟨b, 0, none⟩)] W fun e w' => e = .returned (.int .i64 (D.queue.length : Int)) ∧ w' = W) := Lib.hid (fun W hW => dQueue_ (CellsAt.step hr hW))
  obtain ⟨mm, hmm⟩ : ∃ mm, mm = max 1 most := ⟨_, rfl⟩
  have hmI : I64 mm := by rw [hmm]; unfold I64 at hm ⊢; omega
  have hbw : b < w.heap.size := h.lt (.inl rfl)
  have HLOAD : Hid (∀ (W : World) (l : Nat), Step w W → w.heap.size ≤ l → LgAt W l b pre mm (.slice none 0 0) true → Calls Tryz.prog 47 #[.pointer (some ⟨l, 0, none⟩)] W fun e w' => e = .returned (.int .i64 0) ∧ ∃ g M2 sf2 sn2, LogAt w' M2 l b g pre ⟨mm, fs, true⟩ ∧ DriveAt w' M2 b sf2 sn2 D1 ∧ DGo b w M sf sn w' M2 sf2 sn2 ∧ ∀ c, g = some c → w.heap.size ≤ c) := Lib.hid (fun W l hW hl hL => by
    have hz := hW.size
    have hDx : DriveAt W (fun c => M c ∨ c = l) b sf sn D := h.keep (fun c hc => ⟨hW.heap (h.lt hc), .inl (h.own c hc)⟩) (fun c hc hn => ⟨hW.heap hc, fun hx => hx.elim hn (fun e => by omega)⟩) (fun c hc => hc.elim (fun hc => Nat.lt_of_lt_of_le (h.old c hc) hW.size) (fun e => by rw [e]; exact hL.lt))
    rw [hmm] at hL
    refine (hld W _ l hDx (.inr rfl) (by omega) hL).mono ?_
    rintro e w' ⟨rfl, fv, M2, sf2, sn2, h1, h2, h3, h4, h5⟩
    refine ⟨rfl, blkOf fv, M2, sf2, sn2, ⟨⟨fv, by rw [hmm]; exact h1, h2, rfl⟩, h5.more l (.inr rfl), fun c hc => ⟨(h3 c hc).2, ?_, ?_⟩, by omega, hmI⟩, h4, ⟨(Turn.of hW).trans (h5.turn.mono fun c hc hx => ?_), fun c hc => h5.more c (.inl hc), fun c hc hx => (h5.less c (by omega) hx).elim id (fun e => by omega), fun c hc hx => ?_⟩, fun c hc => Nat.le_trans hz (h3 c hc).1⟩
    · have := (h3 c hc).1; have := hL.lt; omega
    · have := (h3 c hc).1; omega
    · rcases hx with hx | hx | hx | hx
      · exact .inl (by omega)
      · exact .inr hx
      · exact .inl (by omega)
      · cases hx
    · rcases h5.own c (by omega) (.inl hx) with hx | hx | hx
      · exact hx
      · omega
      · cases hx)
  have HMM := Lib.hid hmm
  rw [← hmm]
  have HOK := Lib.hid hok
  clear h hr hq hld hok
  generalize hN : D.queue.length = N at *
  generalize hN1 : D1.queue.length = N1 at *
  have HN1 := Lib.hid hN1
  clear hmm hN hN1
  go_enter Tryz.func12, Tryz.ntmps12
  go_upto_region 5 with (first
    | (go_at_call 45; refine (HDEAD.out _ stp).mono ?_; rintro e w1 ⟨rfl, hw1⟩; subst w1)
    | (go_at_call 46; refine (HQ.out _ stp).mono ?_; rintro e w1 ⟨rfl, hw1⟩; subst w1))
  obtain ⟨l, hl⟩ : ∃ l, l = w.heap.size := ⟨_, rfl⟩
  rw [← hl]
  refine wp_code (fun wx => LgAt wx l b pre mm (.slice none 0 0) true ∧ Step w wx) ⟨by rw [HMM.out]; exact CellsAt.new hl, by (repeat (first | exact Step.refl _ | refine Step.alloc ?_ _ | refine Step.drew ?_ | refine Step.drewN ?_ _ | refine Step.setCell ?_ (by first | exact Nat.le_refl _ | assumption | omega | (simp; done) | (simp; omega)) _ | assumption | refine Step.trans ?_ (by assumption : Step _ _)))⟩ ?_
  have hwl := Lib.hid (Nat.le_of_eq hl.symm)
  rintro w1 ⟨hl1, hS1⟩
  have HL1 := Lib.hid hl1
  have HS1 := Lib.hid hS1
  clear hl hl1 hS1 HDEAD HQ
  go_upto_region 6 with (go_at_call 47; refine (HLOAD.out _ _ (HS1.out.trans stp) hwl.out (CellsAt.step HL1.out stp)).mono ?_; rintro e w2 ⟨rfl, g, M2, sf2, sn2, hO2, hD2, hG2, hgw⟩)
  obtain ⟨queue2, hr2, hq2⟩ := hD2.row
  obtain ⟨qa2, qc2, rfl, _, _, _⟩ := Ty.slice_val hq2
  clear hq2
  have HQ2 : Hid (∀ W : World, Step w2 W → Calls Tryz.prog 46 #[.pointer (some ⟨b, 0, none⟩)] W fun e w' => e = .returned (.int .i64 (N1 : Int)) ∧ w' = W) := Lib.hid (fun W hW => by rw [← HN1.out]; exact dQueue_ (CellsAt.step hr2 hW))
  have HFL : Hid (∀ W : World, Step w2 W → N < N1 → Calls Tryz.prog 31 #[.pointer (some ⟨b, 0, none⟩)] W fun e w' => e = .returned (.int .i64 0) ∧ ∃ M3 sf3 sn3, DriveAt w' M3 b sf3 sn3 (flushD D1).1 ∧ LogAt w' M3 l b g pre ⟨mm, fs, true⟩ ∧ DGo b w M sf sn w' M3 sf3 sn3) := Lib.hid (fun W hW hlt => by
    have h := dFlush_ (hD2.step hW)
    rw [HOK.out hlt] at h
    refine h.mono ?_
    rintro e w' ⟨rfl, M3, sf3, sn3, h1, h2⟩
    exact ⟨rfl, M3, sf3, sn3, h1, (hO2.step hW).beside (hD2.step hW) h2, hG2.trans (DGo.from hW hD2.old h2)⟩)
  have HO2 := Lib.hid hO2
  have HD2 := Lib.hid hD2
  have HG2 := Lib.hid hG2
  have HGW := Lib.hid hgw
  have hwl1 := hwl.out
  clear hO2 hD2 hG2 hgw hr2 HLOAD HOK
  by_cases hlt : N < N1
  · have hd : decide ((N : Int) < (N1 : Int)) = true := decide_eq_true (by omega)
    have HLT := Lib.hid hlt
    go_wp2_with (first
      | (go_at_call 46; refine (HQ2.out _ stp).mono ?_; rintro e w3 ⟨rfl, hw3⟩; subst w3)
      | (go_at_call 31; refine (HFL.out _ stp HLT.out).mono ?_; rintro e w4 ⟨rfl, M3, sf3, sn3, hD3, hO3, hG3⟩))
    go_ret2
    exact ⟨l, rfl, hwl1, g, M3, sf3, sn3, (by first | exact hD3.step stp | (rw [if_pos HLT.out]; exact hD3.step stp)), hO3.step stp, ⟨hG3.turn.then stp, hG3.more, hG3.less, hG3.own⟩, HGW.out⟩
  · have hd : decide ((N : Int) < (N1 : Int)) = false := decide_eq_false (by omega)
    go_wp2_with (go_at_call 46; refine (HQ2.out _ stp).mono ?_; rintro e w3 ⟨rfl, hw3⟩; subst w3)
    go_ret2
    exact ⟨l, rfl, hwl1, g, M2, sf2, sn2, (by first | exact HD2.out.step stp | (rw [if_neg hlt]; exact HD2.out.step stp)), HO2.out.step stp, ⟨HG2.out.turn.then stp, HG2.out.more, HG2.out.less, HG2.out.own⟩, HGW.out⟩
end Go.Proofs.YthebdlkmoailaaaGreatDoor
