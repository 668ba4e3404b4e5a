/-
  Walk: the record of bytes (rec.Read).
-/
import Derived.Test.YthflkfgiclcdiaaZP16
import Derived.Test.YthflkfgiclcdiaaZP13
import Derived.Test.YthflkfgiclcdiaaZB13
namespace Go.Proofs.Ythflkfgiclcdiaa
open Go.RowKit Go.Gr
set_option linter.unusedSimpArgs false
set_option linter.unusedVariables false
/-- What Read answers. -/
def RdRet (w : World) (xs : List UInt8) (y : Ending) (w' : World) : Prop :=
  ∃ (kind : Int) (x : DTxn) (vw : Value) (ra : Option Addr) (rn rc : Nat) (cm : Bool) (sa : Option Addr) (sn sc : Nat) (ya : Option Addr) (yn yc id : Nat) (nm : ByteArray) (e : Int),
    y = .returned (.tuple #[.agg (recC kind x vw (.slice ra rn rc) cm (.slice sa sn sc) (.slice ya yn yc) id nm), .int .i64 e]) ∧ Step w w' ∧
    (readW xs = none → e ≠ 0 ∨ kind ≠ 4) ∧ (∀ ws, readW xs = some ws → e = 0 ∧ kind = 4) ∧ ∃ ws, (readW xs).getD ws = ws ∧ (Ty.slice tWrite).rep w' (· < w.heap.size) [vw] ws
abbrev recZ : Array Value := recC 0 ⟨0, 0, 0⟩ (.slice none 0 0) (.slice none 0 0) false (.slice none 0 0) (.slice none 0 0) 0 ⟨#[]⟩
/-- Where a record of one shard stands behind its letters. -/
def stOne (ps : List (List UInt8)) : Nat → List (List UInt8) × Int × List DWrite
  | 0 => (ps, 0, [])
  | 1 => ((someF 3 ps 0).2.1, (someF 3 ps 0).2.2, [])
  | 2 => ((rdW (someF 3 ps 0).2.1 (someF 3 ps 0).2.2).2.1, (rdW (someF 3 ps 0).2.1 (someF 3 ps 0).2.2).2.2, (rdW (someF 3 ps 0).2.1 (someF 3 ps 0).2.2).1.map wrOf)
  | _ => ((nextF (rdW (someF 3 ps 0).2.1 (someF 3 ps 0).2.2).2.1 (rdW (someF 3 ps 0).2.1 (someF 3 ps 0).2.2).2.2).2.1, (nextF (rdW (someF 3 ps 0).2.1 (someF 3 ps 0).2.2).2.1 (rdW (someF 3 ps 0).2.1 (someF 3 ps 0).2.2).2.2).2.2, (rdW (someF 3 ps 0).2.1 (someF 3 ps 0).2.2).1.map wrOf)
theorem stOne_step {ps0 : List (List UInt8)} {j : Nat} {ps ps' : List (List UInt8)} {e e' : Int} {ws ws' : List DWrite} (hj : j < (fieldsL 4).length) (h : (ps, e, ws) = stOne ps0 j) (hl : LetRel (((fieldsL 4)[j]).toNat : Int) ps e ws ps' e' ws') : (ps', e', ws') = stOne ps0 (j + 1) := by
  have h3 : (fieldsL 4).length = 3 := rfl
  have : j = 0 ∨ j = 1 ∨ j = 2 := by omega
  rcases this with rfl | rfl | rfl
  · obtain ⟨rfl, rfl, rfl⟩ : ps = ps0 ∧ e = 0 ∧ ws = [] := by simpa [stOne] using h
    obtain ⟨rfl, rfl, rfl⟩ := hl.1 rfl
    rfl
  · simp only [stOne, Prod.mk.injEq] at h
    obtain ⟨rfl, rfl, rfl⟩ := h
    obtain ⟨rfl, rfl, rfl⟩ := hl.2.1 rfl
    rfl
  · simp only [stOne, Prod.mk.injEq] at h
    obtain ⟨rfl, rfl, rfl⟩ := h
    obtain ⟨rfl, rfl, rfl⟩ := hl.2.2 rfl
    rfl
/-- What is read at the end of a record of one shard. -/
theorem readW_end {xs : List UInt8} {ps : List (List UInt8)} {e : Int} {ws : List DWrite} {ps0 : List (List UInt8)} (h1 : nextF (splitF xs).1 (splitF xs).2 = ([4], ps0, 0)) (h : (ps, e, ws) = stOne ps0 3) : readW xs = if e = 0 ∧ ps = [] then some ws else none := by
  simp only [stOne, Prod.mk.injEq] at h
  obtain ⟨rfl, rfl, rfl⟩ := h
  unfold readW
  rw [h1]
  simp only
  rw [if_pos (by simp)]
theorem readW_none {xs : List UInt8} {h : List UInt8} {ps0 : List (List UInt8)} {e : Int} (h1 : nextF (splitF xs).1 (splitF xs).2 = (h, ps0, e)) (hn : ¬ (e = 0 ∧ h = [4])) : readW xs = none := by
  unfold readW
  rw [h1]
  simp only
  rw [if_neg hn]
theorem nil_repW {w : World} {M : Nat → Prop} : (Ty.slice tWrite).rep w M [.slice none 0 0] [] := ⟨none, 0, rfl, Nat.le_refl _, by simp [maxLen], by simp [lim_eq], fun h => absurd h (by simp)⟩
/-- All cells of a block, one behind the other. -/
def setAll (w : World) (g : Nat) : Nat → List Value → World
  | _, [] => w
  | i, u :: r => setAll (w.setCell ⟨g, i, none⟩ u) g (i + 1) r
theorem setAll_step {w0 : World} {g : Nat} (hg : w0.heap.size ≤ g) : ∀ {us : List Value} {w : World} {i : Nat}, Step w0 w → Step w0 (setAll w g i us)
  | [], _, _, h => h
  | u :: r, w, i, h => setAll_step hg (us := r) (Step.setCell h (p := ⟨g, i, none⟩) hg u)
theorem setAll_other {g b : Nat} (hb : b ≠ g) : ∀ {us : List Value} {w : World} {i : Nat}, (setAll w g i us).heap[b]? = w.heap[b]?
  | [], _, _ => rfl
  | u :: r, w, i => (setAll_other hb (us := r)).trans (heap_setCell_other w ⟨g, i, none⟩ b u hb)
theorem setAll_cells {g : Nat} {t : TypeId} : ∀ {us : List Value} {w : World} {pre post : List Value}, CellsAt w g (pre ++ post).toArray t → post.length = us.length → CellsAt (setAll w g pre.length us) g (pre ++ us).toArray t
  | [], w, pre, post, h, hl => by
    obtain rfl : post = [] := List.length_eq_zero_iff.1 (by simpa using hl)
    exact h
  | u :: r, w, pre, post, h, hl => by
    obtain ⟨p0, post', rfl⟩ : ∃ a r, post = a :: r := List.exists_cons_of_length_pos (by simp at hl; omega)
    have h1 := CellsAt.set h pre.length u
    have h2 : (pre ++ p0 :: post').toArray.setIfInBounds pre.length u = ((pre ++ [u]) ++ post').toArray := by
      simp
    rw [h2] at h1
    have h3 := setAll_cells (us := r) (pre := pre ++ [u]) (post := post') h1 (by simpa using hl)
    rw [List.length_append] at h3
    simpa [setAll] using h3
theorem setAll_at {g : Nat} {t : TypeId} {us : List Value} {w : World} {cs : Array Value} (h : CellsAt w g cs t) (hl : cs.size = us.length) : CellsAt (setAll w g 0 us) g us.toArray t :=
  setAll_cells (pre := []) (post := cs.toList) (by simpa using h) (by simpa using hl)
theorem put11 (w : World) (g : Nat) (u0 u1 u2 u3 u4 u5 u6 u7 u8 u9 u10 : Value) : (((((((((((w.setCell ⟨g, 0, none⟩ u0).setCell ⟨g, 1, none⟩ u1).setCell ⟨g, 2, none⟩ u2).setCell ⟨g, 3, none⟩ u3).setCell ⟨g, 4, none⟩ u4).setCell ⟨g, 5, none⟩ u5).setCell ⟨g, 6, none⟩ u6).setCell ⟨g, 7, none⟩ u7).setCell ⟨g, 8, none⟩ u8).setCell ⟨g, 9, none⟩ u9).setCell ⟨g, 10, none⟩ u10) = setAll w g 0 [u0, u1, u2, u3, u4, u5, u6, u7, u8, u9, u10] := rfl
theorem keep11 {w : World} {g b o : Nat} {z : Option Value} (hb : b ≠ g) (hz : w.cell? ⟨b, o, none⟩ = z) (u0 u1 u2 u3 u4 u5 u6 u7 u8 u9 u10 : Value) : ((((((((((((w.setCell ⟨g, 0, none⟩ u0).setCell ⟨g, 1, none⟩ u1).setCell ⟨g, 2, none⟩ u2).setCell ⟨g, 3, none⟩ u3).setCell ⟨g, 4, none⟩ u4).setCell ⟨g, 5, none⟩ u5).setCell ⟨g, 6, none⟩ u6).setCell ⟨g, 7, none⟩ u7).setCell ⟨g, 8, none⟩ u8).setCell ⟨g, 9, none⟩ u9).setCell ⟨g, 10, none⟩ u10).drew).cell? ⟨b, o, none⟩ = z := by
  have hd : ∀ W : World, W.drew.cell? ⟨b, o, none⟩ = W.cell? ⟨b, o, none⟩ := fun _ => rfl
  rw [hd]
  rw [put11 w g u0 u1 u2 u3 u4 u5 u6 u7 u8 u9 u10]
  exact (cell_eq (setAll_other hb)).trans hz
theorem fin11 {w0 w : World} {g : Nat} {cs : Array Value} {t : TypeId} (h : CellsAt w g cs t) (hl : cs.size = 11) (hs : Step w0 w) (hg : w0.heap.size ≤ g) (u0 u1 u2 u3 u4 u5 u6 u7 u8 u9 u10 : Value) : CellsAt (((((((((((w.setCell ⟨g, 0, none⟩ u0).setCell ⟨g, 1, none⟩ u1).setCell ⟨g, 2, none⟩ u2).setCell ⟨g, 3, none⟩ u3).setCell ⟨g, 4, none⟩ u4).setCell ⟨g, 5, none⟩ u5).setCell ⟨g, 6, none⟩ u6).setCell ⟨g, 7, none⟩ u7).setCell ⟨g, 8, none⟩ u8).setCell ⟨g, 9, none⟩ u9).setCell ⟨g, 10, none⟩ u10) g #[u0, u1, u2, u3, u4, u5, u6, u7, u8, u9, u10] t ∧ Step w0 (((((((((((w.setCell ⟨g, 0, none⟩ u0).setCell ⟨g, 1, none⟩ u1).setCell ⟨g, 2, none⟩ u2).setCell ⟨g, 3, none⟩ u3).setCell ⟨g, 4, none⟩ u4).setCell ⟨g, 5, none⟩ u5).setCell ⟨g, 6, none⟩ u6).setCell ⟨g, 7, none⟩ u7).setCell ⟨g, 8, none⟩ u8).setCell ⟨g, 9, none⟩ u9).setCell ⟨g, 10, none⟩ u10) := by
  rw [put11 w g u0 u1 u2 u3 u4 u5 u6 u7 u8 u9 u10]
  exact ⟨setAll_at (us := [u0, u1, u2, u3, u4, u5, u6, u7, u8, u9, u10]) h hl, setAll_step hg hs⟩
theorem fin11o {w : World} {g b : Nat} (hb : b ≠ g) (u0 u1 u2 u3 u4 u5 u6 u7 u8 u9 u10 : Value) : (((((((((((w.setCell ⟨g, 0, none⟩ u0).setCell ⟨g, 1, none⟩ u1).setCell ⟨g, 2, none⟩ u2).setCell ⟨g, 3, none⟩ u3).setCell ⟨g, 4, none⟩ u4).setCell ⟨g, 5, none⟩ u5).setCell ⟨g, 6, none⟩ u6).setCell ⟨g, 7, none⟩ u7).setCell ⟨g, 8, none⟩ u8).setCell ⟨g, 9, none⟩ u9).setCell ⟨g, 10, none⟩ u10).heap[b]? = w.heap[b]? := by
  rw [put11 w g u0 u1 u2 u3 u4 u5 u6 u7 u8 u9 u10]
  exact setAll_other hb
theorem fin11d {w0 w : World} {g : Nat} {cs : Array Value} {t : TypeId} (h : CellsAt w g cs t) (hl : cs.size = 11) (hs : Step w0 w) (hg : w0.heap.size ≤ g) (u0 u1 u2 u3 u4 u5 u6 u7 u8 u9 u10 : Value) : CellsAt ((((((((((((w.setCell ⟨g, 0, none⟩ u0).setCell ⟨g, 1, none⟩ u1).setCell ⟨g, 2, none⟩ u2).setCell ⟨g, 3, none⟩ u3).setCell ⟨g, 4, none⟩ u4).setCell ⟨g, 5, none⟩ u5).setCell ⟨g, 6, none⟩ u6).setCell ⟨g, 7, none⟩ u7).setCell ⟨g, 8, none⟩ u8).setCell ⟨g, 9, none⟩ u9).setCell ⟨g, 10, none⟩ u10).drew) g #[u0, u1, u2, u3, u4, u5, u6, u7, u8, u9, u10] t ∧ Step w0 ((((((((((((w.setCell ⟨g, 0, none⟩ u0).setCell ⟨g, 1, none⟩ u1).setCell ⟨g, 2, none⟩ u2).setCell ⟨g, 3, none⟩ u3).setCell ⟨g, 4, none⟩ u4).setCell ⟨g, 5, none⟩ u5).setCell ⟨g, 6, none⟩ u6).setCell ⟨g, 7, none⟩ u7).setCell ⟨g, 8, none⟩ u8).setCell ⟨g, 9, none⟩ u9).setCell ⟨g, 10, none⟩ u10).drew) := by
  obtain ⟨h1, h2⟩ := fin11 h hl hs hg u0 u1 u2 u3 u4 u5 u6 u7 u8 u9 u10
  exact ⟨CellsAt.step h1 ((Step.refl _).drew), h2.drew⟩
theorem wrap64_small {c : UInt8} : wrap64 (c.toNat : Int) = (c.toNat : Int) := by
  have := c.toNat_lt
  unfold wrap64
  omega
theorem RS.other {W W' : World} {M : Nat → Prop} {B rb ob k : Nat} {kind : Int} {ps : List (List UInt8)} {e : Int} {ws : List DWrite} {fw fr fs : Bool} (h : RS W M B rb ob kind ps e ws fw fr fs) (K : RK M B rb ob) (hM : M k) (hk : k ≠ rb ∧ k ≠ ob) (ho : ∀ b, b ≠ k → W'.heap[b]? = W.heap[b]?) : RS W' M B rb ob kind ps e ws fw fr fs := by
  obtain ⟨v, x, vw, ra, rn, rc, cm, sa, sn, sc, ya, yn, yc, id, nm, hR, hP, hC, hA, h1, h2, h3⟩ := h
  have hkB := K.mb _ hM
  refine ⟨v, x, vw, ra, rn, rc, cm, sa, sn, sc, ya, yn, yc, id, nm, hR.kept (ho rb hk.1.symm), Ty.keep _ hP (fun b _ hm => ⟨ho b (fun e => hm (.inl (e ▸ hM))), hm⟩), hC.kept (ho ob hk.2.symm), Own.kept hA (fun b _ hb => ho b (fun e => hb (by rw [e]; exact hkB))) (fun g hg => ho g (fun e => by have := (hA.lt hg).1; omega)), h1, h2, h3⟩
theorem bytes_ne {l : List UInt8} (h : l ≠ []) : ((⟨l.toArray⟩ : ByteArray) == ⟨#[]⟩) = false := by
  have : ((⟨l.toArray⟩ : ByteArray) == ⟨([] : List UInt8).toArray⟩) = decide (l = []) := beq_strs l []
  rw [decide_eq_false h] at this
  exact this
set_option maxRecDepth 100000 in
set_option maxHeartbeats 8000000 in
theorem recRead_ {w : World} {M : Nat → Prop} {v : Value} {xs : List UInt8} (h : Ty.bytes.rep w M [v] xs) (hl : xs.length ≤ 4294967296) :
    Calls Try.prog 82 #[v] w (RdRet w xs) := by
  have H := Lib.hid h
  have hsm := splitF_small xs
  have hPB : PB (splitF xs).1 := fun p hp => Nat.le_trans (hsm.2 p hp) hl
  have hnx := hPB.next (splitF xs).2
  have HSp := Lib.hid (fun (W : World) (M : Nat → Prop) (v : Value) (h : Ty.bytes.rep W M [v] xs) => pSplit_ h)
  clear h hsm hPB
  obtain ⟨SP, hSP⟩ : ∃ SP, SP = splitF xs := ⟨_, rfl⟩
  rw [← hSP] at hnx HSp
  obtain ⟨NX, hNX⟩ : ∃ NX, NX = nextF SP.1 SP.2 := ⟨_, rfl⟩
  rw [← hNX] at hnx
  have HNX : Hid (nextF (splitF xs).1 (splitF xs).2 = NX) := Lib.hid (by rw [hNX, hSP])
  have HN2 := Lib.hid (hNX.symm)
  clear hNX hSP
  obtain ⟨sp, se⟩ := SP
  obtain ⟨hd, ps0, e1⟩ := NX
  simp only at hnx HSp HN2
  have HPB := Lib.hid hnx.1
  clear hnx
  go_enter Try.func82, Try.ntmps82
  go_upto_region 3 with (go_at_call 80; refine (HSp.out _ _ _ (Ty.step _ H.out (by (repeat (first | exact Step.refl _ | refine Step.alloc ?_ _ | refine Step.drew ?_ | refine Step.drewN ?_ _ | refine Step.setCell ?_ (by first | exact Nat.le_refl _ | assumption | omega | (simp; done) | (simp; omega)) _ | assumption | refine Step.trans ?_ (by assumption : Step _ _)))))).mono ?_; rintro y w2 ⟨v2, rfl, hR2, hS2⟩; obtain ⟨va, vk, rfl, _, _, hsl⟩ := Ty.slice_val hR2; have s2 : ∀ j, w2.cell? ⟨w.heap.size + 1, j, none⟩ = _ := fun j => hS2.cell (by simp) j; have z2 : ∀ j, w2.frozen? ⟨w.heap.size + 1, j, none⟩ = _ := fun j => hS2.frozen (by simp) j; have HR2 := Lib.hid hR2; clear hR2)
  have hz2 := hS2.size
  simp only [World.size_alloc] at hz2
  have hz1 : w.heap.size + 1 + 1 ≤ w2.heap.size := by omega
  obtain ⟨rz, hrz'⟩ : ∃ r, w.heap.size = r := ⟨_, rfl⟩
  have hrz : w.heap.size ≤ rz := by omega
  refine wp_code (fun wx => RcAt wx (w.heap.size + 1) (.slice va sp.length vk) se ∧ (Ty.slice Ty.bytes).rep wx (· < w.heap.size + 1 + 1) [.slice va sp.length vk] sp ∧ CellsAt wx w.heap.size recZ 154 ∧ Step w wx ∧ w.heap.size + 1 + 1 ≤ wx.heap.size) ?_ ?_
  · have b0 : RcAt w2 (w.heap.size + 1) (.slice none 0 0) 0 := CellsAt.step (CellsAt.new (by simp)) hS2
    have b1 : CellsAt w2 w.heap.size recZ 154 := CellsAt.step (CellsAt.step (CellsAt.new rfl) ((Step.refl _).alloc _)) hS2
    refine ⟨CellsAt.set (CellsAt.set b0 0 _) 1 _, Ty.kept _ (Ty.kept _ (Ty.less _ HR2.out (fun b _ hb => by simp; exact hb)) (Kept.setCell _ _ _ (by simp))) (Kept.setCell _ _ _ (by simp)), CellsAt.other (CellsAt.other b1 (by simp) _) (by simp) _, ?_, by simp; omega⟩
    exact Step.setCell (Step.setCell (((Step.refl w).alloc _).alloc _ |>.trans hS2) (p := ⟨_, _, _⟩) (by simp) _) (p := ⟨_, _, _⟩) (by simp) _
  clear s2 z2 HR2 hS2 hz2 hz1
  obtain ⟨rb, hrb⟩ : ∃ r, w.heap.size + 1 = r := ⟨_, rfl⟩
  have hrb1 : w.heap.size ≤ rb := by omega
  have hrbz : rb ≠ rz := by omega
  rw [hrb, hrz']
  rintro wx ⟨hCx, hRx, hZx, hSx, hzx⟩
  have HNXT := Lib.hid (rcNext_ (M := (· < rb + 1)) hCx hRx (by omega))
  rw [HN2.out] at HNXT
  simp only at HNXT
  go_upto_region 4 with (go_at_call 109; refine HNXT.out.mono ?_; rintro y w3 ⟨p', v', rfl, hp, hC3, hv, hT3⟩; have hz3 := hT3.size; have hZ3 := hZx.kept (hT3.block rz (by have := hZx.lt; omega) (fun e => hrbz e.symm)); have hS3 := Turn.step hSx hT3 (fun b hb => by subst hb; exact hrb1); have HC3 := Lib.hid hC3; have HV := Lib.hid hv; have HH := Lib.hid hp; have HZ := Lib.hid hZ3; have HS3 := Lib.hid hS3; clear hC3 hv hp hZ3 hS3 hT3)
  clear hCx hRx hZx hSx HNXT HSp
  obtain ⟨ha, hk, hp', _⟩ := Ty.slice_val HH.out
  subst hp'
  have r1 : w3.cell? ⟨rb, 1, none⟩ = some (.int .i64 e1) := HC3.out.cell 1
  have q1 : w3.frozen? ⟨rb, 1, none⟩ = false := HC3.out.frozen 1
  by_cases he1 : e1 = 0
  · subst he1
    by_cases hok : hd.length = 1 ∧ fieldsL (hd[0]?.getD 0).toNat ≠ []
    · obtain ⟨hl1, hfn⟩ := hok
      obtain ⟨c, rfl⟩ := List.length_eq_one_iff.1 hl1
      simp only [List.getElem?_cons_zero, Option.getD_some] at hfn
      have hfn' : fieldsL c.toNat ≠ [] := hfn
      have HOK := Lib.hid (fieldsL_ok c.toNat)
      have HF := Lib.hid (fun W => recFields_ W c.toNat)
      obtain ⟨sl, hsl'⟩ : ∃ s, fieldsL c.toNat = s := ⟨_, rfl⟩
      rw [hsl'] at HF HOK hfn'
      have HSL := Lib.hid hsl'
      have hse : ((⟨sl.toArray⟩ : ByteArray) == ⟨#[]⟩) = false := bytes_ne hfn'
      have hse2 : sl.isEmpty = false := by cases sl with | nil => exact absurd rfl hfn' | cons _ _ => rfl
      have hwc : wrap64 (c.toNat : Int) = (c.toNat : Int) := wrap64_small (c := c)
      have hhl : [c].length = 1 := rfl
      obtain ⟨hb, ho, hu, hav, hbl, _, hur, hcu⟩ := Ty.slice_at1 rfl HH.out (k := 0) (by simp)
      obtain rfl : hu = bv c := by simpa [Ty.byte] using hur
      subst hav
      have hcu2 : w3.cell? ⟨hb, ho, none⟩ = some (bv c) := by simpa using hcu
      clear hfn hl1 hur hcu hsl' hfn'
      go_upto_region 9 with (go_at_call 110; rw [hwc]; refine (HF.out _).mono ?_; rintro y w4 ⟨rfl, rfl⟩)
      have hz4 : rb + 1 ≤ w4.heap.size := by omega
      have hob1 := HC3.out.lt
      go_wp2_with (go_at_call 110; refine (HF.out _).mono ?_; rintro y w5 ⟨rfl, rfl⟩)
      obtain ⟨ob, hob⟩ : ∃ o, w4.heap.size = o := ⟨_, rfl⟩
      refine wp_code (fun wl => wl.heap[ob + 1]? = some (.stringIter ⟨sl.toArray⟩ 0) ∧ RS wl (fun b => b < rb + 1 ∨ b = ob ∨ b = ob + 1) (ob + 2) rb ob (c.toNat : Int) ps0 0 [] true true true ∧ CellsAt wl rz recZ 154 ∧ Step w wl ∧ wl.heap.size = ob + 2) ?_ ?_
      · subst hob
        have st : Step w4 ((w4.alloc (.cells (recC (c.toNat : Int) ⟨0, 0, 0⟩ (.slice none 0 0) (.slice none 0 0) false (.slice none 0 0) (.slice none 0 0) 0 ⟨#[]⟩) 154)).alloc (.stringIter ⟨sl.toArray⟩ 0)) := by (repeat (first | exact Step.refl _ | refine Step.alloc ?_ _ | refine Step.drew ?_ | refine Step.drewN ?_ _ | refine Step.setCell ?_ (by first | exact Nat.le_refl _ | assumption | omega | (simp; done) | (simp; omega)) _ | assumption | refine Step.trans ?_ (by assumption : Step _ _)))
        refine ⟨heap_alloc_at (by simp), ?_, CellsAt.step HZ.out st, HS3.out.trans st, ?_⟩
        rotate_left 1
        · show ((w4.alloc _).alloc _).heap.size = _
          rw [World.size_alloc, World.size_alloc]
        refine ⟨v', ⟨0, 0, 0⟩, .slice none 0 0, none, 0, 0, false, none, 0, 0, none, 0, 0, 0, ⟨#[]⟩, CellsAt.step HC3.out st, ?_, CellsAt.step (CellsAt.new rfl) ((Step.refl _).alloc _), Own.nil, fun _ => rfl, fun _ => rfl, fun _ => rfl⟩
        refine Ty.keep _ HV.out (fun b h1 h2 => ⟨st.heap h1, fun h => ?_⟩)
        rcases h with (h | h | h) | h
        · exact h2 h
        · omega
        · omega
        · simp [Value.ownBlock] at h
      rintro wl ⟨hit, hRS, hZl, hSl, hzl⟩
      rw [hob] at hz4 ⊢
      have HRS := Lib.hid hRS
      have HZl := Lib.hid hZl
      have HSl := Lib.hid hSl
      have HIT := Lib.hid hit
      have hrb2 : rb < ob := by omega
      have hrz2 : rz < ob := by omega
      have HK : Hid (RK (fun b => b < rb + 1 ∨ b = ob ∨ b = ob + 1) (ob + 2) rb ob) := Lib.hid ⟨.inl (by omega), .inr (.inl rfl), fun b hb => by omega, by omega⟩
      have HFR : Hid ((freeOf sl 0 87 = true → true = true) ∧ (freeOf sl 0 82 = true → true = true) ∧ (freeOf sl 0 83 = true → true = true)) := Lib.hid ⟨fun _ => rfl, fun _ => rfl, fun _ => rfl⟩
      have hSls := hSl.size
      clear hRS hZl hSl hit HC3 HV HH HZ HS3 r1 q1 hob1 hcu2 hbl hse hse2 HF
      go_loopw [8] (fun _ w' => ∃ (j : Nat) (ps : List (List UInt8)) (e : Int) (ws : List DWrite) (fw fr fs : Bool), j ≤ sl.length ∧ Hid (w'.heap[ob + 1]? = some (.stringIter ⟨sl.toArray⟩ j)) ∧ Hid (RS w' (fun b => b < rb + 1 ∨ b = ob ∨ b = ob + 1) (ob + 2) rb ob (c.toNat : Int) ps e ws fw fr fs) ∧ Hid (PB ps) ∧
        Hid ((freeOf sl j 87 = true → fw = true) ∧ (freeOf sl j 82 = true → fr = true) ∧ (freeOf sl j 83 = true → fs = true)) ∧ Hid (c = 4 → (ps, e, ws) = stOne ps0 j) ∧ Hid (Turn (fun b => b = rb ∨ ob ≤ b) wl w')) (fun _ w' => sl.length - w'.iterPos (ob + 1))
      case atStart => exact ⟨0, ps0, 0, [], true, true, true, Nat.zero_le _, HIT, HRS, HPB, HFR, Lib.hid (fun _ => rfl), Lib.hid (Turn.refl _ _)⟩
      case round =>
        obtain ⟨j, ps, e, ws, fw, fr, fs, hj, hit, hrs, hpb, hfr, hst, hT⟩ := hrel
        have hp0 : wr.iterPos (ob + 1) = j := by simp [World.iterPos, hit.out]
        have HP0 := Lib.hid hp0
        clear hp0
        by_cases hlt : j < sl.length
        · obtain ⟨ok1, ok2⟩ := okL_at HOK.out hlt
          have h128 : (sl[j]).toNat < 128 := by rcases ok2 with h | h | h | h | h | h | h | h <;> rw [h] <;> decide
          have hnx : ∀ ty, (Instr.next (.pointer (some ⟨ob + 1, 0, none⟩)) true ty).run Try.prog wr = _ := fun ty => next_letter wr (ob + 1) j sl ty hit.out hlt h128
          have hit2 := Lib.iterAt_heap wr (ob + 1) ⟨sl.toArray⟩ j (j + 1) hit.out
          have hoth : ∀ b, b ≠ ob + 1 → (wr.iterAt (ob + 1) ⟨sl.toArray⟩ (j + 1)).heap[b]? = wr.heap[b]? := fun b hb => Lib.iterAt_other wr (ob + 1) b ⟨sl.toArray⟩ (j + 1) hb
          have hT2 := hT.out.iterAt (k := ob + 1) (by omega) ⟨sl.toArray⟩ (j + 1)
          have hsz2 : (wr.iterAt (ob + 1) ⟨sl.toArray⟩ (j + 1)).heap.size = wr.heap.size := Lib.iterAt_size ..
          have hrs2 := hrs.out.other (k := ob + 1) HK.out (.inr (.inr rfl)) (by omega) hoth
          obtain ⟨W1, hW1⟩ : ∃ W1, W1 = wr.iterAt (ob + 1) ⟨sl.toArray⟩ (j + 1) := ⟨_, rfl⟩
          rw [← hW1] at hnx hit2 hT2 hrs2 hsz2
          have hzT := hT.out.size
          have hlet : ((sl[j]).toNat : Int) = 84 ∨ ((sl[j]).toNat : Int) = 87 ∨ ((sl[j]).toNat : Int) = 82 ∨ ((sl[j]).toNat : Int) = 67 ∨ ((sl[j]).toNat : Int) = 83 ∨ ((sl[j]).toNat : Int) = 65 ∨ ((sl[j]).toNat : Int) = 73 ∨ ((sl[j]).toNat : Int) = 78 := by
            rcases ok2 with h | h | h | h | h | h | h | h <;> rw [h] <;> decide
          have hback : ∀ (f : UInt8), ((sl[j]).toNat : Int) = (f.toNat : Int) → sl[j] = f := fun f h => UInt8.toNat_inj.1 (by omega)
          have hcall := rcField_any hlet hrs2 HK.out (by omega) hpb.out (fun h => hfr.out.1 (hback 87 h ▸ ok1)) (fun h => hfr.out.2.1 (hback 82 h ▸ ok1)) (fun h => hfr.out.2.2 (hback 83 h ▸ ok1))
          have HCALL := Lib.hid hcall
          have HIT2 := Lib.hid hit2
          have HT2 := Lib.hid hT2
          have HBK := Lib.hid hback
          have hstep : ∀ ps' e' ws', LetRel ((sl[j]).toNat : Int) ps e ws ps' e' ws' → c = 4 → (ps', e', ws') = stOne ps0 (j + 1) := fun ps' e' ws' hl hc => by
            have h4 : sl = fieldsL 4 := by rw [← HSL.out, hc]; rfl
            have hlt' : j < (fieldsL 4).length := by rw [← h4]; exact hlt
            have hg : sl[j] = (fieldsL 4)[j] := by simp only [h4]
            rw [hg] at hl
            exact stOne_step hlt' (hst.out hc) hl
          have HSTEP := Lib.hid hstep
          have HFS : Hid (∀ f, freeOf sl (j + 1) f = true → freeOf sl j f = true ∧ sl[j] ≠ f) := Lib.hid (fun f h => freeOf_succ hlt h)
          clear hcall hit2 hT2 hback hstep hoth hrs2 hlet ok1 ok2 h128 hW1
          generalize sl[j] = f at *
          go_wp2_with (go_at_call 111; refine HCALL.out.mono ?_; rintro y w5 ⟨rfl, ⟨ps', e', ws', fw', fr', fs', hr5, hp5, hl5, g1, g2, g3⟩, ht5⟩; have HR5 := Lib.hid hr5; have HP5 := Lib.hid hp5; have HL5 := Lib.hid hl5; have HT5 := Lib.hid ht5; have G1 := Lib.hid g1; have G2 := Lib.hid g2; have G3 := Lib.hid g3; clear hr5 hp5 hl5 ht5 g1 g2 g3)
          have hit5 : Hid (w5.heap[ob + 1]? = some (.stringIter ⟨sl.toArray⟩ (j + 1))) := Lib.hid ((HT5.out.block (ob + 1) (by omega) (by omega)).trans HIT2.out)
          have hne : ∀ g : UInt8, f ≠ g → (f.toNat : Int) ≠ (g.toNat : Int) := fun g h e => h (UInt8.toNat_inj.1 (by omega))
          have HNE := Lib.hid hne
          clear hne
          go_roundw
          case rel => exact ⟨j + 1, ps', e', ws', fw', fr', fs', by omega, hit5, HR5, HP5, Lib.hid ⟨fun h => by rw [G1.out (HNE.out 87 (HFS.out 87 h).2)]; exact hfr.out.1 (HFS.out 87 h).1, fun h => by rw [G2.out (HNE.out 82 (HFS.out 82 h).2)]; exact hfr.out.2.1 (HFS.out 82 h).1, fun h => by rw [G3.out (HNE.out 83 (HFS.out 83 h).2)]; exact hfr.out.2.2 (HFS.out 83 h).1⟩, Lib.hid (HSTEP.out ps' e' ws' HL5.out), Lib.hid (HT2.out.trans (HT5.out.mono (fun b _ hb => by omega)))⟩
          case measure => (have h1 : w5.iterPos (ob + 1) = j + 1 := by simp [World.iterPos, hit5.out]); rw [h1, HP0.out]; omega
        · obtain rfl : j = sl.length := by omega
          have hnx : ∀ ty, (Instr.next (.pointer (some ⟨ob + 1, 0, none⟩)) true ty).run Try.prog wr = _ := fun ty => next_letter_end wr (ob + 1) sl ty hit.out
          have hSr : Step w wr := Turn.step HSl.out hT.out (fun b hb => by omega)
          have hZr := HZl.out.kept (hT.out.block rz (by omega) (by omega))
          have hrn : (e = 0 → ps ≠ []) → readW xs = none := fun h => by
            by_cases hc : c = 4
            · subst hc
              have hl4 : sl.length = 3 := by rw [← HSL.out]; rfl
              have h3 := hst.out rfl
              rw [hl4] at h3
              rw [readW_end HNX.out h3, if_neg (fun h' => h h'.1 h'.2)]
            · exact readW_none HNX.out (fun h' => hc (by simpa using h'.2))
          have hyes : e = 0 → ps = [] → c = 4 → readW xs = some ws := fun h1 h2 hc => by
            subst hc
            have hl4 : sl.length = 3 := by rw [← HSL.out]; rfl
            have h3 := hst.out rfl
            rw [hl4] at h3
            rw [readW_end HNX.out h3, if_pos ⟨h1, h2⟩]
          have hno4 : c ≠ 4 → readW xs = none := fun hc => readW_none HNX.out (fun h' => hc (by simpa using h'.2))
          obtain ⟨vp, x, vw, ra, rn, rc, cm, sa, sn, sc, ya, yn, yc, id, nm, hR, hP, hC, hA, _, _, _⟩ := hrs.out
          obtain ⟨wa, wn, wcc, rfl, _⟩ := hA.valN
          obtain ⟨pa, pc, rfl, _⟩ := Ty.slice_val hP
          have r0 : wr.cell? ⟨rb, 0, none⟩ = some (.slice pa ps.length pc) := hR.cell 0
          have r1 : wr.cell? ⟨rb, 1, none⟩ = some (.int .i64 e) := hR.cell 1
          have q1 : wr.frozen? ⟨rb, 1, none⟩ = false := hR.frozen 1
          have HZ := Lib.hid hZr
          have HS3 := Lib.hid hSr
          have HC3 := Lib.hid hR
          have HCO := Lib.hid hC
          have HA := Lib.hid hA
          have HRNF := Lib.hid hrn
          have HYES := Lib.hid hyes
          have HNO4 := Lib.hid hno4
          clear hSr hZr hrn hyes hno4 hR hP hC hA hrs hit hst hfr hpb hT HP0
          by_cases he : e = 0
          · subst he
            by_cases hps : ps = []
            · subst hps
              simp only [List.length_nil] at r0
              have o0 : wr.cell? ⟨ob, 0, none⟩ = some (.int .i64 (c.toNat : Int)) := HCO.out.cell 0; have o1 : wr.cell? ⟨ob, 1, none⟩ = some (.int .u64 (x.boot : Int)) := HCO.out.cell 1; have o2 : wr.cell? ⟨ob, 2, none⟩ = some (.int .u64 (x.session : Int)) := HCO.out.cell 2; have o3 : wr.cell? ⟨ob, 3, none⟩ = some (.int .u64 (x.seq : Int)) := HCO.out.cell 3; have o4 : wr.cell? ⟨ob, 4, none⟩ = some (.slice wa wn wcc) := HCO.out.cell 4; have o5 : wr.cell? ⟨ob, 5, none⟩ = some (.slice ra rn rc) := HCO.out.cell 5; have o6 : wr.cell? ⟨ob, 6, none⟩ = some (.bool cm) := HCO.out.cell 6; have o7 : wr.cell? ⟨ob, 7, none⟩ = some (.slice sa sn sc) := HCO.out.cell 7; have o8 : wr.cell? ⟨ob, 8, none⟩ = some (.slice ya yn yc) := HCO.out.cell 8; have o9 : wr.cell? ⟨ob, 9, none⟩ = some (.int .u64 (id : Int)) := HCO.out.cell 9; have o10 : wr.cell? ⟨ob, 10, none⟩ = some (.string nm) := HCO.out.cell 10
              have z0 : wr.cell? ⟨rz, 0, none⟩ = some (.int .i64 0) := HZ.out.cell 0; have f0 : wr.frozen? ⟨rz, 0, none⟩ = false := HZ.out.frozen 0; have z1 : wr.cell? ⟨rz, 1, none⟩ = some (.int .u64 0) := HZ.out.cell 1; have f1 : wr.frozen? ⟨rz, 1, none⟩ = false := HZ.out.frozen 1; have z2 : wr.cell? ⟨rz, 2, none⟩ = some (.int .u64 0) := HZ.out.cell 2; have f2 : wr.frozen? ⟨rz, 2, none⟩ = false := HZ.out.frozen 2; have z3 : wr.cell? ⟨rz, 3, none⟩ = some (.int .u64 0) := HZ.out.cell 3; have f3 : wr.frozen? ⟨rz, 3, none⟩ = false := HZ.out.frozen 3; have z4 : wr.cell? ⟨rz, 4, none⟩ = some (.slice none 0 0) := HZ.out.cell 4; have f4 : wr.frozen? ⟨rz, 4, none⟩ = false := HZ.out.frozen 4; have z5 : wr.cell? ⟨rz, 5, none⟩ = some (.slice none 0 0) := HZ.out.cell 5; have f5 : wr.frozen? ⟨rz, 5, none⟩ = false := HZ.out.frozen 5; have z6 : wr.cell? ⟨rz, 6, none⟩ = some (.bool false) := HZ.out.cell 6; have f6 : wr.frozen? ⟨rz, 6, none⟩ = false := HZ.out.frozen 6; have z7 : wr.cell? ⟨rz, 7, none⟩ = some (.slice none 0 0) := HZ.out.cell 7; have f7 : wr.frozen? ⟨rz, 7, none⟩ = false := HZ.out.frozen 7; have z8 : wr.cell? ⟨rz, 8, none⟩ = some (.slice none 0 0) := HZ.out.cell 8; have f8 : wr.frozen? ⟨rz, 8, none⟩ = false := HZ.out.frozen 8; have z9 : wr.cell? ⟨rz, 9, none⟩ = some (.int .u64 0) := HZ.out.cell 9; have f9 : wr.frozen? ⟨rz, 9, none⟩ = false := HZ.out.frozen 9; have z10 : wr.cell? ⟨rz, 10, none⟩ = some (.string ⟨#[]⟩) := HZ.out.cell 10; have f10 : wr.frozen? ⟨rz, 10, none⟩ = false := HZ.out.frozen 10
              have HYES2 := Lib.hid (HYES.out rfl rfl)
              go_wp2
              refine wp_at (fun W' => CellsAt W' rz (recC (c.toNat : Int) x (.slice wa wn wcc) (.slice ra rn rc) cm (.slice sa sn sc) (.slice ya yn yc) id nm) 154 ∧ Step w W' ∧ ∀ b, b ≠ rz → W'.heap[b]? = wr.heap[b]?) ⟨(fin11 HZ.out rfl HS3.out hrz _ _ _ _ _ _ _ _ _ _ _).1, (fin11 HZ.out rfl HS3.out hrz _ _ _ _ _ _ _ _ _ _ _).2, fun b hb => fin11o hb _ _ _ _ _ _ _ _ _ _ _⟩ ?_
              rintro W' ⟨hC9, hS9, hO9⟩
              refine bodyPost_ret (v := .tuple #[.agg (recC (c.toNat : Int) x (.slice wa wn wcc) (.slice ra rn rc) cm (.slice sa sn sc) (.slice ya yn yc) id nm), .int .i64 0]) (results_row_tmp Try.results82 _ _ rz 154 _ _ rfl hC9 Try.underlying154 rfl (by kernel_rfl)) rfl ?_
              have hrep : (Ty.slice tWrite).rep W' (· < w.heap.size) [.slice wa wn wcc] ws := by
                have h1 := Own.rep' HA.out (fun b hb hm => by have := (HA.out.lt hb).1; omega)
                refine Ty.keep _ h1 (fun b _ hm => ⟨hO9 b (fun e => hm (by omega)), fun h => hm (by omega)⟩)
              refine ⟨_, x, _, ra, rn, rc, cm, sa, sn, sc, ya, yn, yc, id, nm, 0, rfl, hS9, fun h => .inr (fun h4 => ?_), fun ws' h => ?_, ws, ?_, hrep⟩
              · have hc4 : c = 4 := UInt8.toNat_inj.1 (by have : ((4 : UInt8).toNat : Int) = 4 := rfl; omega)
                rw [HYES2.out hc4] at h
                cases h
              · by_cases hc : c = 4
                · subst hc
                  exact ⟨rfl, rfl⟩
                · rw [HNO4.out hc] at h
                  cases h
              · by_cases hc : c = 4
                · rw [HYES2.out hc]
                  rfl
                · rw [HNO4.out hc]
                  rfl
            · have hpl : decide ((0 : Int) < (ps.length : Int)) = true := decide_eq_true (by have := List.length_pos_iff.2 hps; omega)
              have hpl2 : 0 < ps.length := List.length_pos_iff.2 hps
              have hpl3 : (0 < ps.length) = True := eq_true hpl2
              have HE : Hid ((3 : Int) ≠ 0) := Lib.hid (by decide)
              have HRN := Lib.hid (HRNF.out (fun _ => hps))
              clear hps HRNF HYES HNO4 HA HCO
              generalize ps.length = PL at *
              go_upto_region 15 with fail
              refine wp_code (fun w9 => w9.cell? ⟨rb, 1, none⟩ = some (.int .i64 3) ∧ CellsAt w9 rz recZ 154 ∧ Step w w9) ⟨(CellsAt.set HC3.out 1 _ : RcAt _ rb (.slice pa PL pc) 3).cell 1, CellsAt.other HZ.out (p := ⟨rb, 1, none⟩) (fun e => hrbz e.symm) _, Step.setCell HS3.out (p := ⟨rb, 1, none⟩) hrb1 _⟩ ?_
              clear r0 r1 q1 HZ HS3 HC3
              rintro w5 ⟨r1, hZ, hS3⟩
              have HZ := Lib.hid hZ
              have HS3 := Lib.hid hS3
              clear hZ hS3
              have z0 : w5.cell? ⟨rz, 0, none⟩ = some (.int .i64 0) := HZ.out.cell 0; have f0 : w5.frozen? ⟨rz, 0, none⟩ = false := HZ.out.frozen 0; have z1 : w5.cell? ⟨rz, 1, none⟩ = some (.int .u64 0) := HZ.out.cell 1; have f1 : w5.frozen? ⟨rz, 1, none⟩ = false := HZ.out.frozen 1; have z2 : w5.cell? ⟨rz, 2, none⟩ = some (.int .u64 0) := HZ.out.cell 2; have f2 : w5.frozen? ⟨rz, 2, none⟩ = false := HZ.out.frozen 2; have z3 : w5.cell? ⟨rz, 3, none⟩ = some (.int .u64 0) := HZ.out.cell 3; have f3 : w5.frozen? ⟨rz, 3, none⟩ = false := HZ.out.frozen 3; have z4 : w5.cell? ⟨rz, 4, none⟩ = some (.slice none 0 0) := HZ.out.cell 4; have f4 : w5.frozen? ⟨rz, 4, none⟩ = false := HZ.out.frozen 4; have z5 : w5.cell? ⟨rz, 5, none⟩ = some (.slice none 0 0) := HZ.out.cell 5; have f5 : w5.frozen? ⟨rz, 5, none⟩ = false := HZ.out.frozen 5; have z6 : w5.cell? ⟨rz, 6, none⟩ = some (.bool false) := HZ.out.cell 6; have f6 : w5.frozen? ⟨rz, 6, none⟩ = false := HZ.out.frozen 6; have z7 : w5.cell? ⟨rz, 7, none⟩ = some (.slice none 0 0) := HZ.out.cell 7; have f7 : w5.frozen? ⟨rz, 7, none⟩ = false := HZ.out.frozen 7; have z8 : w5.cell? ⟨rz, 8, none⟩ = some (.slice none 0 0) := HZ.out.cell 8; have f8 : w5.frozen? ⟨rz, 8, none⟩ = false := HZ.out.frozen 8; have z9 : w5.cell? ⟨rz, 9, none⟩ = some (.int .u64 0) := HZ.out.cell 9; have f9 : w5.frozen? ⟨rz, 9, none⟩ = false := HZ.out.frozen 9; have z10 : w5.cell? ⟨rz, 10, none⟩ = some (.string ⟨#[]⟩) := HZ.out.cell 10; have f10 : w5.frozen? ⟨rz, 10, none⟩ = false := HZ.out.frozen 10
              go_upto_region 16 with fail
              refine wp_region_held_drew (S := (fun w' => w'.cell? ⟨rb, 1, none⟩ = some (.int .i64 3))) (by kernel_rfl) ?_ (fun hHeld => ?_)
              · ((first | (go_keep; done) | exact keep11 hrbz r1 _ _ _ _ _ _ _ _ _ _ _))
              refine wpAnyH_take (i := 0) (v := ?_) rfl (by kernel_rfl) (by kernel_rfl) (by kernel_rfl) (fun _ _ _ h => h) (Or.inl ⟨by rfl, ?_⟩) (by assumption) ?_
              rotate_left 1
              · (intro w hSw; (try dsimp only at hSw); go_simp; (try with_reducible rfl))
              try simp only [Act.put, List.getElem_toArray, List.getElem_cons_succ, List.getElem_cons_zero, List.setIfInBounds_toArray, List.set_cons_zero, List.set_cons_succ]
              refine wpAnyH_take (i := 1) (v := ?_) rfl (by kernel_rfl) (by kernel_rfl) (by kernel_rfl) (fun _ _ _ h => h) (Or.inl ⟨by rfl, ?_⟩) (by assumption) ?_
              rotate_left 1
              · (intro w hSw; (try dsimp only at hSw); go_simp; (try with_reducible rfl))
              try simp only [Act.put, List.getElem_toArray, List.getElem_cons_succ, List.getElem_cons_zero, List.setIfInBounds_toArray, List.set_cons_zero, List.set_cons_succ]
              refine wpAnyH_take (i := 2) (v := ?_) rfl (by kernel_rfl) (by kernel_rfl) (by kernel_rfl) (fun _ _ _ h => h) (Or.inl ⟨by rfl, ?_⟩) (by assumption) ?_
              rotate_left 1
              · (intro w hSw; (try dsimp only at hSw); go_simp; (try with_reducible rfl))
              try simp only [Act.put, List.getElem_toArray, List.getElem_cons_succ, List.getElem_cons_zero, List.setIfInBounds_toArray, List.set_cons_zero, List.set_cons_succ]
              refine wpAnyH_take (i := 3) (v := ?_) rfl (by kernel_rfl) (by kernel_rfl) (by kernel_rfl) (fun _ _ _ h => h) (Or.inl ⟨by rfl, ?_⟩) (by assumption) ?_
              rotate_left 1
              · (intro w hSw; (try dsimp only at hSw); go_simp; (try with_reducible rfl))
              try simp only [Act.put, List.getElem_toArray, List.getElem_cons_succ, List.getElem_cons_zero, List.setIfInBounds_toArray, List.set_cons_zero, List.set_cons_succ]
              refine wpAnyH_take (i := 4) (v := ?_) rfl (by kernel_rfl) (by kernel_rfl) (by kernel_rfl) (fun _ _ _ h => h) (Or.inl ⟨by rfl, ?_⟩) (by assumption) ?_
              rotate_left 1
              · (intro w hSw; (try dsimp only at hSw); go_simp; (try with_reducible rfl))
              try simp only [Act.put, List.getElem_toArray, List.getElem_cons_succ, List.getElem_cons_zero, List.setIfInBounds_toArray, List.set_cons_zero, List.set_cons_succ]
              refine wpAnyH_ready (rs := [5]) (by kernel_rfl) (by simp) ?_
              refine AllReadyH.cons rfl (fun K hK => ?_) AllReadyH.nil
              try simp only [List.getElem_toArray, List.getElem_cons_succ, List.getElem_cons_zero]
              go_simp
              refine hK.out _ _ ?_ (fun hHeld => ?_)
              · ((first | (go_keep; done) | exact keep11 hrbz r1 _ _ _ _ _ _ _ _ _ _ _))
              clear hK K
              try simp only [Act.put, List.getElem_toArray, List.getElem_cons_succ, List.getElem_cons_zero, List.setIfInBounds_toArray, List.set_cons_zero, List.set_cons_succ]
              refine wpAnyH_take (i := 6) (v := ?_) rfl (by kernel_rfl) (by kernel_rfl) (by kernel_rfl) (fun _ _ _ h => h) (Or.inl ⟨by rfl, ?_⟩) (by assumption) ?_
              rotate_left 1
              · (intro w hSw; (try dsimp only at hSw); go_simp; (try with_reducible rfl))
              try simp only [Act.put, List.getElem_toArray, List.getElem_cons_succ, List.getElem_cons_zero, List.setIfInBounds_toArray, List.set_cons_zero, List.set_cons_succ]
              refine wpAnyH_done (by kernel_rfl) ?_ _
              refine wp_at (fun W' => CellsAt W' rz recZ 154 ∧ Step w W') (fin11d HZ.out rfl HS3.out hrz _ _ _ _ _ _ _ _ _ _ _) ?_
              intro W' hC9
              have HC9 := Lib.hid hC9
              clear hC9
              go_wp2
              refine bodyPost_ret (v := .tuple #[.agg recZ, .int .i64 _]) (results_row_tmp Try.results82 _ _ rz 154 recZ _ rfl HC9.out.1 Try.underlying154 rfl (by kernel_rfl)) rfl ?_
              refine ⟨0, ⟨0, 0, 0⟩, .slice none 0 0, none, 0, 0, false, none, 0, 0, none, 0, 0, 0, ⟨#[]⟩, _, rfl, HC9.out.2, fun _ => .inl HE.out, fun ws hws => absurd (HRN.out.symm.trans hws) (by simp), [], by rw [HRN.out]; rfl, nil_repW⟩
          · have he' : (e == 0) = false := beq_eq_false_iff_ne.2 he
            have he'' : (e != 0) = true := by rw [bne, he']; rfl
            have HE := Lib.hid he
            have HRN := Lib.hid (HRNF.out (fun h => absurd h he))
            have z0 : wr.cell? ⟨rz, 0, none⟩ = some (.int .i64 0) := HZ.out.cell 0; have f0 : wr.frozen? ⟨rz, 0, none⟩ = false := HZ.out.frozen 0; have z1 : wr.cell? ⟨rz, 1, none⟩ = some (.int .u64 0) := HZ.out.cell 1; have f1 : wr.frozen? ⟨rz, 1, none⟩ = false := HZ.out.frozen 1; have z2 : wr.cell? ⟨rz, 2, none⟩ = some (.int .u64 0) := HZ.out.cell 2; have f2 : wr.frozen? ⟨rz, 2, none⟩ = false := HZ.out.frozen 2; have z3 : wr.cell? ⟨rz, 3, none⟩ = some (.int .u64 0) := HZ.out.cell 3; have f3 : wr.frozen? ⟨rz, 3, none⟩ = false := HZ.out.frozen 3; have z4 : wr.cell? ⟨rz, 4, none⟩ = some (.slice none 0 0) := HZ.out.cell 4; have f4 : wr.frozen? ⟨rz, 4, none⟩ = false := HZ.out.frozen 4; have z5 : wr.cell? ⟨rz, 5, none⟩ = some (.slice none 0 0) := HZ.out.cell 5; have f5 : wr.frozen? ⟨rz, 5, none⟩ = false := HZ.out.frozen 5; have z6 : wr.cell? ⟨rz, 6, none⟩ = some (.bool false) := HZ.out.cell 6; have f6 : wr.frozen? ⟨rz, 6, none⟩ = false := HZ.out.frozen 6; have z7 : wr.cell? ⟨rz, 7, none⟩ = some (.slice none 0 0) := HZ.out.cell 7; have f7 : wr.frozen? ⟨rz, 7, none⟩ = false := HZ.out.frozen 7; have z8 : wr.cell? ⟨rz, 8, none⟩ = some (.slice none 0 0) := HZ.out.cell 8; have f8 : wr.frozen? ⟨rz, 8, none⟩ = false := HZ.out.frozen 8; have z9 : wr.cell? ⟨rz, 9, none⟩ = some (.int .u64 0) := HZ.out.cell 9; have f9 : wr.frozen? ⟨rz, 9, none⟩ = false := HZ.out.frozen 9; have z10 : wr.cell? ⟨rz, 10, none⟩ = some (.string ⟨#[]⟩) := HZ.out.cell 10; have f10 : wr.frozen? ⟨rz, 10, none⟩ = false := HZ.out.frozen 10
            clear he HRNF HYES HNO4 HA HCO
            go_upto_region 16 with fail
            refine wp_region_held_drew (S := (fun w' => w'.cell? ⟨rb, 1, none⟩ = some (.int .i64 e))) (by kernel_rfl) ?_ (fun hHeld => ?_)
            · ((first | (go_keep; done) | exact keep11 hrbz r1 _ _ _ _ _ _ _ _ _ _ _))
            refine wpAnyH_take (i := 0) (v := ?_) rfl (by kernel_rfl) (by kernel_rfl) (by kernel_rfl) (fun _ _ _ h => h) (Or.inl ⟨by rfl, ?_⟩) (by assumption) ?_
            rotate_left 1
            · (intro w hSw; (try dsimp only at hSw); go_simp; (try with_reducible rfl))
            try simp only [Act.put, List.getElem_toArray, List.getElem_cons_succ, List.getElem_cons_zero, List.setIfInBounds_toArray, List.set_cons_zero, List.set_cons_succ]
            refine wpAnyH_take (i := 1) (v := ?_) rfl (by kernel_rfl) (by kernel_rfl) (by kernel_rfl) (fun _ _ _ h => h) (Or.inl ⟨by rfl, ?_⟩) (by assumption) ?_
            rotate_left 1
            · (intro w hSw; (try dsimp only at hSw); go_simp; (try with_reducible rfl))
            try simp only [Act.put, List.getElem_toArray, List.getElem_cons_succ, List.getElem_cons_zero, List.setIfInBounds_toArray, List.set_cons_zero, List.set_cons_succ]
            refine wpAnyH_take (i := 2) (v := ?_) rfl (by kernel_rfl) (by kernel_rfl) (by kernel_rfl) (fun _ _ _ h => h) (Or.inl ⟨by rfl, ?_⟩) (by assumption) ?_
            rotate_left 1
            · (intro w hSw; (try dsimp only at hSw); go_simp; (try with_reducible rfl))
            try simp only [Act.put, List.getElem_toArray, List.getElem_cons_succ, List.getElem_cons_zero, List.setIfInBounds_toArray, List.set_cons_zero, List.set_cons_succ]
            refine wpAnyH_take (i := 3) (v := ?_) rfl (by kernel_rfl) (by kernel_rfl) (by kernel_rfl) (fun _ _ _ h => h) (Or.inl ⟨by rfl, ?_⟩) (by assumption) ?_
            rotate_left 1
            · (intro w hSw; (try dsimp only at hSw); go_simp; (try with_reducible rfl))
            try simp only [Act.put, List.getElem_toArray, List.getElem_cons_succ, List.getElem_cons_zero, List.setIfInBounds_toArray, List.set_cons_zero, List.set_cons_succ]
            refine wpAnyH_take (i := 4) (v := ?_) rfl (by kernel_rfl) (by kernel_rfl) (by kernel_rfl) (fun _ _ _ h => h) (Or.inl ⟨by rfl, ?_⟩) (by assumption) ?_
            rotate_left 1
            · (intro w hSw; (try dsimp only at hSw); go_simp; (try with_reducible rfl))
            try simp only [Act.put, List.getElem_toArray, List.getElem_cons_succ, List.getElem_cons_zero, List.setIfInBounds_toArray, List.set_cons_zero, List.set_cons_succ]
            refine wpAnyH_ready (rs := [5]) (by kernel_rfl) (by simp) ?_
            refine AllReadyH.cons rfl (fun K hK => ?_) AllReadyH.nil
            try simp only [List.getElem_toArray, List.getElem_cons_succ, List.getElem_cons_zero]
            go_simp
            refine hK.out _ _ ?_ (fun hHeld => ?_)
            · ((first | (go_keep; done) | exact keep11 hrbz r1 _ _ _ _ _ _ _ _ _ _ _))
            clear hK K
            try simp only [Act.put, List.getElem_toArray, List.getElem_cons_succ, List.getElem_cons_zero, List.setIfInBounds_toArray, List.set_cons_zero, List.set_cons_succ]
            refine wpAnyH_take (i := 6) (v := ?_) rfl (by kernel_rfl) (by kernel_rfl) (by kernel_rfl) (fun _ _ _ h => h) (Or.inl ⟨by rfl, ?_⟩) (by assumption) ?_
            rotate_left 1
            · (intro w hSw; (try dsimp only at hSw); go_simp; (try with_reducible rfl))
            try simp only [Act.put, List.getElem_toArray, List.getElem_cons_succ, List.getElem_cons_zero, List.setIfInBounds_toArray, List.set_cons_zero, List.set_cons_succ]
            refine wpAnyH_done (by kernel_rfl) ?_ _
            refine wp_at (fun W' => CellsAt W' rz recZ 154 ∧ Step w W') (fin11d HZ.out rfl HS3.out hrz _ _ _ _ _ _ _ _ _ _ _) ?_
            intro W' hC9
            have HC9 := Lib.hid hC9
            clear hC9
            go_wp2
            refine bodyPost_ret (v := .tuple #[.agg recZ, .int .i64 _]) (results_row_tmp Try.results82 _ _ rz 154 recZ _ rfl HC9.out.1 Try.underlying154 rfl (by kernel_rfl)) rfl ?_
            refine ⟨0, ⟨0, 0, 0⟩, .slice none 0 0, none, 0, 0, false, none, 0, 0, none, 0, 0, 0, ⟨#[]⟩, _, rfl, HC9.out.2, fun _ => .inl HE.out, fun ws hws => absurd (HRN.out.symm.trans hws) (by simp), [], by rw [HRN.out]; rfl, nil_repW⟩
    · have HE : Hid ((3 : Int) ≠ 0) := Lib.hid (by decide)
      have HRN : Hid (readW xs = none) := Lib.hid (readW_none HNX.out (fun h => hok (by rw [h.2]; exact ⟨rfl, by decide⟩)))
      by_cases hl1 : hd.length = 1
      · obtain ⟨c, rfl⟩ := List.length_eq_one_iff.1 hl1
        have hfn : fieldsL c.toNat = [] := by
          by_cases h : fieldsL c.toNat = []
          · exact h
          · exact absurd ⟨rfl, h⟩ hok
        have HF := Lib.hid (fun W => recFields_ W c.toNat)
        rw [hfn] at HF
        have HF : Hid (∀ W : World, Calls Try.prog 110 #[.int .i64 (c.toNat : Int)] W fun e w' => e = .returned (.string ⟨#[]⟩) ∧ w' = W) := HF
        have hwc : wrap64 (c.toNat : Int) = (c.toNat : Int) := wrap64_small (c := c)
        have hse : ((⟨#[]⟩ : ByteArray) == ⟨#[]⟩) = true := by rfl
        obtain ⟨hb, ho, hu, hav, _, _, hur, hcu⟩ := Ty.slice_at1 rfl HH.out (k := 0) (by simp)
        obtain rfl : hu = bv c := by simpa [Ty.byte] using hur
        subst hav
        have hcu2 : w3.cell? ⟨hb, ho, none⟩ = some (bv c) := by simpa using hcu
        clear hok hfn hl1 hur hcu
        go_upto_region 6 with (go_at_call 110; rw [hwc]; refine (HF.out _).mono ?_; rintro y w4 ⟨rfl, rfl⟩)
        refine wp_code (fun w9 => w9.cell? ⟨rb, 1, none⟩ = some (.int .i64 3) ∧ CellsAt w9 rz recZ 154 ∧ Step w w9) ⟨(CellsAt.set HC3.out 1 _ : RcAt _ rb v' 3).cell 1, CellsAt.other HZ.out (p := ⟨rb, 1, none⟩) (fun e => hrbz e.symm) _, Step.setCell HS3.out (p := ⟨rb, 1, none⟩) hrb1 _⟩ ?_
        clear r1 q1 HZ HS3 HC3 HV HH
        rintro w5 ⟨r1, hZ, hS3⟩
        have HZ := Lib.hid hZ
        have HS3 := Lib.hid hS3
        clear hZ hS3
        have z0 : w5.cell? ⟨rz, 0, none⟩ = some (.int .i64 0) := HZ.out.cell 0; have f0 : w5.frozen? ⟨rz, 0, none⟩ = false := HZ.out.frozen 0; have z1 : w5.cell? ⟨rz, 1, none⟩ = some (.int .u64 0) := HZ.out.cell 1; have f1 : w5.frozen? ⟨rz, 1, none⟩ = false := HZ.out.frozen 1; have z2 : w5.cell? ⟨rz, 2, none⟩ = some (.int .u64 0) := HZ.out.cell 2; have f2 : w5.frozen? ⟨rz, 2, none⟩ = false := HZ.out.frozen 2; have z3 : w5.cell? ⟨rz, 3, none⟩ = some (.int .u64 0) := HZ.out.cell 3; have f3 : w5.frozen? ⟨rz, 3, none⟩ = false := HZ.out.frozen 3; have z4 : w5.cell? ⟨rz, 4, none⟩ = some (.slice none 0 0) := HZ.out.cell 4; have f4 : w5.frozen? ⟨rz, 4, none⟩ = false := HZ.out.frozen 4; have z5 : w5.cell? ⟨rz, 5, none⟩ = some (.slice none 0 0) := HZ.out.cell 5; have f5 : w5.frozen? ⟨rz, 5, none⟩ = false := HZ.out.frozen 5; have z6 : w5.cell? ⟨rz, 6, none⟩ = some (.bool false) := HZ.out.cell 6; have f6 : w5.frozen? ⟨rz, 6, none⟩ = false := HZ.out.frozen 6; have z7 : w5.cell? ⟨rz, 7, none⟩ = some (.slice none 0 0) := HZ.out.cell 7; have f7 : w5.frozen? ⟨rz, 7, none⟩ = false := HZ.out.frozen 7; have z8 : w5.cell? ⟨rz, 8, none⟩ = some (.slice none 0 0) := HZ.out.cell 8; have f8 : w5.frozen? ⟨rz, 8, none⟩ = false := HZ.out.frozen 8; have z9 : w5.cell? ⟨rz, 9, none⟩ = some (.int .u64 0) := HZ.out.cell 9; have f9 : w5.frozen? ⟨rz, 9, none⟩ = false := HZ.out.frozen 9; have z10 : w5.cell? ⟨rz, 10, none⟩ = some (.string ⟨#[]⟩) := HZ.out.cell 10; have f10 : w5.frozen? ⟨rz, 10, none⟩ = false := HZ.out.frozen 10
        go_upto_region 7 with fail
        refine wp_region_held_drew (S := (fun w' => w'.cell? ⟨rb, 1, none⟩ = some (.int .i64 3))) (by kernel_rfl) ?_ (fun hHeld => ?_)
        · ((first | (go_keep; done) | exact keep11 hrbz r1 _ _ _ _ _ _ _ _ _ _ _))
        refine wpAnyH_take (i := 0) (v := ?_) rfl (by kernel_rfl) (by kernel_rfl) (by kernel_rfl) (fun _ _ _ h => h) (Or.inl ⟨by rfl, ?_⟩) (by assumption) ?_
        rotate_left 1
        · (intro w hSw; (try dsimp only at hSw); go_simp; (try with_reducible rfl))
        try simp only [Act.put, List.getElem_toArray, List.getElem_cons_succ, List.getElem_cons_zero, List.setIfInBounds_toArray, List.set_cons_zero, List.set_cons_succ]
        refine wpAnyH_take (i := 1) (v := ?_) rfl (by kernel_rfl) (by kernel_rfl) (by kernel_rfl) (fun _ _ _ h => h) (Or.inl ⟨by rfl, ?_⟩) (by assumption) ?_
        rotate_left 1
        · (intro w hSw; (try dsimp only at hSw); go_simp; (try with_reducible rfl))
        try simp only [Act.put, List.getElem_toArray, List.getElem_cons_succ, List.getElem_cons_zero, List.setIfInBounds_toArray, List.set_cons_zero, List.set_cons_succ]
        refine wpAnyH_take (i := 2) (v := ?_) rfl (by kernel_rfl) (by kernel_rfl) (by kernel_rfl) (fun _ _ _ h => h) (Or.inl ⟨by rfl, ?_⟩) (by assumption) ?_
        rotate_left 1
        · (intro w hSw; (try dsimp only at hSw); go_simp; (try with_reducible rfl))
        try simp only [Act.put, List.getElem_toArray, List.getElem_cons_succ, List.getElem_cons_zero, List.setIfInBounds_toArray, List.set_cons_zero, List.set_cons_succ]
        refine wpAnyH_take (i := 3) (v := ?_) rfl (by kernel_rfl) (by kernel_rfl) (by kernel_rfl) (fun _ _ _ h => h) (Or.inl ⟨by rfl, ?_⟩) (by assumption) ?_
        rotate_left 1
        · (intro w hSw; (try dsimp only at hSw); go_simp; (try with_reducible rfl))
        try simp only [Act.put, List.getElem_toArray, List.getElem_cons_succ, List.getElem_cons_zero, List.setIfInBounds_toArray, List.set_cons_zero, List.set_cons_succ]
        refine wpAnyH_take (i := 4) (v := ?_) rfl (by kernel_rfl) (by kernel_rfl) (by kernel_rfl) (fun _ _ _ h => h) (Or.inl ⟨by rfl, ?_⟩) (by assumption) ?_
        rotate_left 1
        · (intro w hSw; (try dsimp only at hSw); go_simp; (try with_reducible rfl))
        try simp only [Act.put, List.getElem_toArray, List.getElem_cons_succ, List.getElem_cons_zero, List.setIfInBounds_toArray, List.set_cons_zero, List.set_cons_succ]
        refine wpAnyH_ready (rs := [5]) (by kernel_rfl) (by simp) ?_
        refine AllReadyH.cons rfl (fun K hK => ?_) AllReadyH.nil
        try simp only [List.getElem_toArray, List.getElem_cons_succ, List.getElem_cons_zero]
        go_simp
        refine hK.out _ _ ?_ (fun hHeld => ?_)
        · ((first | (go_keep; done) | exact keep11 hrbz r1 _ _ _ _ _ _ _ _ _ _ _))
        clear hK K
        try simp only [Act.put, List.getElem_toArray, List.getElem_cons_succ, List.getElem_cons_zero, List.setIfInBounds_toArray, List.set_cons_zero, List.set_cons_succ]
        refine wpAnyH_take (i := 6) (v := ?_) rfl (by kernel_rfl) (by kernel_rfl) (by kernel_rfl) (fun _ _ _ h => h) (Or.inl ⟨by rfl, ?_⟩) (by assumption) ?_
        rotate_left 1
        · (intro w hSw; (try dsimp only at hSw); go_simp; (try with_reducible rfl))
        try simp only [Act.put, List.getElem_toArray, List.getElem_cons_succ, List.getElem_cons_zero, List.setIfInBounds_toArray, List.set_cons_zero, List.set_cons_succ]
        refine wpAnyH_done (by kernel_rfl) ?_ _
        refine wp_at (fun W' => CellsAt W' rz recZ 154 ∧ Step w W') (fin11d HZ.out rfl HS3.out hrz _ _ _ _ _ _ _ _ _ _ _) ?_
        intro W' hC9
        have HC9 := Lib.hid hC9
        clear hC9
        go_wp2
        refine bodyPost_ret (v := .tuple #[.agg recZ, .int .i64 _]) (results_row_tmp Try.results82 _ _ rz 154 recZ _ rfl HC9.out.1 Try.underlying154 rfl (by kernel_rfl)) rfl ?_
        refine ⟨0, ⟨0, 0, 0⟩, .slice none 0 0, none, 0, 0, false, none, 0, 0, none, 0, 0, 0, ⟨#[]⟩, _, rfl, HC9.out.2, fun _ => .inl HE.out, fun ws hws => absurd (HRN.out.symm.trans hws) (by simp), [], by rw [HRN.out]; rfl, nil_repW⟩
      · have hl2 : (hd.length == 1) = false := beq_eq_false_iff_ne.2 hl1
        have hl3 : ((hd.length : Int) == 1) = false := beq_eq_false_iff_ne.2 (by omega)
        have hl4 : ((hd.length : Int) != 1) = true := by rw [bne, hl3]; rfl
        clear hok
        generalize hd.length = L at *
        go_upto_region 6 with fail
        refine wp_code (fun w9 => w9.cell? ⟨rb, 1, none⟩ = some (.int .i64 3) ∧ CellsAt w9 rz recZ 154 ∧ Step w w9) ⟨(CellsAt.set HC3.out 1 _ : RcAt _ rb v' 3).cell 1, CellsAt.other HZ.out (p := ⟨rb, 1, none⟩) (fun e => hrbz e.symm) _, Step.setCell HS3.out (p := ⟨rb, 1, none⟩) hrb1 _⟩ ?_
        clear r1 q1 HZ HS3 HC3 HV HH
        rintro w5 ⟨r1, hZ, hS3⟩
        have HZ := Lib.hid hZ
        have HS3 := Lib.hid hS3
        clear hZ hS3
        have z0 : w5.cell? ⟨rz, 0, none⟩ = some (.int .i64 0) := HZ.out.cell 0; have f0 : w5.frozen? ⟨rz, 0, none⟩ = false := HZ.out.frozen 0; have z1 : w5.cell? ⟨rz, 1, none⟩ = some (.int .u64 0) := HZ.out.cell 1; have f1 : w5.frozen? ⟨rz, 1, none⟩ = false := HZ.out.frozen 1; have z2 : w5.cell? ⟨rz, 2, none⟩ = some (.int .u64 0) := HZ.out.cell 2; have f2 : w5.frozen? ⟨rz, 2, none⟩ = false := HZ.out.frozen 2; have z3 : w5.cell? ⟨rz, 3, none⟩ = some (.int .u64 0) := HZ.out.cell 3; have f3 : w5.frozen? ⟨rz, 3, none⟩ = false := HZ.out.frozen 3; have z4 : w5.cell? ⟨rz, 4, none⟩ = some (.slice none 0 0) := HZ.out.cell 4; have f4 : w5.frozen? ⟨rz, 4, none⟩ = false := HZ.out.frozen 4; have z5 : w5.cell? ⟨rz, 5, none⟩ = some (.slice none 0 0) := HZ.out.cell 5; have f5 : w5.frozen? ⟨rz, 5, none⟩ = false := HZ.out.frozen 5; have z6 : w5.cell? ⟨rz, 6, none⟩ = some (.bool false) := HZ.out.cell 6; have f6 : w5.frozen? ⟨rz, 6, none⟩ = false := HZ.out.frozen 6; have z7 : w5.cell? ⟨rz, 7, none⟩ = some (.slice none 0 0) := HZ.out.cell 7; have f7 : w5.frozen? ⟨rz, 7, none⟩ = false := HZ.out.frozen 7; have z8 : w5.cell? ⟨rz, 8, none⟩ = some (.slice none 0 0) := HZ.out.cell 8; have f8 : w5.frozen? ⟨rz, 8, none⟩ = false := HZ.out.frozen 8; have z9 : w5.cell? ⟨rz, 9, none⟩ = some (.int .u64 0) := HZ.out.cell 9; have f9 : w5.frozen? ⟨rz, 9, none⟩ = false := HZ.out.frozen 9; have z10 : w5.cell? ⟨rz, 10, none⟩ = some (.string ⟨#[]⟩) := HZ.out.cell 10; have f10 : w5.frozen? ⟨rz, 10, none⟩ = false := HZ.out.frozen 10
        go_upto_region 7 with fail
        refine wp_region_held_drew (S := (fun w' => w'.cell? ⟨rb, 1, none⟩ = some (.int .i64 3))) (by kernel_rfl) ?_ (fun hHeld => ?_)
        · ((first | (go_keep; done) | exact keep11 hrbz r1 _ _ _ _ _ _ _ _ _ _ _))
        refine wpAnyH_take (i := 0) (v := ?_) rfl (by kernel_rfl) (by kernel_rfl) (by kernel_rfl) (fun _ _ _ h => h) (Or.inl ⟨by rfl, ?_⟩) (by assumption) ?_
        rotate_left 1
        · (intro w hSw; (try dsimp only at hSw); go_simp; (try with_reducible rfl))
        try simp only [Act.put, List.getElem_toArray, List.getElem_cons_succ, List.getElem_cons_zero, List.setIfInBounds_toArray, List.set_cons_zero, List.set_cons_succ]
        refine wpAnyH_take (i := 1) (v := ?_) rfl (by kernel_rfl) (by kernel_rfl) (by kernel_rfl) (fun _ _ _ h => h) (Or.inl ⟨by rfl, ?_⟩) (by assumption) ?_
        rotate_left 1
        · (intro w hSw; (try dsimp only at hSw); go_simp; (try with_reducible rfl))
        try simp only [Act.put, List.getElem_toArray, List.getElem_cons_succ, List.getElem_cons_zero, List.setIfInBounds_toArray, List.set_cons_zero, List.set_cons_succ]
        refine wpAnyH_take (i := 2) (v := ?_) rfl (by kernel_rfl) (by kernel_rfl) (by kernel_rfl) (fun _ _ _ h => h) (Or.inl ⟨by rfl, ?_⟩) (by assumption) ?_
        rotate_left 1
        · (intro w hSw; (try dsimp only at hSw); go_simp; (try with_reducible rfl))
        try simp only [Act.put, List.getElem_toArray, List.getElem_cons_succ, List.getElem_cons_zero, List.setIfInBounds_toArray, List.set_cons_zero, List.set_cons_succ]
        refine wpAnyH_take (i := 3) (v := ?_) rfl (by kernel_rfl) (by kernel_rfl) (by kernel_rfl) (fun _ _ _ h => h) (Or.inl ⟨by rfl, ?_⟩) (by assumption) ?_
        rotate_left 1
        · (intro w hSw; (try dsimp only at hSw); go_simp; (try with_reducible rfl))
        try simp only [Act.put, List.getElem_toArray, List.getElem_cons_succ, List.getElem_cons_zero, List.setIfInBounds_toArray, List.set_cons_zero, List.set_cons_succ]
        refine wpAnyH_take (i := 4) (v := ?_) rfl (by kernel_rfl) (by kernel_rfl) (by kernel_rfl) (fun _ _ _ h => h) (Or.inl ⟨by rfl, ?_⟩) (by assumption) ?_
        rotate_left 1
        · (intro w hSw; (try dsimp only at hSw); go_simp; (try with_reducible rfl))
        try simp only [Act.put, List.getElem_toArray, List.getElem_cons_succ, List.getElem_cons_zero, List.setIfInBounds_toArray, List.set_cons_zero, List.set_cons_succ]
        refine wpAnyH_ready (rs := [5]) (by kernel_rfl) (by simp) ?_
        refine AllReadyH.cons rfl (fun K hK => ?_) AllReadyH.nil
        try simp only [List.getElem_toArray, List.getElem_cons_succ, List.getElem_cons_zero]
        go_simp
        refine hK.out _ _ ?_ (fun hHeld => ?_)
        · ((first | (go_keep; done) | exact keep11 hrbz r1 _ _ _ _ _ _ _ _ _ _ _))
        clear hK K
        try simp only [Act.put, List.getElem_toArray, List.getElem_cons_succ, List.getElem_cons_zero, List.setIfInBounds_toArray, List.set_cons_zero, List.set_cons_succ]
        refine wpAnyH_take (i := 6) (v := ?_) rfl (by kernel_rfl) (by kernel_rfl) (by kernel_rfl) (fun _ _ _ h => h) (Or.inl ⟨by rfl, ?_⟩) (by assumption) ?_
        rotate_left 1
        · (intro w hSw; (try dsimp only at hSw); go_simp; (try with_reducible rfl))
        try simp only [Act.put, List.getElem_toArray, List.getElem_cons_succ, List.getElem_cons_zero, List.setIfInBounds_toArray, List.set_cons_zero, List.set_cons_succ]
        refine wpAnyH_done (by kernel_rfl) ?_ _
        refine wp_at (fun W' => CellsAt W' rz recZ 154 ∧ Step w W') (fin11d HZ.out rfl HS3.out hrz _ _ _ _ _ _ _ _ _ _ _) ?_
        intro W' hC9
        have HC9 := Lib.hid hC9
        clear hC9
        go_wp2
        refine bodyPost_ret (v := .tuple #[.agg recZ, .int .i64 _]) (results_row_tmp Try.results82 _ _ rz 154 recZ _ rfl HC9.out.1 Try.underlying154 rfl (by kernel_rfl)) rfl ?_
        refine ⟨0, ⟨0, 0, 0⟩, .slice none 0 0, none, 0, 0, false, none, 0, 0, none, 0, 0, 0, ⟨#[]⟩, _, rfl, HC9.out.2, fun _ => .inl HE.out, fun ws hws => absurd (HRN.out.symm.trans hws) (by simp), [], by rw [HRN.out]; rfl, nil_repW⟩
  · have he1' : (e1 == 0) = false := beq_eq_false_iff_ne.2 he1
    have he1'' : (e1 != 0) = true := by rw [bne, he1']; rfl
    have HE := Lib.hid he1
    have HRN := Lib.hid (readW_none HNX.out (fun h => he1 h.1))
    have z0 : w3.cell? ⟨rz, 0, none⟩ = some (.int .i64 0) := HZ.out.cell 0; have f0 : w3.frozen? ⟨rz, 0, none⟩ = false := HZ.out.frozen 0; have z1 : w3.cell? ⟨rz, 1, none⟩ = some (.int .u64 0) := HZ.out.cell 1; have f1 : w3.frozen? ⟨rz, 1, none⟩ = false := HZ.out.frozen 1; have z2 : w3.cell? ⟨rz, 2, none⟩ = some (.int .u64 0) := HZ.out.cell 2; have f2 : w3.frozen? ⟨rz, 2, none⟩ = false := HZ.out.frozen 2; have z3 : w3.cell? ⟨rz, 3, none⟩ = some (.int .u64 0) := HZ.out.cell 3; have f3 : w3.frozen? ⟨rz, 3, none⟩ = false := HZ.out.frozen 3; have z4 : w3.cell? ⟨rz, 4, none⟩ = some (.slice none 0 0) := HZ.out.cell 4; have f4 : w3.frozen? ⟨rz, 4, none⟩ = false := HZ.out.frozen 4; have z5 : w3.cell? ⟨rz, 5, none⟩ = some (.slice none 0 0) := HZ.out.cell 5; have f5 : w3.frozen? ⟨rz, 5, none⟩ = false := HZ.out.frozen 5; have z6 : w3.cell? ⟨rz, 6, none⟩ = some (.bool false) := HZ.out.cell 6; have f6 : w3.frozen? ⟨rz, 6, none⟩ = false := HZ.out.frozen 6; have z7 : w3.cell? ⟨rz, 7, none⟩ = some (.slice none 0 0) := HZ.out.cell 7; have f7 : w3.frozen? ⟨rz, 7, none⟩ = false := HZ.out.frozen 7; have z8 : w3.cell? ⟨rz, 8, none⟩ = some (.slice none 0 0) := HZ.out.cell 8; have f8 : w3.frozen? ⟨rz, 8, none⟩ = false := HZ.out.frozen 8; have z9 : w3.cell? ⟨rz, 9, none⟩ = some (.int .u64 0) := HZ.out.cell 9; have f9 : w3.frozen? ⟨rz, 9, none⟩ = false := HZ.out.frozen 9; have z10 : w3.cell? ⟨rz, 10, none⟩ = some (.string ⟨#[]⟩) := HZ.out.cell 10; have f10 : w3.frozen? ⟨rz, 10, none⟩ = false := HZ.out.frozen 10
    clear he1
    go_upto_region 7 with fail
    refine wp_region_held_drew (S := (fun w' => w'.cell? ⟨rb, 1, none⟩ = some (.int .i64 e1))) (by kernel_rfl) ?_ (fun hHeld => ?_)
    · ((first | (go_keep; done) | exact keep11 hrbz r1 _ _ _ _ _ _ _ _ _ _ _))
    refine wpAnyH_take (i := 0) (v := ?_) rfl (by kernel_rfl) (by kernel_rfl) (by kernel_rfl) (fun _ _ _ h => h) (Or.inl ⟨by rfl, ?_⟩) (by assumption) ?_
    rotate_left 1
    · (intro w hSw; (try dsimp only at hSw); go_simp; (try with_reducible rfl))
    try simp only [Act.put, List.getElem_toArray, List.getElem_cons_succ, List.getElem_cons_zero, List.setIfInBounds_toArray, List.set_cons_zero, List.set_cons_succ]
    refine wpAnyH_take (i := 1) (v := ?_) rfl (by kernel_rfl) (by kernel_rfl) (by kernel_rfl) (fun _ _ _ h => h) (Or.inl ⟨by rfl, ?_⟩) (by assumption) ?_
    rotate_left 1
    · (intro w hSw; (try dsimp only at hSw); go_simp; (try with_reducible rfl))
    try simp only [Act.put, List.getElem_toArray, List.getElem_cons_succ, List.getElem_cons_zero, List.setIfInBounds_toArray, List.set_cons_zero, List.set_cons_succ]
    refine wpAnyH_take (i := 2) (v := ?_) rfl (by kernel_rfl) (by kernel_rfl) (by kernel_rfl) (fun _ _ _ h => h) (Or.inl ⟨by rfl, ?_⟩) (by assumption) ?_
    rotate_left 1
    · (intro w hSw; (try dsimp only at hSw); go_simp; (try with_reducible rfl))
    try simp only [Act.put, List.getElem_toArray, List.getElem_cons_succ, List.getElem_cons_zero, List.setIfInBounds_toArray, List.set_cons_zero, List.set_cons_succ]
    refine wpAnyH_take (i := 3) (v := ?_) rfl (by kernel_rfl) (by kernel_rfl) (by kernel_rfl) (fun _ _ _ h => h) (Or.inl ⟨by rfl, ?_⟩) (by assumption) ?_
    rotate_left 1
    · (intro w hSw; (try dsimp only at hSw); go_simp; (try with_reducible rfl))
    try simp only [Act.put, List.getElem_toArray, List.getElem_cons_succ, List.getElem_cons_zero, List.setIfInBounds_toArray, List.set_cons_zero, List.set_cons_succ]
    refine wpAnyH_take (i := 4) (v := ?_) rfl (by kernel_rfl) (by kernel_rfl) (by kernel_rfl) (fun _ _ _ h => h) (Or.inl ⟨by rfl, ?_⟩) (by assumption) ?_
    rotate_left 1
    · (intro w hSw; (try dsimp only at hSw); go_simp; (try with_reducible rfl))
    try simp only [Act.put, List.getElem_toArray, List.getElem_cons_succ, List.getElem_cons_zero, List.setIfInBounds_toArray, List.set_cons_zero, List.set_cons_succ]
    refine wpAnyH_ready (rs := [5]) (by kernel_rfl) (by simp) ?_
    refine AllReadyH.cons rfl (fun K hK => ?_) AllReadyH.nil
    try simp only [List.getElem_toArray, List.getElem_cons_succ, List.getElem_cons_zero]
    go_simp
    refine hK.out _ _ ?_ (fun hHeld => ?_)
    · ((first | (go_keep; done) | exact keep11 hrbz r1 _ _ _ _ _ _ _ _ _ _ _))
    clear hK K
    try simp only [Act.put, List.getElem_toArray, List.getElem_cons_succ, List.getElem_cons_zero, List.setIfInBounds_toArray, List.set_cons_zero, List.set_cons_succ]
    refine wpAnyH_take (i := 6) (v := ?_) rfl (by kernel_rfl) (by kernel_rfl) (by kernel_rfl) (fun _ _ _ h => h) (Or.inl ⟨by rfl, ?_⟩) (by assumption) ?_
    rotate_left 1
    · (intro w hSw; (try dsimp only at hSw); go_simp; (try with_reducible rfl))
    try simp only [Act.put, List.getElem_toArray, List.getElem_cons_succ, List.getElem_cons_zero, List.setIfInBounds_toArray, List.set_cons_zero, List.set_cons_succ]
    refine wpAnyH_done (by kernel_rfl) ?_ _
    refine wp_at (fun W' => CellsAt W' rz recZ 154 ∧ Step w W') (fin11d HZ.out rfl HS3.out hrz _ _ _ _ _ _ _ _ _ _ _) ?_
    intro W' hC9
    have HC9 := Lib.hid hC9
    clear hC9
    go_wp2
    refine bodyPost_ret (v := .tuple #[.agg recZ, .int .i64 _]) (results_row_tmp Try.results82 _ _ rz 154 recZ _ rfl HC9.out.1 Try.underlying154 rfl (by kernel_rfl)) rfl ?_
    refine ⟨0, ⟨0, 0, 0⟩, .slice none 0 0, none, 0, 0, false, none, 0, 0, none, 0, 0, 0, ⟨#[]⟩, _, rfl, HC9.out.2, fun _ => .inl HE.out, fun ws hws => absurd (HRN.out.symm.trans hws) (by simp), [], by rw [HRN.out]; rfl, nil_repW⟩
end Go.Proofs.Ythflkfgiclcdiaa
