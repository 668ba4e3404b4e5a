/-
  Walks: Writer.Text, Join of bytes.
-/
import Derived.Test.YthflkfgiclcdiaaW14
namespace Go.Proofs.Ythflkfgiclcdiaa
open Go.RowKit Go.Gr
set_option linter.unusedSimpArgs false
/-- Texts as bytes: each its length and itself. -/
def textB (xs : List (List UInt8)) : List UInt8 := xs.flatMap fun b => numB b.length ++ b
theorem textB_snoc (xs : List (List UInt8)) (b : List UInt8) : textB (xs ++ [b]) = textB xs ++ (numB b.length ++ b) := by simp [textB]
theorem textB_append (xs ys : List (List UInt8)) : textB (xs ++ ys) = textB xs ++ textB ys := by simp [textB]
theorem numsB_one (n : Nat) : numsB [n] = numB n := by simp [numsB]
theorem WriterAt.step {w0 w w' : World} {pb : Nat} {out : List UInt8} (h : WriterAt w0 w pb out) (hS : Step w w') : WriterAt w0 w' pb out := by
  obtain ⟨v, p0, f0, hO, h1, hp, hz⟩ := h
  exact ⟨v, (hS.cell hz _).trans p0, (hS.frozen hz _).trans f0, hO.step hS, h1.trans hS, hp, Nat.lt_of_lt_of_le hz hS.size⟩
theorem nums_lit {w : World} {e : TypeId} {n k : Nat} (hk : k = w.heap.size) (hn : n < 18446744073709551616) : (Ty.slice Ty.u64).rep (w.alloc (.cells #[.int .u64 (n : Int)] e)) (fun _ => False) [.slice (some ⟨k, 0, none⟩) 1 1] [n] := by
  subst hk
  refine Own.rep' (Own.lit (E := Ty.u64) (e := e) (M := fun _ => False) (B := 0) (xs := [n]) rfl (by simp [lim]) (Nat.zero_le _) rfl (fun i hi => ?_)) (fun _ _ h => h)
  obtain rfl : i = 0 := by simpa using hi
  exact ⟨rfl, hn⟩
set_option maxRecDepth 100000 in
set_option maxHeartbeats 4000000 in
theorem wText_ {w0 w : World} {M : Nat → Prop} {pb : Nat} {out : List UInt8} {nv : Value} {xs : List (List UInt8)} (hW : WriterAt w0 w pb out) (h : (Ty.slice Ty.bytes).rep w0 M [nv] xs) (hl : out.length + (textB xs).length ≤ lim) :
    Calls Try.prog 114 #[.pointer (some ⟨pb, 0, none⟩), nv] w fun e w' => e = .returned (.tuple #[]) ∧ WriterAt w0 w' pb (out ++ textB xs) := by
  obtain ⟨a, c, rfl, hc, hm, hxl⟩ := Ty.slice_val h
  rw [lim_eq] at hxl
  have H := Lib.hid h
  have HW := Lib.hid hW
  have HL := Lib.hid hl
  clear h hc hm hW hl
  go_enter Try.func114, Try.ntmps114
  go_wp2
  go_loopw [8] (fun i w' => ∃ k : Nat, i = .int .i64 k ∧ k ≤ xs.length ∧ WriterAt w0 w' pb (out ++ textB (xs.take k))) (fun i _ => xs.length - (intOf i).toNat)
  case atStart => exact ⟨0, rfl, by omega, by simpa [textB] using HW.out⟩
  case round =>
    obtain ⟨k, rfl, hk, hWr⟩ := hrel
    have HWr := Lib.hid hWr
    have hS := hWr.choose_spec.2.2.2.1
    clear hWr
    by_cases hlt : k < xs.length
    · obtain ⟨b, off, u, rfl, hbb, _, hu, hcu⟩ := Ty.slice_at1 rfl H.out hlt
      obtain ⟨ua, uc, rfl, _, _, hul⟩ := Ty.slice_val hu
      rw [lim_eq] at hul
      have HU := Lib.hid hu
      have q := (hS.cell hbb _).trans hcu
      clear hu hcu
      have htk : Hid (textB (xs.take (k + 1)) = textB (xs.take k) ++ (numB xs[k].length ++ xs[k])) := Lib.hid (by rw [List.take_succ_eq_append_getElem hlt, textB_snoc])
      have hle : Hid (out.length + (textB (xs.take k)).length + (numB xs[k].length).length + xs[k].length ≤ lim) := Lib.hid (by
        have h1 : textB xs = textB (xs.take (k + 1)) ++ textB (xs.drop (k + 1)) := by rw [← textB_append, List.take_append_drop]
        have := HL.out
        rw [h1, htk.out] at this
        simp only [List.length_append] at this
        omega)
      go_wp2_with (first
        | (go_at_call 113; refine (wNum_ (xs := [xs[k].length]) (HWr.out.step (by (repeat (first | exact Step.refl _ | refine Step.alloc ?_ _ | refine Step.drew ?_ | refine Step.drewN ?_ _ | refine Step.setCell ?_ (by first | exact Nat.le_refl _ | assumption | omega | (simp; done) | (simp; omega)) _ | assumption | refine Step.trans ?_ (by assumption : Step _ _))))) (nums_lit (by first | rfl | simp) (by omega)) (by simp) (by rw [numsB_one, List.length_append]; have := hle.out; omega)).mono ?_; rintro e w1 ⟨rfl, v1, p1, f1, hO1, hS1, hp1, hz1⟩; obtain ⟨a1, n1, c1, rfl, HN1⟩ := hO1.valN; have HO1 := Lib.hid hO1; have nP : Hid (∀ g, (Value.slice a1 n1 c1).ownBlock = some g → g ≠ pb) := Lib.hid (fun g hg e => absurd (HO1.out.lt hg).1 (by omega)); clear hO1)
        | (at_builtin; refine wpList_append_gen (E := Ty.byte) (B := pb + 1) (M := (· < pb + 1)) (ys := xs[k]) rfl (.tmp 22) (.tmp 23) rfl stBytes HO1.out (Src.flat Ty.flat_byte (Ty.step _ HU.out hS1)) (by rw [numsB_one, List.length_append, List.length_append]; have := hle.out; omega) hz1 rfl rfl ?_; intro v2 w2 hA2 hG2 _; obtain ⟨b2, n2, m2, rfl, HN2⟩ := hA2.valN; have c2 := (grown_cell hG2 hz1 (fun e => nP.out _ e rfl) 0).trans p1; have t2 := (grown_frozen hG2 hz1 (fun e => nP.out _ e rfl) 0).trans f1; have HA2 := Lib.hid hA2; have HS2 := Lib.hid (Own.grown (w0 := w0) (Own.base HO1.out (by omega)) hS1 hG2); have hz2 := hG2.size; clear hA2 hG2))
      go_roundw
      case rel =>
        refine ⟨k + 1, by go_num, by omega, _, World.cell?_setCell_same _ _ _ c2, by simpa using t2, ?_, HS2.out.setCell hp1 _, hp1, by simp; omega⟩
        have hq := Own.set HA2.out (p := ⟨pb, 0, none⟩) (Nat.lt_succ_self _) (Nat.lt_succ_self _) (.slice b2 n2 m2)
        rw [htk.out]
        rw [numsB_one] at hq
        simpa only [List.append_assoc] using hq
      case measure => simp [intOf]; omega
    · obtain rfl : k = xs.length := by omega
      go_wp2
      refine bodyPost_end (results_none rfl _ _ _) rfl ⟨rfl, ?_⟩
      simpa using HWr.out
/-- Parts as one list. -/
def joinB (ps : List (List UInt8)) : List UInt8 := numB ps.length ++ textB ps
set_option maxRecDepth 100000 in
set_option maxHeartbeats 4000000 in
theorem pJoin_ {w : World} {M : Nat → Prop} {v : Value} {ps : List (List UInt8)} (h : (Ty.slice Ty.bytes).rep w M [v] ps) (hl : (joinB ps).length ≤ lim) :
    Calls Try.prog 85 #[v] w fun e w' => ∃ v', e = .returned v' ∧ Own Ty.byte 5 w' (· < w.heap.size) w.heap.size v' (joinB ps) ∧ Step w w' := by
  obtain ⟨a, c, rfl, hc, hm, hxl⟩ := Ty.slice_val h
  rw [lim_eq] at hxl
  have H := Lib.hid h
  have hl' : (numB ps.length).length + (textB ps).length ≤ lim := by rw [← List.length_append]; exact hl
  have HL := Lib.hid hl'
  clear h hc hm hl hl'
  have hW0 : WriterAt w (w.alloc (.cells #[.slice none 0 0] 189)) w.heap.size [] := ⟨.slice none 0 0, by simp, by simp, Own.nil, by (repeat (first | exact Step.refl _ | refine Step.alloc ?_ _ | refine Step.drew ?_ | refine Step.drewN ?_ _ | refine Step.setCell ?_ (by first | exact Nat.le_refl _ | assumption | omega | (simp; done) | (simp; omega)) _ | assumption | refine Step.trans ?_ (by assumption : Step _ _))), Nat.le_refl _, by simp⟩
  have HW0 := Lib.hid hW0
  clear hW0
  go_enter Try.func85, Try.ntmps85
  go_wp2_with (first
    | (go_at_call 113; refine (wNum_ (xs := [ps.length]) (HW0.out.step (by (repeat (first | exact Step.refl _ | refine Step.alloc ?_ _ | refine Step.drew ?_ | refine Step.drewN ?_ _ | refine Step.setCell ?_ (by first | exact Nat.le_refl _ | assumption | omega | (simp; done) | (simp; omega)) _ | assumption | refine Step.trans ?_ (by assumption : Step _ _))))) (nums_lit (by first | rfl | simp) (by omega)) (by simp) (by rw [numsB_one]; have := HL.out; simp; omega)).mono ?_; rintro e w1 ⟨rfl, hW1⟩; have HW1 := Lib.hid hW1; clear hW1)
    | (go_at_call 114; refine (wText_ HW1.out H.out (by rw [numsB_one]; have := HL.out; simp; omega)).mono ?_; rintro e w2 ⟨rfl, v2, p2, f2, hO2, hS2, hp2, hz2⟩; obtain ⟨a2, n2, c2, rfl, HN2⟩ := hO2.valN; have HO2 := Lib.hid hO2; clear hO2))
  go_ret
  refine ⟨_, rfl, ?_, hS2⟩
  have h9 := (Own.base HO2.out (Nat.le_succ _)).less (M' := (· < w.heap.size)) (fun b _ hb => Nat.lt_succ_of_lt hb)
  rw [List.nil_append, numsB_one] at h9
  exact h9
end Go.Proofs.Ythflkfgiclcdiaa
