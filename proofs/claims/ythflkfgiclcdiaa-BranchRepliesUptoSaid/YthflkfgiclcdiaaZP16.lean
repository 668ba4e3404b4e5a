/-
  Walk: a record that is being read, field by field: the letter S.
  Walks: a record that is being read, field by field: all letters; the fields of a kind.
-/
import Derived.Test.YthflkfgiclcdiaaZP15
import Derived.Test.YthflkfgiclcdiaaZP7
import Derived.Test.YthflkfgiclcdiaaZW18
namespace Go.Proofs.Ythflkfgiclcdiaa
open Go.RowKit Go.Gr
set_option linter.unusedSimpArgs false
set_option linter.unusedVariables false
theorem int_rep {w : World} {M : Nat → Prop} (n : Nat) : Ty.int.rep w M [.int .i64 (IntKind.i64.wrap (n : Int))] (IntKind.i64.wrap (n : Int)) := by
  refine ⟨rfl, ?_, ?_⟩ <;> (simp only [IntKind.wrap, IntKind.bits, IntKind.signed]; simp; omega)
set_option maxRecDepth 100000 in
set_option maxHeartbeats 4000000 in
theorem rcField_S {W : World} {M : Nat → Prop} {B rb ob : Nat} {kind : Int} {ps : List (List UInt8)} {e : Int} {ws : List DWrite} {fw fr fs : Bool} (h : RS W M B rb ob kind ps e ws fw fr true) (K : RK M B rb ob) (hB : B ≤ W.heap.size) :
    Calls Try.prog 111 #[.pointer (some ⟨rb, 0, none⟩), .pointer (some ⟨ob, 0, none⟩), .int .i32 83] W fun y w' => y = .returned (.tuple #[]) ∧ (∃ e2, RS w' M B rb ob kind (nextF ps e).2.1 e2 ws fw fr false) ∧ TB B rb ob W w' := by
  obtain ⟨v, x, vw, ra, rn, rc, cm, sa, sn, sc, ya, yn, yc, id, nm, hR, hP, hC, hA, h1, h2, h3⟩ := h
  have hsn : Value.slice sa sn sc = .slice none 0 0 := h3 rfl
  simp only [Value.slice.injEq] at hsn
  obtain ⟨rfl, rfl, rfl⟩ := hsn
  have HR := Lib.hid hR
  have HP := Lib.hid hP
  have HC := Lib.hid hC
  have HA := Lib.hid hA
  have H1 := Lib.hid h1
  have H2 := Lib.hid h2
  have HK := Lib.hid K
  have hob := hC.lt
  have hrB := K.mb _ K.mr
  have hoB := K.mb _ K.mo
  have hne := K.ne
  clear hR hP hC hA h1 h2 h3 K
  go_enter Try.func111, Try.ntmps111
  go_upto_region 13 with fail
  go_wp2_with (go_at_call 128; refine (rcAll_ (CellsAt.step HR.out (by (repeat (first | exact Step.refl _ | refine Step.alloc ?_ _ | refine Step.drew ?_ | refine Step.drewN ?_ _ | refine Step.setCell ?_ (by first | exact Nat.le_refl _ | assumption | omega | (simp; done) | (simp; omega)) _ | assumption | refine Step.trans ?_ (by assumption : Step _ _))))) (Ty.step _ HP.out (by (repeat (first | exact Step.refl _ | refine Step.alloc ?_ _ | refine Step.drew ?_ | refine Step.drewN ?_ _ | refine Step.setCell ?_ (by first | exact Nat.le_refl _ | assumption | omega | (simp; done) | (simp; omega)) _ | assumption | refine Step.trans ?_ (by assumption : Step _ _))))) (.inl HK.out.mr)).mono ?_; rintro y w1 ⟨vo, out, rfl, hO, ⟨v', e2, hC1, hv⟩, hT⟩; obtain ⟨oa, oc, rfl, _, _, hol⟩ := Ty.slice_val (Own.rep hO (fun _ h => h.elim)); have hz1 := hT.size; simp only [World.size_alloc] at hz1; have k0 : w1.cell? ⟨W.heap.size, 0, none⟩ = some (.pointer (some ⟨ob, 0, none⟩)) := (hT.cell (by simp) (fun e => by omega) 0).trans (by simp); have hE := Lib.hid (RS.ends HK.out HC.out HA.out (by (repeat (first | exact Step.refl _ | refine Step.alloc ?_ _ | refine Step.drew ?_ | refine Step.drewN ?_ _ | refine Step.setCell ?_ (by first | exact Nat.le_refl _ | assumption | omega | (simp; done) | (simp; omega)) _ | assumption | refine Step.trans ?_ (by assumption : Step _ _)))) hT); have HC1 := Lib.hid hC1; have HV := Lib.hid hv; have HO := Lib.hid (Own.rep (Own.flat (E := Ty.u64) (M' := (· < W.heap.size)) (fun h => h) hO) (fun b hb => by have : b < W.heap.size := hb; simp; omega)); clear hO hC1 hv hT)
  rw [lim_eq] at hol
  go_loopw [55] (fun i w' => ∃ (k : Nat) (xs : List Int) (ta : Option Addr) (tn tc : Nat), i = .int .i64 k ∧ k ≤ out.length ∧ xs.length = k ∧ Hid (CellsAt w' ob (recC kind x vw (.slice ra rn rc) cm (.slice ta tn tc) (.slice ya yn yc) id nm) 154) ∧ Hid (Own Ty.int 3 w' (fun _ => False) w1.heap.size (.slice ta tn tc) xs) ∧ Hid (Turn (· = ob) w1 w')) (fun i _ => out.length - (Go.RowKit.intOf i).toNat)
  case atStart => exact ⟨0, [], none, 0, 0, rfl, Nat.zero_le _, rfl, Lib.hid hE.out.1, Lib.hid Own.nil, Lib.hid (Turn.refl _ _)⟩
  case round =>
    obtain ⟨k, xs, ta, tn, tc, rfl, hk, hxl, hCr, hAr, hTr⟩ := hrel
    have hz2 := hTr.out.size
    by_cases hlt : k < out.length
    · have hd : decide ((k : Int) < (out.length : Int)) = true := decide_eq_true (by omega)
      obtain ⟨pb, po, pu, rfl, hpb, hpn, hpu, hpc⟩ := Ty.slice_at1 rfl HO.out hlt
      have hpc2 : wr.cell? ⟨pb, po + k, none⟩ = some pu := (hTr.out.cell hpb (fun e => hpn (by have : pb = ob := e; show pb < W.heap.size; omega)) _).trans hpc
      obtain ⟨hpu1, _⟩ := hpu
      obtain rfl : pu = .int .u64 (out[k] : Int) := by simpa using hpu1
      have kb : wr.cell? ⟨W.heap.size, 0, none⟩ = some (.pointer (some ⟨ob, 0, none⟩)) := (hTr.out.cell (by omega) (by omega) 0).trans k0
      have k7 : wr.cell? ⟨ob, 7, none⟩ = some (.slice ta tn tc) := hCr.out.cell 7
      have g7 : wr.frozen? ⟨ob, 7, none⟩ = false := hCr.out.frozen 7
      have hobr := hCr.out.lt
      generalize out[k] = N at *
      go_wp2_with fail
      refine wp_region_cut (S := (fun w' => w'.cell? ⟨W.heap.size, 0, none⟩ = some (.pointer (some ⟨ob, 0, none⟩)) ∧ w'.cell? ⟨ob, 7, none⟩ = some (.slice ta tn tc))) 11 (by kernel_rfl) ?_ (fun hHeld => ?_)
      · (go_keep)
      refine wpAnyC_take (i := 0) (v := ?_) rfl (by kernel_rfl) (by kernel_rfl) (by kernel_rfl) (by decide) [9, 10, 11] (by kernel_rfl) (fun _ _ _ h => h) (Or.inl ⟨by rfl, ?_⟩) (by assumption) ?_
      rotate_left 1
      · (intro w hSw; (try dsimp only at hSw); go_simp; (try with_reducible rfl))
      try simp only [Act.put, List.getElem_toArray, List.getElem_cons_succ, List.getElem_cons_zero, List.setIfInBounds_toArray, List.set_cons_zero, List.set_cons_succ]
      refine wpAnyC_take (i := 1) (v := ?_) rfl (by kernel_rfl) (by kernel_rfl) (by kernel_rfl) (by decide) [2, 3, 4, 8, 9, 10, 11] (by kernel_rfl) (fun _ _ _ h => h) (Or.inl ⟨by rfl, ?_⟩) (by assumption) ?_
      rotate_left 1
      · (intro w hSw; (try dsimp only at hSw); go_simp; (try with_reducible rfl))
      try simp only [Act.put, List.getElem_toArray, List.getElem_cons_succ, List.getElem_cons_zero, List.setIfInBounds_toArray, List.set_cons_zero, List.set_cons_succ]
      refine wpAnyC_take (i := 2) (v := ?_) rfl (by kernel_rfl) (by kernel_rfl) (by kernel_rfl) (by decide) [3, 4, 8, 9, 10, 11] (by kernel_rfl) (fun _ _ _ h => h) (Or.inl ⟨by rfl, ?_⟩) (by assumption) ?_
      rotate_left 1
      · (intro w hSw; (try dsimp only at hSw); go_simp; (try with_reducible rfl))
      try simp only [Act.put, List.getElem_toArray, List.getElem_cons_succ, List.getElem_cons_zero, List.setIfInBounds_toArray, List.set_cons_zero, List.set_cons_succ]
      refine wpAnyC_take (i := 3) (v := ?_) rfl (by kernel_rfl) (by kernel_rfl) (by kernel_rfl) (by decide) [4, 8, 9, 10, 11] (by kernel_rfl) (fun _ _ _ h => h) (Or.inl ⟨by rfl, ?_⟩) (by assumption) ?_
      rotate_left 1
      · (intro w hSw; (try dsimp only at hSw); go_simp; (try with_reducible rfl))
      try simp only [Act.put, List.getElem_toArray, List.getElem_cons_succ, List.getElem_cons_zero, List.setIfInBounds_toArray, List.set_cons_zero, List.set_cons_succ]
      refine wpAnyC_take (i := 4) (v := ?_) rfl (by kernel_rfl) (by kernel_rfl) (by kernel_rfl) (by decide) [8, 9, 10, 11] (by kernel_rfl) (fun _ _ _ h => h) (Or.inl ⟨by rfl, ?_⟩) (by assumption) ?_
      rotate_left 1
      · (intro w hSw; (try dsimp only at hSw); go_simp; (try with_reducible rfl))
      try simp only [Act.put, List.getElem_toArray, List.getElem_cons_succ, List.getElem_cons_zero, List.setIfInBounds_toArray, List.set_cons_zero, List.set_cons_succ]
      refine wpAnyC_take (i := 5) (v := ?_) rfl (by kernel_rfl) (by kernel_rfl) (by kernel_rfl) (by decide) [6, 7, 8, 9, 10, 11] (by kernel_rfl) (fun _ _ _ h => h) (Or.inl ⟨by rfl, ?_⟩) (by assumption) ?_
      rotate_left 1
      · (intro w hSw; (try dsimp only at hSw); go_simp; (try with_reducible rfl))
      try simp only [Act.put, List.getElem_toArray, List.getElem_cons_succ, List.getElem_cons_zero, List.setIfInBounds_toArray, List.set_cons_zero, List.set_cons_succ]
      refine wpAnyC_take (i := 6) (v := ?_) rfl (by kernel_rfl) (by kernel_rfl) (by kernel_rfl) (by decide) [7, 8, 9, 10, 11] (by kernel_rfl) (fun _ _ _ h => h) (Or.inl ⟨by rfl, ?_⟩) (by assumption) ?_
      rotate_left 1
      · (intro w hSw; (try dsimp only at hSw); go_simp; (try with_reducible rfl))
      try simp only [Act.put, List.getElem_toArray, List.getElem_cons_succ, List.getElem_cons_zero, List.setIfInBounds_toArray, List.set_cons_zero, List.set_cons_succ]
      refine wpAnyC_ready (rs := [7]) (by kernel_rfl) (by simp) ?_
      refine AllReadyC.cons rfl (by decide) (fun K hK => ?_) AllReadyC.nil
      try simp only [List.getElem_toArray, List.getElem_cons_succ, List.getElem_cons_zero]
      go_simp
      refine hK.out _ _ ?_ (fun hHeld => ?_)
      · (go_keep)
      clear hK K
      try simp only [Act.put, List.getElem_toArray, List.getElem_cons_succ, List.getElem_cons_zero, List.setIfInBounds_toArray, List.set_cons_zero, List.set_cons_succ]
      refine wpAnyC_ready (rs := [8]) (by kernel_rfl) (by simp) ?_
      refine AllReadyC.cons rfl (by decide) (fun K hK => ?_) AllReadyC.nil
      try simp only [List.getElem_toArray, List.getElem_cons_succ, List.getElem_cons_zero]
      refine ite_then rfl ?_; refine wp_append_gen (E := Ty.int) (B := w1.heap.size) (M := fun _ => False) (ys := [IntKind.i64.wrap (N : Int)]) (.tmp 63) (.tmp 66) rfl stInts (Own.step hAr.out (by (repeat (first | exact Step.refl _ | refine Step.alloc ?_ _ | refine Step.drew ?_ | refine Step.drewN ?_ _ | refine Step.setCell ?_ (by first | exact Nat.le_refl _ | assumption | omega | (simp; done) | (simp; omega)) _ | assumption | refine Step.trans ?_ (by assumption : Step _ _))))) (Src.oneAt (E := Ty.int) (M := fun b => False ∨ (Value.slice ta tn tc).ownBlock = some b) (by simp) (int_rep N)) (by rw [lim_eq]; simp; omega) (by first | assumption | omega | (simp; done) | (simp; omega)) rfl rfl ?_; intro v6 w6 hA6 hG6 hn6; have hC6 := (CellsAt.step hCr.out (by (repeat (first | exact Step.refl _ | refine Step.alloc ?_ _ | refine Step.drew ?_ | refine Step.drewN ?_ _ | refine Step.setCell ?_ (by first | exact Nat.le_refl _ | assumption | omega | (simp; done) | (simp; omega)) _ | assumption | refine Step.trans ?_ (by assumption : Step _ _))))).kept (hG6.block ob (by first | assumption | omega | (simp; done) | (simp; omega)) (fun e => absurd (hAr.out.lt e.symm).1 (by omega))); have HT6 := Lib.hid (Turn.grown (hTr.out.then (by (repeat (first | exact Step.refl _ | refine Step.alloc ?_ _ | refine Step.drew ?_ | refine Step.drewN ?_ _ | refine Step.setCell ?_ (by first | exact Nat.le_refl _ | assumption | omega | (simp; done) | (simp; omega)) _ | assumption | refine Step.trans ?_ (by assumption : Step _ _))) : Step wr _)) hG6 (fun g hg hlt => absurd (hAr.out.lt hg).1 (by omega))); have kc : w6.cell? ⟨W.heap.size, 0, none⟩ = some (.pointer (some ⟨ob, 0, none⟩)) := (grown_cell hG6 (by first | assumption | omega | (simp; done) | (simp; omega)) (fun e => absurd (hAr.out.lt e).1 (by omega)) 0).trans ((Step.cell (by (repeat (first | exact Step.refl _ | refine Step.alloc ?_ _ | refine Step.drew ?_ | refine Step.drewN ?_ _ | refine Step.setCell ?_ (by first | exact Nat.le_refl _ | assumption | omega | (simp; done) | (simp; omega)) _ | assumption | refine Step.trans ?_ (by assumption : Step _ _)))) (by omega) 0).trans kb); obtain ⟨b6, n6, m6, rfl, HN6⟩ := hA6.valN; have k8 : w6.cell? ⟨ob, 7, none⟩ = some (.slice ta tn tc) := hC6.cell 7; have g8 : w6.frozen? ⟨ob, 7, none⟩ = false := hC6.frozen 7; have HC6 := Lib.hid hC6; have HA6 := Lib.hid hA6; clear hA6 hG6 hC6 hn6
      refine hK.out _ _ ?_ (fun hHeld => ?_)
      · (go_keep)
      clear hK K
      try simp only [Act.put, List.getElem_toArray, List.getElem_cons_succ, List.getElem_cons_zero, List.setIfInBounds_toArray, List.set_cons_zero, List.set_cons_succ]
      refine wpAnyC_take (i := 9) (v := ?_) rfl (by kernel_rfl) (by kernel_rfl) (by kernel_rfl) (by decide) [10, 11] (by kernel_rfl) (fun _ _ _ h => h) (Or.inl ⟨by rfl, ?_⟩) (by assumption) ?_
      rotate_left 1
      · (intro w hSw; (try dsimp only at hSw); go_simp; (try with_reducible rfl))
      try simp only [Act.put, List.getElem_toArray, List.getElem_cons_succ, List.getElem_cons_zero, List.setIfInBounds_toArray, List.set_cons_zero, List.set_cons_succ]
      refine wpAnyC_take (i := 10) (v := ?_) rfl (by kernel_rfl) (by kernel_rfl) (by kernel_rfl) (by decide) [11] (by kernel_rfl) (fun _ _ _ h => h) (Or.inl ⟨by rfl, ?_⟩) (by assumption) ?_
      rotate_left 1
      · (intro w hSw; (try dsimp only at hSw); go_simp; (try with_reducible rfl))
      try simp only [Act.put, List.getElem_toArray, List.getElem_cons_succ, List.getElem_cons_zero, List.setIfInBounds_toArray, List.set_cons_zero, List.set_cons_succ]
      refine wpAnyC_ready (rs := [11]) (by kernel_rfl) (by simp) ?_
      refine AllReadyC.cut rfl (fun K hK => ?_)
      try simp only [List.getElem_toArray, List.getElem_cons_succ, List.getElem_cons_zero]
      go_simp
      refine hK.out _ _ trivial (fun hHeld => ?_)
      clear hK K
      try simp only [Act.put, List.getElem_toArray, List.getElem_cons_succ, List.getElem_cons_zero, List.setIfInBounds_toArray, List.set_cons_zero, List.set_cons_succ]
      have hTrue : True := trivial
      refine wpAnyH_done (by kernel_rfl) ?_ _
      refine wp_at (fun W' => W' = w6.setCell ⟨ob, 7, none⟩ (.slice b6 n6 m6) ∨ W' = (w6.setCell ⟨ob, 7, none⟩ (.slice b6 n6 m6)).drew) (by first | exact .inl rfl | exact .inr rfl) ?_
      rintro W' hW'
      have hfin : CellsAt W' ob (recC kind x vw (.slice ra rn rc) cm (.slice b6 n6 m6) (.slice ya yn yc) id nm) 154 ∧ Own Ty.int 3 W' (fun _ => False) w1.heap.size (.slice b6 n6 m6) (xs ++ [IntKind.i64.wrap (N : Int)]) ∧ Turn (· = ob) w1 W' := by
        have c1 : CellsAt (w6.setCell ⟨ob, 7, none⟩ (.slice b6 n6 m6)) ob (recC kind x vw (.slice ra rn rc) cm (.slice b6 n6 m6) (.slice ya yn yc) id nm) 154 := CellsAt.set HC6.out 7 _
        have c2 := Own.flat (E := Ty.int) (M' := fun _ => False) (fun h => h) (Own.set (M := (· = ob)) (Own.flat (E := Ty.int) (fun h => h) HA6.out) (p := ⟨ob, 7, none⟩) rfl (by show ob < w1.heap.size; omega) (Value.slice b6 n6 m6))
        have c3 := HT6.out.setCell (p := ⟨ob, 7, none⟩) (fun _ => rfl) (Value.slice b6 n6 m6)
        rcases hW' with rfl | rfl
        · exact ⟨c1, c2, c3⟩
        · exact ⟨CellsAt.step c1 ((Step.refl _).drew), c2.drew, c3.drew⟩
      have HFIN := Lib.hid hfin
      clear hfin hW'
      go_wp2
      go_roundw
      case rel => exact ⟨k + 1, xs ++ [IntKind.i64.wrap (N : Int)], b6, n6, m6, by go_num, by omega, by simp [hxl], Lib.hid HFIN.out.1, Lib.hid HFIN.out.2.1, Lib.hid HFIN.out.2.2⟩
      case measure => simp [Go.RowKit.intOf]; omega
    · obtain rfl : k = out.length := by omega
      have hd : decide ((out.length : Int) < (out.length : Int)) = false := decide_eq_false (by omega)
      have hCe := Lib.hid (CellsAt.kept HC1.out (hTr.out.block rb (HC1.out.lt) hne))
      have hVe := Lib.hid (Ty.kept _ HV.out (hTr.out.kept.mono (fun b hb => by subst hb; exact .inl HK.out.mo)))
      have hAe := Lib.hid (Own.kept hE.out.2.1 (hTr.out.kept.mono (fun b hb => by subst hb; exact hoB)) (fun g hg => hTr.out.block g (hE.out.2.1.lt hg).2 (fun e => by have := (hE.out.2.1.lt hg).1; omega)))
      have hTe := Lib.hid (hE.out.2.2.trans (hTr.out.mono (fun b _ hb => .inr (.inl hb))))
      go_wp2
      refine bodyPost_end (results_none rfl _ _ _) rfl ?_
      exact ⟨rfl, ⟨e2, v', x, vw, ra, rn, rc, cm, ta, tn, tc, ya, yn, yc, id, nm, hCe.out, hVe.out, hCr.out, hAe.out, H1.out, H2.out, fun h => by simp at h⟩, hTe.out⟩
end Go.Proofs.Ythflkfgiclcdiaa

namespace Go.Proofs.Ythflkfgiclcdiaa
open Go.RowKit Go.Gr
set_option linter.unusedSimpArgs false
set_option linter.unusedVariables false
theorem splitLoop_small (b : List UInt8) : ∀ (n : Nat) (out : List (List UInt8)) (k : Nat), k ≤ b.length → out.length ≤ k → (∀ p ∈ out, p.length ≤ b.length) → (splitLoop b n out k 0).2.2 = 0 →
    (splitLoop b n out k 0).1.length ≤ b.length ∧ ∀ p ∈ (splitLoop b n out k 0).1, p.length ≤ b.length
  | 0, out, k, hk, ho, hp, _ => ⟨Nat.le_trans ho hk, hp⟩
  | n + 1, out, k, hk, ho, hp, h => by
    rw [splitLoop, if_pos rfl] at h ⊢
    by_cases h0 : (textF b k 0).2.2 = 0
    · have h1 := textF_on hk h0
      have h2 := (textF_le (b := b) (k := k) 0 hk).2
      rw [h0] at h ⊢
      refine splitLoop_small b n _ _ h2 (by simp; omega) (fun p hp' => ?_) h
      rcases List.mem_append.1 hp' with hp' | hp'
      · exact hp p hp'
      · obtain rfl : p = (textF b k 0).1 := by simpa using hp'
        unfold textF
        split
        · simp
        · split
          · simp
          · simp only [List.length_take, List.length_drop]
            omega
    · rw [splitLoop_end (.inr h0)] at h
      exact absurd h h0
theorem splitF_small (b : List UInt8) : (splitF b).1.length ≤ b.length ∧ ∀ p ∈ (splitF b).1, p.length ≤ b.length := by
  unfold splitF
  simp only
  split
  · simp
  · rename_i h
    split
    · simp
    · have hk := (numF_le (b := b) (k := 0) 0 (Nat.zero_le _)).2.1
      by_cases h0 : (numF b 0 0).2.2 = 0
      · have h' : (splitLoop b (numF b 0 0).1 [] (numF b 0 0).2.1 (numF b 0 0).2.2).2.2 = 0 := by omega
        rw [h0] at h' ⊢
        exact splitLoop_small b _ [] _ hk (by simp) (by simp) h'
      · rw [splitLoop_end (.inr h0)] at h
        exact absurd h0 (by simpa using h)
/-- Parts of no great length. -/
def PB (ps : List (List UInt8)) : Prop := ∀ p ∈ ps, p.length ≤ 4294967296
theorem PB.next {ps : List (List UInt8)} (h : PB ps) (e : Int) : PB (nextF ps e).2.1 ∧ (nextF ps e).1.length ≤ 4294967296 := by
  unfold nextF
  split
  · exact ⟨h, by simp⟩
  · split
    · exact ⟨fun p hp => by simp at hp, by simp⟩
    · rename_i p r
      exact ⟨fun q hq => h q (List.mem_cons_of_mem _ hq), h p (List.mem_cons_self ..)⟩
theorem truthF_next (ps : List (List UInt8)) (e : Int) : (truthF ps e).2.1 = (nextF ps e).2.1 := by
  unfold truthF
  split
  · rfl
  · split
    · rfl
    · split <;> rfl
/-- What is known of the letters that a record of one shard has. -/
def LetRel (f : Int) (ps : List (List UInt8)) (e : Int) (ws : List DWrite) (ps' : List (List UInt8)) (e' : Int) (ws' : List DWrite) : Prop :=
  (f = 84 → ps' = (someF 3 ps e).2.1 ∧ e' = (someF 3 ps e).2.2 ∧ ws' = ws) ∧ (f = 87 → ps' = (rdW ps e).2.1 ∧ e' = (rdW ps e).2.2 ∧ ws' = (rdW ps e).1.map wrOf) ∧ (f = 65 → ps' = (nextF ps e).2.1 ∧ e' = (nextF ps e).2.2 ∧ ws' = ws)
theorem rcField_any {f : Int} {W : World} {M : Nat → Prop} {B rb ob : Nat} {kind : Int} {ps : List (List UInt8)} {e : Int} {ws : List DWrite} {fw fr fs : Bool} (hf : f = 84 ∨ f = 87 ∨ f = 82 ∨ f = 67 ∨ f = 83 ∨ f = 65 ∨ f = 73 ∨ f = 78)
    (h : RS W M B rb ob kind ps e ws fw fr fs) (K : RK M B rb ob) (hB : B ≤ W.heap.size) (hp : PB ps) (h1 : f = 87 → fw = true) (h2 : f = 82 → fr = true) (h3 : f = 83 → fs = true) :
    Calls Try.prog 111 #[.pointer (some ⟨rb, 0, none⟩), .pointer (some ⟨ob, 0, none⟩), .int .i32 f] W fun y w' => y = .returned (.tuple #[]) ∧
      (∃ ps' e' ws' fw' fr' fs', RS w' M B rb ob kind ps' e' ws' fw' fr' fs' ∧ PB ps' ∧ LetRel f ps e ws ps' e' ws' ∧ (f ≠ 87 → fw' = fw) ∧ (f ≠ 82 → fr' = fr) ∧ (f ≠ 83 → fs' = fs)) ∧ TB B rb ob W w' := by
  have hn := hp.next e
  have hsp : (splitF (nextF ps e).1).1.length ≤ 4294967296 := Nat.le_trans (splitF_small _).1 hn.2
  rcases hf with rfl | rfl | rfl | rfl | rfl | rfl | rfl | rfl
  · refine (rcField_T h K hB).mono ?_
    rintro y w' ⟨hy, hr, ht⟩
    exact ⟨hy, ⟨_, _, _, _, _, _, hr, hn.1, ⟨fun _ => ⟨rfl, rfl, rfl⟩, fun h => absurd h (by decide), fun h => absurd h (by decide)⟩, fun _ => rfl, fun _ => rfl, fun _ => rfl⟩, ht⟩
  · obtain rfl := h1 rfl
    refine (rcField_W (fw := true) h K hB hsp).mono ?_
    rintro y w' ⟨hy, hr, ht⟩
    exact ⟨hy, ⟨_, _, _, _, _, _, hr, hn.1, ⟨fun h => absurd h (by decide), fun _ => ⟨rfl, rfl, rfl⟩, fun h => absurd h (by decide)⟩, fun h => absurd rfl h, fun _ => rfl, fun _ => rfl⟩, ht⟩
  · obtain rfl := h2 rfl
    refine (rcField_R (fr := true) h K hB hsp).mono ?_
    rintro y w' ⟨hy, hr, ht⟩
    exact ⟨hy, ⟨_, _, _, _, _, _, hr, hn.1, ⟨fun h => absurd h (by decide), fun h => absurd h (by decide), fun h => absurd h (by decide)⟩, fun _ => rfl, fun h => absurd rfl h, fun _ => rfl⟩, ht⟩
  · refine (rcField_C h K hB).mono ?_
    rintro y w' ⟨hy, hr, ht⟩
    exact ⟨hy, ⟨_, _, _, _, _, _, hr, by rw [truthF_next]; exact hn.1, ⟨fun h => absurd h (by decide), fun h => absurd h (by decide), fun h => absurd h (by decide)⟩, fun _ => rfl, fun _ => rfl, fun _ => rfl⟩, ht⟩
  · obtain rfl := h3 rfl
    refine (rcField_S (fs := true) h K hB).mono ?_
    rintro y w' ⟨hy, ⟨e2, hr⟩, ht⟩
    exact ⟨hy, ⟨_, _, _, _, _, _, hr, hn.1, ⟨fun h => absurd h (by decide), fun h => absurd h (by decide), fun h => absurd h (by decide)⟩, fun _ => rfl, fun _ => rfl, fun h => absurd rfl h⟩, ht⟩
  · refine (rcField_A h K hB).mono ?_
    rintro y w' ⟨hy, hr, ht⟩
    exact ⟨hy, ⟨_, _, _, _, _, _, hr, hn.1, ⟨fun h => absurd h (by decide), fun h => absurd h (by decide), fun _ => ⟨rfl, rfl, rfl⟩⟩, fun _ => rfl, fun _ => rfl, fun _ => rfl⟩, ht⟩
  · refine (rcField_I h K hB).mono ?_
    rintro y w' ⟨hy, hr, ht⟩
    exact ⟨hy, ⟨_, _, _, _, _, _, hr, hn.1, ⟨fun h => absurd h (by decide), fun h => absurd h (by decide), fun h => absurd h (by decide)⟩, fun _ => rfl, fun _ => rfl, fun _ => rfl⟩, ht⟩
  · refine (rcField_N h K hB).mono ?_
    rintro y w' ⟨hy, hr, ht⟩
    exact ⟨hy, ⟨_, _, _, _, _, _, hr, hn.1, ⟨fun h => absurd h (by decide), fun h => absurd h (by decide), fun h => absurd h (by decide)⟩, fun _ => rfl, fun _ => rfl, fun _ => rfl⟩, ht⟩
/-- The letters of a kind. -/
def fieldsL (k : Nat) : List UInt8 :=
  if k = 1 then [84, 87, 82] else if k = 2 ∨ k = 3 ∨ k = 9 then [84] else if k = 4 then [84, 87, 65] else if k = 5 ∨ k = 7 ∨ k = 8 then [73, 78] else if k = 6 then [84, 67, 83, 65] else []
/-- None of the letters behind is one of those ahead. -/
def freeOf (s : List UInt8) (j : Nat) (f : UInt8) : Bool := !(s.take j).contains f
def okL (s : List UInt8) : Bool := (List.range s.length).all fun j => (freeOf s j (s[j]?.getD 0)) && [84, 87, 82, 67, 83, 65, 73, 78].contains (s[j]?.getD 0)
theorem fieldsL_ok (k : Nat) : okL (fieldsL k) = true := by
  unfold fieldsL
  repeat' split
  all_goals decide
theorem okL_at {s : List UInt8} (h : okL s = true) {j : Nat} (hj : j < s.length) : freeOf s j s[j] = true ∧ (s[j] = 84 ∨ s[j] = 87 ∨ s[j] = 82 ∨ s[j] = 67 ∨ s[j] = 83 ∨ s[j] = 65 ∨ s[j] = 73 ∨ s[j] = 78) := by
  have := List.all_eq_true.1 h j (List.mem_range.2 hj)
  rw [Bool.and_eq_true, List.getElem?_eq_getElem hj] at this
  simpa using this
theorem freeOf_succ {s : List UInt8} {j : Nat} (hj : j < s.length) {f : UInt8} (h : freeOf s (j + 1) f = true) : freeOf s j f = true ∧ s[j] ≠ f := by
  unfold freeOf at h ⊢
  rw [List.take_succ_eq_append_getElem hj] at h
  simp only [List.contains_eq_mem, List.mem_append, List.mem_singleton, Bool.not_eq_true', decide_eq_false_iff_not, not_or] at h ⊢
  exact ⟨h.1, fun e => h.2 e.symm⟩
set_option maxRecDepth 100000 in
set_option maxHeartbeats 2000000 in
theorem recFields_ (w : World) (k : Nat) : Calls Try.prog 110 #[.int .i64 (k : Int)] w fun e w' => e = .returned (.string ⟨(fieldsL k).toArray⟩) ∧ w' = w := by
  by_cases hk : 1 ≤ k ∧ k ≤ 9
  · have : k = 1 ∨ k = 2 ∨ k = 3 ∨ k = 4 ∨ k = 5 ∨ k = 6 ∨ k = 7 ∨ k = 8 ∨ k = 9 := by omega
    rcases this with rfl | rfl | rfl | rfl | rfl | rfl | rfl | rfl | rfl
    all_goals go_enter Try.func110, Try.ntmps110
    all_goals go_wp2
    all_goals go_ret
    all_goals exact ⟨rfl, rfl⟩
  · have h1 : ((k : Int) == 1) = false := beq_eq_false_iff_ne.2 (by omega)
    have h2 : ((k : Int) == 2) = false := beq_eq_false_iff_ne.2 (by omega)
    have h3 : ((k : Int) == 3) = false := beq_eq_false_iff_ne.2 (by omega)
    have h4 : ((k : Int) == 4) = false := beq_eq_false_iff_ne.2 (by omega)
    have h5 : ((k : Int) == 5) = false := beq_eq_false_iff_ne.2 (by omega)
    have h6 : ((k : Int) == 6) = false := beq_eq_false_iff_ne.2 (by omega)
    have h7 : ((k : Int) == 7) = false := beq_eq_false_iff_ne.2 (by omega)
    have h8 : ((k : Int) == 8) = false := beq_eq_false_iff_ne.2 (by omega)
    have h9 : ((k : Int) == 9) = false := beq_eq_false_iff_ne.2 (by omega)
    have hF : fieldsL k = [] := by
      unfold fieldsL
      rw [if_neg (by omega), if_neg (by omega), if_neg (by omega), if_neg (by omega), if_neg (by omega)]
    rw [hF]
    clear hk hF
    go_enter Try.func110, Try.ntmps110
    go_wp2
    go_ret
    exact ⟨rfl, rfl⟩
theorem next_letter {P : Program} (w : World) (k j : Nat) (l : List UInt8) (ty : TypeId) (hk : w.heap[k]? = some (.stringIter ⟨l.toArray⟩ j)) (hj : j < l.length) (h : (l[j]).toNat < 128) :
    (Instr.next (.pointer (some ⟨k, 0, none⟩)) true ty).run P w = .ok (.tuple #[.bool true, .int .i64 j, .int .i32 ((l[j]).toNat : Int)]) (w.iterAt k ⟨l.toArray⟩ (j + 1)) := by
  have hz : j < (⟨l.toArray⟩ : ByteArray).size := by simpa [ByteArray.size] using hj
  have he : ((⟨l.toArray⟩ : ByteArray)[j]'hz) = l[j] := by
    show l.toArray[j] = l[j]
    simp
  rw [Lib.run_next_ascii_at w k ⟨l.toArray⟩ j ty hk hz (by rw [he]; exact h), he]
theorem next_letter_end {P : Program} (w : World) (k : Nat) (l : List UInt8) (ty : TypeId) (hk : w.heap[k]? = some (.stringIter ⟨l.toArray⟩ l.length)) :
    (Instr.next (.pointer (some ⟨k, 0, none⟩)) true ty).run P w = .ok (.tuple #[.bool false]) w :=
  Lib.run_next_end_at w k ⟨l.toArray⟩ l.length ty hk (by simp [ByteArray.size])
end Go.Proofs.Ythflkfgiclcdiaa
