/-
  Walk: Split, at small parts.
  Walk: ToReply, at small replies without rows.
-/
import Derived.Test.YthflkfgiclcdiaaZP10
import Derived.Laws.ResultCell
namespace Go.Proofs.Ythflkfgiclcdiaa
open Go.RowKit Go.Gr
set_option linter.unusedSimpArgs false
def tsB (ps : List (List UInt8)) : List UInt8 := ps.flatMap fun p => UInt8.ofNat p.length :: p
/-- Small parts as one list. -/
def smallB (ps : List (List UInt8)) : List UInt8 := UInt8.ofNat ps.length :: tsB ps
structure Small (ps : List (List UInt8)) : Prop where
  count : ps.length ≤ 247
  parts : ∀ p ∈ ps, p.length ≤ 247
theorem ofNat_small {n : Nat} (h : n ≤ 247) : (UInt8.ofNat n).toNat = n := by rw [UInt8.toNat_ofNat']; omega
theorem tsB_append (ps qs : List (List UInt8)) : tsB (ps ++ qs) = tsB ps ++ tsB qs := by simp [tsB]
theorem tsB_cons (p : List UInt8) (ps : List (List UInt8)) : tsB (p :: ps) = UInt8.ofNat p.length :: (p ++ tsB ps) := by simp [tsB]
theorem smallB_split {ps : List (List UInt8)} {j : Nat} (h : j < ps.length) : smallB ps = (UInt8.ofNat ps.length :: tsB (ps.take j)) ++ (UInt8.ofNat ps[j].length :: (ps[j] ++ tsB (ps.drop (j + 1)))) := by
  have h1 : ps = ps.take j ++ (ps[j] :: ps.drop (j + 1)) := by rw [← List.drop_eq_getElem_cons h, List.take_append_drop]
  have h2 : tsB ps = tsB (ps.take j) ++ (UInt8.ofNat ps[j].length :: (ps[j] ++ tsB (ps.drop (j + 1)))) := by
    have h3 := congrArg tsB h1
    rw [tsB_append, tsB_cons] at h3
    exact h3
  unfold smallB
  rw [h2]
  rfl
def posB (ps : List (List UInt8)) (j : Nat) : Nat := 1 + (tsB (ps.take j)).length
theorem posB_at {ps : List (List UInt8)} {j : Nat} (hs : Small ps) (h : j < ps.length) :
    ∃ hk : posB ps j < (smallB ps).length, (smallB ps)[posB ps j].toNat = ps[j].length ∧ posB ps j + 1 + ps[j].length ≤ (smallB ps).length ∧ ((smallB ps).drop (posB ps j + 1)).take ps[j].length = ps[j] ∧ posB ps (j + 1) = posB ps j + 1 + ps[j].length := by
  have h1 := smallB_split h
  have h2 : (UInt8.ofNat ps.length :: tsB (ps.take j)).length = posB ps j := by simp [posB]; omega
  have hlen : (smallB ps).length = posB ps j + 1 + ps[j].length + (tsB (ps.drop (j + 1))).length := by
    rw [h1, List.length_append, h2]
    simp
    omega
  have hnext : posB ps (j + 1) = posB ps j + 1 + ps[j].length := by
    unfold posB
    rw [List.take_succ_eq_append_getElem h, tsB_append]
    simp [tsB]
    omega
  refine ⟨by omega, ?_, by omega, ?_, hnext⟩
  · have h3 : (smallB ps)[posB ps j]? = some (UInt8.ofNat ps[j].length) := by
      rw [h1, List.getElem?_append_right (by rw [h2]; exact Nat.le_refl _), h2]
      simp
    have h4 : (smallB ps)[posB ps j]'(by omega) = UInt8.ofNat ps[j].length := by
      rw [List.getElem?_eq_getElem (by omega)] at h3
      exact Option.some.inj h3
    rw [h4]
    exact ofNat_small (hs.parts _ (List.getElem_mem h))
  · rw [h1, List.drop_append, h2]
    rw [List.drop_of_length_le (by rw [h2]; omega), List.nil_append]
    rw [show posB ps j + 1 - posB ps j = 1 by omega]
    simp
theorem posB_end (ps : List (List UInt8)) : posB ps ps.length = (smallB ps).length := by
  simp [posB, smallB]
  omega
set_option maxRecDepth 100000 in
set_option maxHeartbeats 2000000 in
theorem pSplit_small {w : World} {M : Nat → Prop} {v : Value} {ps : List (List UInt8)} (hs : Small ps) (h : Ty.bytes.rep w M [v] (smallB ps)) :
    Calls Try.prog 80 #[v] w fun e w' => ∃ v', e = .returned (.tuple #[v', .int .i64 0]) ∧ (Ty.slice Ty.bytes).rep w' (fun _ => False) [v'] ps ∧ Step w w' := by
  have hlen := Ty.slice_le h
  rw [lim_eq] at hlen
  have H := Lib.hid h
  have HS := Lib.hid hs
  clear h hs
  have hcount : ps.length ≤ 247 := HS.out.count
  have h0 : (smallB ps)[0]'(by simp [smallB]) = UInt8.ofNat ps.length := rfl
  have H0 := Lib.hid h0
  clear h0
  go_enter Try.func80, Try.ntmps80
  go_wp2_with (first
    | (go_at_call 104; refine (rdRead_ H.out).mono ?_; rintro e w1 ⟨rb, v1, rfl, hC1, hR1, hS1, hrb1⟩; obtain ⟨a1, c1, rfl, _⟩ := Ty.slice_val hR1; have HC1 := Lib.hid hC1; have HR1 := Lib.hid hR1; clear hC1 hR1)
    | (go_at_call 105; refine (rdNum_small HC1.out HR1.out (k := 0) (by simp [smallB]) (by rw [H0.out, ofNat_small hcount]; exact hcount)).mono ?_; rintro e w2 ⟨rfl, hC2, hT2⟩; rw [H0.out, ofNat_small hcount]; have HC2 := Lib.hid hC2; have HT2 := Lib.hid hT2; clear hC2 hT2))
  have hrbl := HC2.out.lt
  have hrbw : w.heap.size ≤ rb := hrb1
  have HR2 := Lib.hid (Ty.kept _ HR1.out HT2.out.kept)
  have hS2 : Step w w2 := Turn.step hS1 HT2.out (fun b hb => by subst hb; exact hrb1)
  clear HC1 HR1 HT2 hS1 hrb1
  go_loopw [5, 6] (fun o n w' => ∃ j : Nat, n = .int .u64 ((ps.length - j : Nat) : Int) ∧ j ≤ ps.length ∧ RdAt w' rb (.slice a1 (smallB ps).length c1) (posB ps j) 0 ∧ Own Ty.bytes 42 w' (· = rb) w2.heap.size o (ps.take j) ∧ Turn (· = rb) w2 w') (fun _ n _ => (Go.RowKit.intOf n).toNat)
  case atStart => exact ⟨0, rfl, by omega, HC2.out, Own.nil, Turn.refl _ _⟩
  case round =>
    obtain ⟨j, rfl, hj, hC, hA, hT⟩ := hrel
    have HC := Lib.hid hC
    have HA := Lib.hid hA
    have HT := Lib.hid hT
    have p2 : wr.cell? ⟨rb, 2, none⟩ = some (.int .i64 0) := hC.cell 2
    have hrbr := hC.lt
    clear hC hA hT
    have HR := Lib.hid (Ty.kept _ HR2.out HT.out.kept)
    have hz2 := HT.out.size
    by_cases hlt : j < ps.length
    · obtain ⟨hk, hat, hk2, htake, hnext⟩ := posB_at HS.out hlt
      have hpl : ps[j].length ≤ 247 := HS.out.parts _ (List.getElem_mem hlt)
      have HX := Lib.hid (rdText_small HC.out HR.out hk hat hpl hk2)
      rw [htake, ← hnext] at HX
      have htk : Hid (ps.take (j + 1) = ps.take j ++ [ps[j]]) := Lib.hid (List.take_succ_eq_append_getElem hlt)
      clear hk hat hk2 htake hnext hpl
      obtain ⟨d, hd⟩ : ∃ d, ps.length - j = d + 1 := ⟨ps.length - j - 1, by omega⟩
      have hpos : decide ((0 : Int) < ((ps.length - j : Nat) : Int)) = true := decide_eq_true (by omega)
      have HD := Lib.hid hd
      have hdb : ps.length - j ≤ 247 := by omega
      have hdj : Hid (ps.length - (j + 1) = ps.length - j - 1) := Lib.hid (by omega)
      generalize ps.length - j = dd at *
      have hdd : 0 < dd := by omega
      have hsub : IntKind.u64.wrap ((dd : Int) - 1) = ((dd - 1 : Nat) : Int) := by rw [wrap_u64]; omega
      go_wp2_with (first
        | (go_at_call 106; refine HX.out.mono ?_; rintro e w3 ⟨v3, rfl, hA3, hC3, hT3⟩; obtain ⟨b3, n3, m3, rfl, HN3⟩ := hA3.valN; have z3 := hT3.size; have HA3 := Lib.hid hA3; have HC3 := Lib.hid hC3; have HT3 := Lib.hid hT3; have HO3 := Lib.hid (Own.kept HA.out HT3.out.kept (fun g hg => hT3.block g (HA.out.lt hg).2 (fun e => absurd (HA.out.lt hg).1 (by omega)))); clear hA3 hC3 hT3)
        | (at_builtin; refine wpList_append_gen (E := Ty.bytes) (B := w2.heap.size) (M := (· = rb)) (ys := [ps[j]]) rfl (.tmp 23) (.tmp 26) rfl stList (Own.step HO3.out (by (repeat (first | exact Step.refl _ | refine Step.alloc ?_ _ | refine Step.drew ?_ | refine Step.drewN ?_ _ | refine Step.setCell ?_ (by first | exact Nat.le_refl _ | assumption | omega | (simp; done) | (simp; omega)) _ | assumption | refine Step.trans ?_ (by assumption : Step _ _))))) (Src.oneAt (E := Ty.bytes) (y := ps[j]) (by simp) (Own.rep' (Own.flat Ty.flat_byte HA3.out) (fun b hb hm => by have h1 := (HA3.out.lt hb).1; (rcases hm with hm | hm; (have h3 : b = rb := hm; omega); (have h2 := (HA.out.lt hm).2; omega))))) (by rw [List.length_take, lim_eq]; simp; omega) (by first | assumption | omega | (simp; done) | (simp; omega)) rfl rfl ?_; intro v4 w4 hA4 hG4 hn4; have hC4 := (CellsAt.step HC3.out (by (repeat (first | exact Step.refl _ | refine Step.alloc ?_ _ | refine Step.drew ?_ | refine Step.drewN ?_ _ | refine Step.setCell ?_ (by first | exact Nat.le_refl _ | assumption | omega | (simp; done) | (simp; omega)) _ | assumption | refine Step.trans ?_ (by assumption : Step _ _))) : Step w3 _)).kept (hG4.block rb (by first | assumption | omega | (simp; done) | (simp; omega)) (fun e => absurd (HA.out.lt e.symm).1 (by omega))); have HA4 := Lib.hid hA4; have HC4 := Lib.hid hC4; have HT4 := Lib.hid (Turn.grown ((HT.out.trans HT3.out).then (by (repeat (first | exact Step.refl _ | refine Step.alloc ?_ _ | refine Step.drew ?_ | refine Step.drewN ?_ _ | refine Step.setCell ?_ (by first | exact Nat.le_refl _ | assumption | omega | (simp; done) | (simp; omega)) _ | assumption | refine Step.trans ?_ (by assumption : Step _ _))))) hG4 (fun g hg h => absurd (HA.out.lt hg).1 (by omega))); clear hA4 hG4 hC4))
      go_roundw
      case rel =>
        refine ⟨j + 1, ?_, by omega, HC4.out, by rw [htk.out]; exact HA4.out, HT4.out⟩
        rw [hdj.out, show dd - 1 = d by omega]
      case measure => simp [Go.RowKit.intOf]; omega
    · obtain rfl : j = ps.length := by omega
      have hn0 : ps.length - ps.length = 0 := Nat.sub_self _
      have hkl : posB ps ps.length = (smallB ps).length := posB_end ps
      rw [hkl] at HC
      have HA1 : Hid (Own Ty.bytes 42 wr (· = rb) w2.heap.size u5 ps) := Lib.hid (by simpa using HA.out)
      obtain ⟨a5, n5, c5, rfl, HN5⟩ := HA1.out.valN
      simp only [Nat.sub_self]
      clear hkl
      go_wp2_with (go_at_call 107; refine (rdClose_ HC.out hlen).mono ?_; rintro e w5 ⟨rfl, m5, rfl⟩)
      go_ret2
      refine ⟨_, rfl, Ty.step _ (Own.rep' (HA1.out.less (fun _ _ h => h.elim)) (fun _ _ h => h)) ((Step.refl _).drewN _), (Turn.step hS2 HT.out (fun b hb => by subst hb; exact hrbw)).drewN _⟩
end Go.Proofs.Ythflkfgiclcdiaa

namespace Go.Proofs.Ythflkfgiclcdiaa
open Go.RowKit Go.Gr
set_option linter.unusedSimpArgs false
theorem results_row_tmp {P : Program} {fn : Func} {p u : Tmp} {ty : TypeId} (h : fn.results = #[.cell p ty, .tmp u]) (tmps : Array Value) (w : World) (g : Nat) (t : TypeId) (cs : Array Value) (d : TypeDesc)
    (hp : tmps.getD p undef = .pointer (some ⟨g, 0, none⟩)) (hg : CellsAt w g cs t) (hu : P.underlying ty = some d) (hd : (match d with | .struct _ | .array _ _ => true | _ => false) = true) (hi : (P.info? ty).map (·.size) = some cs.size) :
    (results fn tmps).run P w = .ok (.tuple #[.agg cs, tmps.getD u undef]) w := by
  rw [results_cell_tmp h, hp]
  simp [asAddr, run_loadVar_row w g t ty cs (0, 0) d hg hu hd hi, Result.andThen]
theorem numB_small {n : Nat} (h : n ≤ 247) : numB n = [UInt8.ofNat n] := if_pos h
theorem joinB_small {ps : List (List UInt8)} (h : Small ps) : joinB ps = smallB ps := by
  have key : ∀ qs : List (List UInt8), (∀ p ∈ qs, p.length ≤ 247) → textB qs = tsB qs := by
    intro qs
    induction qs with
    | nil => intro _; rfl
    | cons q qs ih =>
      intro hq
      have h1 := ih (fun p hp => hq p (by simp [hp]))
      rw [tsB_cons, ← h1]
      simp only [textB, List.flatMap_cons]
      rw [numB_small (hq q (by simp))]
      simp
  unfold joinB smallB
  rw [numB_small h.count, key ps h.parts]
  rfl
theorem small_two (e t : UInt8) : Small [[e], [t]] := ⟨by simp, fun p hp => by simp at hp; rcases hp with rfl | rfl <;> simp⟩
set_option maxRecDepth 100000 in
set_option maxHeartbeats 2000000 in
theorem ToReply_small {w : World} {M : Nat → Prop} {v : Value} {e t : UInt8} (he : e.toNat ≤ 247) (ht : t.toNat ≤ 247) (h : Ty.bytes.rep w M [v] (smallB [[e], [t]])) :
    Calls Try.prog 42 #[v] w fun x w' => x = .returned (.tuple #[.agg #[.int .i64 (e.toNat : Int), .int .i64 (t.toNat : Int), .slice none 0 0, .slice none 0 0], .int .i64 0]) ∧ Step w w' := by
  have H := Lib.hid h
  clear h
  go_enter Try.func42, Try.ntmps42
  go_upto_region 2 with (go_at_call 80; refine (pSplit_small (small_two e t) (Ty.step _ H.out (by (repeat (first | exact Step.refl _ | refine Step.alloc ?_ _ | refine Step.drew ?_ | refine Step.drewN ?_ _ | refine Step.setCell ?_ (by first | exact Nat.le_refl _ | assumption | omega | (simp; done) | (simp; omega)) _ | assumption | refine Step.trans ?_ (by assumption : Step _ _)))))).mono ?_; rintro x w1 ⟨v1, rfl, hR1, hS1⟩; have HR1 := Lib.hid hR1; clear hR1)
  obtain ⟨a1, c1, rfl, hc1, _⟩ := Ty.slice_val HR1.out
  obtain ⟨b1, o1, u0, rfl, hb1, _, hu0, q0⟩ := Ty.slice_at1 rfl HR1.out (k := 0) (by simp)
  obtain ⟨b2, o2, u1, hbb, _, _, hu1, q1⟩ := Ty.slice_at1 rfl HR1.out (k := 1) (by simp)
  obtain ⟨rfl, rfl⟩ : b1 = b2 ∧ o1 = o2 := by
    simp only [Option.some.injEq, Addr.mk.injEq, and_true] at hbb
    exact hbb
  simp only [List.getElem_cons_zero, List.getElem_cons_succ, List.length_cons, List.length_nil, Nat.zero_add, Nat.add_zero, Nat.reduceAdd] at hu0 hu1 q0 hc1 ⊢
  obtain ⟨a3, c3, rfl, _⟩ := Ty.slice_val hu0
  obtain ⟨a4, c4, rfl, _⟩ := Ty.slice_val hu1
  have HU0 := Lib.hid hu0
  have HU1 := Lib.hid hu1
  simp only [List.length_cons, List.length_nil, Nat.zero_add] at q0 q1 HU0 HU1
  clear hu0 hu1 hbb
  have hz1 := hS1.size
  simp only [World.size_alloc] at hz1
  have hS1' : Step w w1 := Step.trans ((Step.refl _).alloc _) hS1
  have hres : CellsAt w1 w.heap.size #[.int .i64 0, .int .i64 0, .slice none 0 0, .slice none 0 0] 41 := (CellsAt.new rfl).step hS1
  have HRES := Lib.hid hres
  clear hres
  obtain ⟨A, hA⟩ : ∃ A, (if c1 = 2 then some (⟨b1, o1, none⟩ : Addr) else some ⟨b1, o1 + 2, none⟩) = A := ⟨_, rfl⟩
  have hc2 : (2 : Int) ≤ (c1 : Int) := by omega
  go_upto_region 7 with (go_at_call 81; refine (bNumber_small HU0.out he).mono ?_; rintro x w2 ⟨rfl, rfl⟩)
  go_upto_region 8 with (go_at_call 81; refine (bNumber_small HU1.out ht).mono ?_; rintro x w2 ⟨rfl, rfl⟩)
  have hres2 := HRES.out
  have r0 : w2.cell? ⟨w.heap.size, 0, none⟩ = some (.int .i64 0) := hres2.cell 0
  have r1 : w2.cell? ⟨w.heap.size, 1, none⟩ = some (.int .i64 0) := hres2.cell 1
  have r2 : w2.cell? ⟨w.heap.size, 2, none⟩ = some (.slice none 0 0) := hres2.cell 2
  have r3 : w2.cell? ⟨w.heap.size, 3, none⟩ = some (.slice none 0 0) := hres2.cell 3
  have f0 : w2.frozen? ⟨w.heap.size, 0, none⟩ = false := hres2.frozen 0
  have f1 : w2.frozen? ⟨w.heap.size, 1, none⟩ = false := hres2.frozen 1
  have f2 : w2.frozen? ⟨w.heap.size, 2, none⟩ = false := hres2.frozen 2
  have f3 : w2.frozen? ⟨w.heap.size, 3, none⟩ = false := hres2.frozen 3
  have hwl := hres2.lt
  clear hres2
  go_wp2
  refine wp_loop_rounds 1 ?_
  rw [rounds_succ]
  go_wp2
  have hfin := (((HRES.out.set 0 (.int .i64 (e.toNat : Int))).set 1 (.int .i64 (t.toNat : Int))).set 2 (.slice none 0 0)).set 3 (.slice none 0 0)
  refine bodyPost_ret (v := .tuple #[.agg #[.int .i64 (e.toNat : Int), .int .i64 (t.toNat : Int), .slice none 0 0, .slice none 0 0], .int .i64 0]) ?_ rfl ⟨rfl, ?_⟩
  · refine (results_row_tmp Try.results42 _ _ w.heap.size 41 #[.int .i64 (e.toNat : Int), .int .i64 (t.toNat : Int), .slice none 0 0, .slice none 0 0] _ ?_ ?_ Try.underlying41 rfl (by kernel_rfl)).trans ?_
    · rfl
    · exact hfin.step ((Step.refl _).alloc _)
    · rfl
  exact ((((hS1'.setCell (Nat.le_refl _) _).setCell (Nat.le_refl _) _).setCell (Nat.le_refl _) _).setCell (Nat.le_refl _) _).alloc _
end Go.Proofs.Ythflkfgiclcdiaa
