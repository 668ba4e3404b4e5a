/-
  Walk: Split, at small parts.
-/
import Derived.Test.YthflkfgiclcdiaaGreatW22
namespace Go.Proofs.YthflkfgiclcdiaaGreat
open Go.RowKit Go.Gr
set_option linter.unusedSimpArgs false
def tsB (ps : List (List UInt8)) : List UInt8 := ps.flatMap fun p => UInt8.ofNat p.length :: p
/-- Small parts as one list. -/
def smallB (ps : List (List UInt8)) : List UInt8 := UInt8.ofNat ps.length :: tsB ps
structure Small (ps : List (List UInt8)) : Prop where
  count : ps.length ≤ 247
  parts : ∀ p ∈ ps, p.length ≤ 247
theorem ofNat_small {n : Nat} (h : n ≤ 247) : (UInt8.ofNat n).toNat = n := by rw [UInt8.toNat_ofNat']; omega
theorem tsB_append (ps qs : List (List UInt8)) : tsB (ps ++ qs) = tsB ps ++ tsB qs := by simp [tsB]
theorem tsB_cons (p : List UInt8) (ps : List (List UInt8)) : tsB (p :: ps) = UInt8.ofNat p.length :: (p ++ tsB ps) := by simp [tsB]
theorem smallB_split {ps : List (List UInt8)} {j : Nat} (h : j < ps.length) : smallB ps = (UInt8.ofNat ps.length :: tsB (ps.take j)) ++ (UInt8.ofNat ps[j].length :: (ps[j] ++ tsB (ps.drop (j + 1)))) := by
  have h1 : ps = ps.take j ++ (ps[j] :: ps.drop (j + 1)) := by rw [← List.drop_eq_getElem_cons h, List.take_append_drop]
  have h2 : tsB ps = tsB (ps.take j) ++ (UInt8.ofNat ps[j].length :: (ps[j] ++ tsB (ps.drop (j + 1)))) := by
    have h3 := congrArg tsB h1
    rw [tsB_append, tsB_cons] at h3
    exact h3
  unfold smallB
  rw [h2]
  rfl
def posB (ps : List (List UInt8)) (j : Nat) : Nat := 1 + (tsB (ps.take j)).length
theorem posB_at {ps : List (List UInt8)} {j : Nat} (hs : Small ps) (h : j < ps.length) :
    ∃ hk : posB ps j < (smallB ps).length, (smallB ps)[posB ps j].toNat = ps[j].length ∧ posB ps j + 1 + ps[j].length ≤ (smallB ps).length ∧ ((smallB ps).drop (posB ps j + 1)).take ps[j].length = ps[j] ∧ posB ps (j + 1) = posB ps j + 1 + ps[j].length := by
  have h1 := smallB_split h
  have h2 : (UInt8.ofNat ps.length :: tsB (ps.take j)).length = posB ps j := by simp [posB]; omega
  have hlen : (smallB ps).length = posB ps j + 1 + ps[j].length + (tsB (ps.drop (j + 1))).length := by
    rw [h1, List.length_append, h2]
    simp
    omega
  have hnext : posB ps (j + 1) = posB ps j + 1 + ps[j].length := by
    unfold posB
    rw [List.take_succ_eq_append_getElem h, tsB_append]
    simp [tsB]
    omega
  refine ⟨by omega, ?_, by omega, ?_, hnext⟩
  · have h3 : (smallB ps)[posB ps j]? = some (UInt8.ofNat ps[j].length) := by
      rw [h1, List.getElem?_append_right (by rw [h2]; exact Nat.le_refl _), h2]
      simp
    have h4 : (smallB ps)[posB ps j]'(by omega) = UInt8.ofNat ps[j].length := by
      rw [List.getElem?_eq_getElem (by omega)] at h3
      exact Option.some.inj h3
    rw [h4]
    exact ofNat_small (hs.parts _ (List.getElem_mem h))
  · rw [h1, List.drop_append, h2]
    rw [List.drop_of_length_le (by rw [h2]; omega), List.nil_append]
    rw [show posB ps j + 1 - posB ps j = 1 by omega]
    simp
theorem posB_end (ps : List (List UInt8)) : posB ps ps.length = (smallB ps).length := by
  simp [posB, smallB]
  omega
set_option maxRecDepth 100000 in
set_option maxHeartbeats 2000000 in
theorem pSplit_small {w : World} {M : Nat → Prop} {v : Value} {ps : List (List UInt8)} (hs : Small ps) (h : Ty.bytes.rep w M [v] (smallB ps)) :
    Calls Tryz.prog 64 #[v] w fun e w' => ∃ v', e = .returned (.tuple #[v', .int .i64 0]) ∧ (Ty.slice Ty.bytes).rep w' (fun _ => False) [v'] ps ∧ Step w w' := by
  have hlen := Ty.slice_le h
  rw [lim_eq] at hlen
  have H := Lib.hid h
  have HS := Lib.hid hs
  clear h hs
  have hcount : ps.length ≤ 247 := HS.out.count
  have h0 : (smallB ps)[0]'(by simp [smallB]) = UInt8.ofNat ps.length := rfl
  have H0 := Lib.hid h0
  clear h0
  go_enter Tryz.func64, Tryz.ntmps64
  go_wp2_with (first
    | (go_at_call 99; refine (rdRead_ H.out).mono ?_; rintro e w1 ⟨rb, v1, rfl, hC1, hR1, hS1, hrb1⟩; obtain ⟨a1, c1, rfl, _⟩ := Ty.slice_val hR1; have HC1 := Lib.hid hC1; have HR1 := Lib.hid hR1; clear hC1 hR1)
    | (go_at_call 100; refine (rdNum_small HC1.out HR1.out (k := 0) (by simp [smallB]) (by rw [H0.out, ofNat_small hcount]; exact hcount)).mono ?_; rintro e w2 ⟨rfl, hC2, hT2⟩; rw [H0.out, ofNat_small hcount]; have HC2 := Lib.hid hC2; have HT2 := Lib.hid hT2; clear hC2 hT2))
  have hrbl := HC2.out.lt
  have hrbw : w.heap.size ≤ rb := hrb1
  have HR2 := Lib.hid (Ty.kept _ HR1.out HT2.out.kept)
  have hS2 : Step w w2 := Turn.step hS1 HT2.out (fun b hb => by subst hb; exact hrb1)
  clear HC1 HR1 HT2 hS1 hrb1
  go_loopw [5, 6] (fun o n w' => ∃ j : Nat, n = .int .u64 ((ps.length - j : Nat) : Int) ∧ j ≤ ps.length ∧ RdAt w' rb (.slice a1 (smallB ps).length c1) (posB ps j) 0 ∧ Own Ty.bytes 22 w' (· = rb) w2.heap.size o (ps.take j) ∧ Turn (· = rb) w2 w') (fun _ n _ => (Go.RowKit.intOf n).toNat)
  case atStart => exact ⟨0, rfl, by omega, HC2.out, Own.nil, Turn.refl _ _⟩
  case round =>
    obtain ⟨j, rfl, hj, hC, hA, hT⟩ := hrel
    have HC := Lib.hid hC
    have HA := Lib.hid hA
    have HT := Lib.hid hT
    have p2 : wr.cell? ⟨rb, 2, none⟩ = some (.int .i64 0) := hC.cell 2
    have hrbr := hC.lt
    clear hC hA hT
    have HR := Lib.hid (Ty.kept _ HR2.out HT.out.kept)
    have hz2 := HT.out.size
    by_cases hlt : j < ps.length
    · obtain ⟨hk, hat, hk2, htake, hnext⟩ := posB_at HS.out hlt
      have hpl : ps[j].length ≤ 247 := HS.out.parts _ (List.getElem_mem hlt)
      have HX := Lib.hid (rdText_small HC.out HR.out hk hat hpl hk2)
      rw [htake, ← hnext] at HX
      have htk : Hid (ps.take (j + 1) = ps.take j ++ [ps[j]]) := Lib.hid (List.take_succ_eq_append_getElem hlt)
      clear hk hat hk2 htake hnext hpl
      obtain ⟨d, hd⟩ : ∃ d, ps.length - j = d + 1 := ⟨ps.length - j - 1, by omega⟩
      have hpos : decide ((0 : Int) < ((ps.length - j : Nat) : Int)) = true := decide_eq_true (by omega)
      have HD := Lib.hid hd
      have hdb : ps.length - j ≤ 247 := by omega
      have hdj : Hid (ps.length - (j + 1) = ps.length - j - 1) := Lib.hid (by omega)
      generalize ps.length - j = dd at *
      have hdd : 0 < dd := by omega
      have hsub : IntKind.u64.wrap ((dd : Int) - 1) = ((dd - 1 : Nat) : Int) := by rw [wrap_u64]; omega
      go_wp2_with (first
        | (go_at_call 101; refine HX.out.mono ?_; rintro e w3 ⟨v3, rfl, hA3, hC3, hT3⟩; obtain ⟨b3, n3, m3, rfl, HN3⟩ := hA3.valN; have z3 := hT3.size; have HA3 := Lib.hid hA3; have HC3 := Lib.hid hC3; have HT3 := Lib.hid hT3; have HO3 := Lib.hid (Own.kept HA.out HT3.out.kept (fun g hg => hT3.block g (HA.out.lt hg).2 (fun e => absurd (HA.out.lt hg).1 (by omega)))); clear hA3 hC3 hT3)
        | (at_builtin; refine wpList_append_gen (E := Ty.bytes) (B := w2.heap.size) (M := (· = rb)) (ys := [ps[j]]) rfl (.tmp 23) (.tmp 26) rfl stList (Own.step HO3.out (by (repeat (first | exact Step.refl _ | refine Step.alloc ?_ _ | refine Step.drew ?_ | refine Step.drewN ?_ _ | refine Step.setCell ?_ (by first | exact Nat.le_refl _ | assumption | omega | (simp; done) | (simp; omega)) _ | assumption | refine Step.trans ?_ (by assumption : Step _ _))))) (Src.oneAt (E := Ty.bytes) (y := ps[j]) (by simp) (Own.rep' (Own.flat Ty.flat_byte HA3.out) (fun b hb hm => by have h1 := (HA3.out.lt hb).1; (rcases hm with hm | hm; (have h3 : b = rb := hm; omega); (have h2 := (HA.out.lt hm).2; omega))))) (by rw [List.length_take, lim_eq]; simp; omega) (by first | assumption | omega | (simp; done) | (simp; omega)) rfl rfl ?_; intro v4 w4 hA4 hG4 hn4; have hC4 := (CellsAt.step HC3.out (by (repeat (first | exact Step.refl _ | refine Step.alloc ?_ _ | refine Step.drew ?_ | refine Step.drewN ?_ _ | refine Step.setCell ?_ (by first | exact Nat.le_refl _ | assumption | omega | (simp; done) | (simp; omega)) _ | assumption | refine Step.trans ?_ (by assumption : Step _ _))) : Step w3 _)).kept (hG4.block rb (by first | assumption | omega | (simp; done) | (simp; omega)) (fun e => absurd (HA.out.lt e.symm).1 (by omega))); have HA4 := Lib.hid hA4; have HC4 := Lib.hid hC4; have HT4 := Lib.hid (Turn.grown ((HT.out.trans HT3.out).then (by (repeat (first | exact Step.refl _ | refine Step.alloc ?_ _ | refine Step.drew ?_ | refine Step.drewN ?_ _ | refine Step.setCell ?_ (by first | exact Nat.le_refl _ | assumption | omega | (simp; done) | (simp; omega)) _ | assumption | refine Step.trans ?_ (by assumption : Step _ _))))) hG4 (fun g hg h => absurd (HA.out.lt hg).1 (by omega))); clear hA4 hG4 hC4))
      go_roundw
      case rel =>
        refine ⟨j + 1, ?_, by omega, HC4.out, by rw [htk.out]; exact HA4.out, HT4.out⟩
        rw [hdj.out, show dd - 1 = d by omega]
      case measure => simp [Go.RowKit.intOf]; omega
    · obtain rfl : j = ps.length := by omega
      have hn0 : ps.length - ps.length = 0 := Nat.sub_self _
      have hkl : posB ps ps.length = (smallB ps).length := posB_end ps
      rw [hkl] at HC
      have HA1 : Hid (Own Ty.bytes 22 wr (· = rb) w2.heap.size u5 ps) := Lib.hid (by simpa using HA.out)
      obtain ⟨a5, n5, c5, rfl, HN5⟩ := HA1.out.valN
      simp only [Nat.sub_self]
      clear hkl
      go_wp2_with (go_at_call 102; refine (rdClose_ HC.out hlen).mono ?_; rintro e w5 ⟨rfl, m5, rfl⟩)
      go_ret2
      refine ⟨_, rfl, Ty.step _ (Own.rep' (HA1.out.less (fun _ _ h => h.elim)) (fun _ _ h => h)) ((Step.refl _).drewN _), (Turn.step hS2 HT.out (fun b hb => by subst hb; exact hrbw)).drewN _⟩
end Go.Proofs.YthflkfgiclcdiaaGreat
