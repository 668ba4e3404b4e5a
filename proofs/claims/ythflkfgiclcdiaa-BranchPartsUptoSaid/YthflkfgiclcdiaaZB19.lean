/-
  Walks: the pairs that writes make (stored), a fixed fact (awake).
-/
import Derived.Test.YthflkfgiclcdiaaZB17
import Derived.Test.YthflkfgiclcdiaaZP9
import Derived.Lib.SmallJoins
set_option linter.unusedVariables false
set_option linter.unusedSimpArgs false

namespace Go.Proofs.Ythflkfgiclcdiaa
open Go.RowKit Go.Gr Go.Sort
set_option linter.unusedSimpArgs false
def storedB (ws : List DWrite) : List DPair := overB [] (ws.take 60)
theorem stored_rising (ws : List DWrite) : RisP (storedB ws) := RisP.over List.Pairwise.nil _
theorem stored_len (ws : List DWrite) : (storedB ws).length ≤ 60 := by
  have h1 := overB_length (l := []) (ws.take 60)
  have h2 : (ws.take 60).length ≤ 60 := by rw [List.length_take]; omega
  unfold storedB
  simp only [List.length_nil] at h1
  omega
set_option maxRecDepth 100000 in
set_option maxHeartbeats 4000000 in
theorem stored_ {w : World} {M : Nat → Prop} {v : Value} {ws : List DWrite} (h : (Ty.slice tWrite).rep w M [v] ws) :
    Calls Try.prog 24 #[v] w fun e w' => ∃ v', e = .returned v' ∧ (Ty.slice tPair).rep w' (fun _ => False) [v'] (storedB ws) ∧ Step w w' := by
  obtain ⟨a, c, rfl, _, _, hl⟩ := Ty.slice_val h
  rw [lim_eq] at hl
  have H := Lib.hid h
  clear h
  go_enter Try.func24, Try.ntmps24
  go_wp2
  go_loopw [3, 4] (fun l i w' => ∃ k : Nat, i = .int .i64 k ∧ k ≤ ws.length ∧ k ≤ 60 ∧ (Ty.slice tPair).rep w' (fun _ => False) [l] (overB [] (ws.take k)) ∧ Step w w') (fun _ i _ => 60 - (Go.RowKit.intOf i).toNat)
  case atStart => exact ⟨0, rfl, by omega, by omega, nil_repG, Step.refl _⟩
  case round =>
    obtain ⟨k, rfl, hk, hk6, hA, hB⟩ := hrel
    obtain ⟨la, lc, hlv, _⟩ := Ty.slice_val hA
    subst hlv
    have HA := Lib.hid hA
    clear hA
    have hlen : (overB [] (ws.take k)).length ≤ 60 := by
      have h1 := overB_length (l := []) (ws.take k)
      rw [List.length_take] at h1
      simp only [List.length_nil] at h1
      omega
    by_cases hlt : k < ws.length
    · have hd1 : decide ((k : Int) < (ws.length : Int)) = true := decide_eq_true (by omega)
      by_cases hl6 : k < 60
      · have hd2 : decide ((k : Int) < 60) = true := decide_eq_true (by omega)
        obtain ⟨pb, po, pes, rfl, phb, _, pu, pcu⟩ := Ty.slice_at H.out hlt
        obtain ⟨pc0, pc1, rfl, ph0, ph1⟩ := pu
        have pq0 := (Step.cell (w' := wr) (by (repeat (first | exact Step.refl _ | refine Step.alloc ?_ _ | refine Step.drew ?_ | refine Step.drewN ?_ _ | refine Step.setCell ?_ (by first | exact Nat.le_refl _ | assumption | omega | (simp; done) | (simp; omega)) _ | assumption | refine Step.trans ?_ (by assumption : Step _ _)))) phb _).trans (pcu 0 _ rfl)
        have pq1 := (Step.cell (w' := wr) (by (repeat (first | exact Step.refl _ | refine Step.alloc ?_ _ | refine Step.drew ?_ | refine Step.drewN ?_ _ | refine Step.setCell ?_ (by first | exact Nat.le_refl _ | assumption | omega | (simp; done) | (simp; omega)) _ | assumption | refine Step.trans ?_ (by assumption : Step _ _)))) phb _).trans (pcu 1 _ rfl)
        have pq2 := (Step.cell (w' := wr) (by (repeat (first | exact Step.refl _ | refine Step.alloc ?_ _ | refine Step.drew ?_ | refine Step.drewN ?_ _ | refine Step.setCell ?_ (by first | exact Nat.le_refl _ | assumption | omega | (simp; done) | (simp; omega)) _ | assumption | refine Step.trans ?_ (by assumption : Step _ _)))) phb _).trans (pcu 2 _ rfl)
        simp only [show tWrite.n = 3 from rfl, Nat.add_zero] at pq0 pq1 pq2
        obtain ⟨pa0, pn0, rfl, _⟩ := Ty.slice_val ph0
        obtain ⟨pa1, pn1, rfl, _⟩ := Ty.slice_val ph1
        have pH0 := Lib.hid ph0
        have pH1 := Lib.hid ph1
        clear pcu ph0 ph1
        have hov : overB [] (ws.take (k + 1)) = putL DPair.key ⟨ws[k].key, ws[k].value⟩ ws[k].gone (overB [] (ws.take k)) := by
          rw [putW_eq (RisP.over List.Pairwise.nil _), List.take_succ_eq_append_getElem hlt]
          unfold overB
          rw [List.foldl_append]
          rfl
        have HOV := Lib.hid hov
        have hput := refPut_ (M := fun _ => False) (g := ws[k].gone) HA.out (Ty.keep _ (Ty.step _ pH0.out hB) (fun b _ h => ⟨rfl, fun h => h⟩)) (Ty.keep _ (Ty.step _ pH1.out hB) (fun b _ h => ⟨rfl, fun h => h⟩)) (by omega) (fun b h => h.elim)
        have HPUT := Lib.hid hput
        clear hov hput
        go_wp2_with (go_at_call 30; refine HPUT.out.mono ?_; rintro e w5 ⟨v5, rfl, hA5, hS5⟩; obtain ⟨a5, n5, m5, rfl, HN5⟩ := hA5.valN; have HA5 := Lib.hid hA5; have HS5 := Lib.hid hS5; clear hA5 hS5)
        go_roundw
        case rel => exact ⟨k + 1, by go_num, by omega, by omega, by rw [HOV.out]; exact HA5.out.rep' (fun _ _ h => h), hB.trans HS5.out⟩
        case measure => ((try simp [Go.RowKit.intOf]); omega)
      · have hd2 : decide ((k : Int) < 60) = false := decide_eq_false (by omega)
        have hst : overB [] (ws.take k) = storedB ws := by unfold storedB; rw [show k = 60 by omega]
        have HST := Lib.hid hst
        clear hst
        go_wp2
        go_ret
        exact ⟨_, rfl, by rw [← HST.out]; exact HA.out, hB⟩
    · have hd1 : decide ((k : Int) < (ws.length : Int)) = false := decide_eq_false (by omega)
      have hst : overB [] (ws.take k) = storedB ws := by unfold storedB; rw [List.take_of_length_le (by omega), List.take_of_length_le (by omega)]
      have HST := Lib.hid hst
      clear hst
      go_wp2
      go_ret
      exact ⟨_, rfl, by rw [← HST.out]; exact HA.out, hB⟩
def awkOps : List DOp := [⟨2, [97], [1], 0⟩, ⟨1, [97], [], 0⟩]
theorem awk_run : runB [] awkOps = ⟨0, 0, [[], [⟨[97], [1]⟩]], [⟨[97], [1], false⟩]⟩ := by decide
theorem bytes_new {w : World} {M : Nat → Prop} {k : Nat} {e : TypeId} {x : UInt8} {fr : Nat × Nat} {y : Int} (hy : y = (x.toNat : Int)) (hk : k = w.heap.size) (hM : ¬ M k) : Ty.bytes.rep (w.alloc (.cells #[.int .u8 y] e fr)) M [.slice (some ⟨k, 0, none⟩) 1 1] [x] := by
  subst hy
  refine one_rep ?_ hM
  exact cell_of_row _ k 0 _ _ fr (heap_alloc_at hk)
set_option maxRecDepth 100000 in
set_option maxHeartbeats 4000000 in
theorem lawAwake_ (w : World) : Calls Try.prog 23 #[] w fun e w' => e = .returned (.bool true) ∧ Step w w' := by
  have hcv : ∀ (W : World) (C : Array Value) (n c g : Nat), g = W.heap.size → (convert 42 42 (.slice (some ⟨g, 0, none⟩) n c)).run Try.prog (W.alloc (.cells C 5)) = .ok (.slice (some ⟨g, 0, none⟩) n c) (W.alloc (.cells C 5 (C.size, C.size + 1))) := fun W C n c g hg => Joins.run_convert_bytes_const_at W _ _ C n c g hg Try.underlying42 Try.underlying5
  go_enter Try.func23, Try.ntmps23
  have H1 : ∀ (W : World) (o1 o2 o3 o4 : Obj), LsAt (((((W.alloc (.cells #[.slice none 0 0, .slice none 0 0, .int .i64 0] 65)).alloc o1).alloc o2).alloc o3).alloc o4) W.heap.size (.slice none 0 0) (.slice none 0 0) := fun W o1 o2 o3 o4 => CellsAt.step (CellsAt.new rfl) (((((Step.refl _).alloc _).alloc _).alloc _).alloc _)
  have H2 : ∀ (W : World) (o0 : Obj), (Ty.slice tOp).rep (((((W.alloc o0).alloc (.cells #[.int .u8 97] 5 (1, 2))).alloc (.cells #[.int .u8 1] 5)).alloc (.cells #[.int .u8 97] 5 (1, 2))).alloc (.cells #[.int .i64 2, .slice (some ⟨W.heap.size + 1, 0, none⟩) 1 1, .slice (some ⟨W.heap.size + 1 + 1, 0, none⟩) 1 1, .int .i64 0, .int .i64 1, .slice (some ⟨W.heap.size + 1 + 1 + 1, 0, none⟩) 1 1, .slice none 0 0, .int .i64 0] 72)) (· = W.heap.size) [.slice (some ⟨W.heap.size + 1 + 1 + 1 + 1, 0, none⟩) 2 2] awkOps := fun W o0 => by
    obtain ⟨W3, hW3⟩ : ∃ W3, W3 = (((W.alloc o0).alloc (.cells #[.int .u8 97] 5 (1, 2))).alloc (.cells #[.int .u8 1] 5)).alloc (.cells #[.int .u8 97] 5 (1, 2)) := ⟨_, rfl⟩
    have hk : W3.heap.size = W.heap.size + 1 + 1 + 1 + 1 := by rw [hW3]; simp
    have k1 : Ty.bytes.rep W3 (· = W.heap.size) [.slice (some ⟨W.heap.size + 1, 0, none⟩) 1 1] [97] := by
      rw [hW3]
      exact Ty.step _ (bytes_new rfl (by simp) (by omega)) (((Step.refl _).alloc _).alloc _)
    have k2 : Ty.bytes.rep W3 (· = W.heap.size) [.slice (some ⟨W.heap.size + 1 + 1, 0, none⟩) 1 1] [1] := by
      rw [hW3]
      exact Ty.step _ (bytes_new rfl (by simp) (by omega)) ((Step.refl _).alloc _)
    have k3 : Ty.bytes.rep W3 (· = W.heap.size) [.slice (some ⟨W.heap.size + 1 + 1 + 1, 0, none⟩) 1 1] [97] := by
      rw [hW3]
      exact bytes_new rfl (by simp) (by omega)
    rw [← hW3, ← hk]
    refine (Own.lit (E := tOp) (xs := awkOps) (B := 0) (M := (· = W.heap.size)) rfl (by simp [lim_eq, awkOps]) (Nat.zero_le _) rfl (fun i hi => ?_)).rep' (fun b hb h => ?_)
    · have : i = 0 ∨ i = 1 := by simp [awkOps] at hi; omega
      rcases this with rfl | rfl
      · exact (show tOp.rep W3 (· = W.heap.size) [.int .i64 2, .slice (some ⟨W.heap.size + 1, 0, none⟩) 1 1, .slice (some ⟨W.heap.size + 1 + 1, 0, none⟩) 1 1, .int .i64 0] ⟨2, [97], [1], 0⟩ from ⟨_, _, rfl, by simp [I64], k1, k2, by simp [I64]⟩)
      · exact (show tOp.rep W3 (· = W.heap.size) [.int .i64 1, .slice (some ⟨W.heap.size + 1 + 1 + 1, 0, none⟩) 1 1, .slice none 0 0, .int .i64 0] ⟨1, [97], [], 0⟩ from ⟨_, _, rfl, by simp [I64], k3, nil_rep, by simp [I64]⟩)
    · have hb' : W3.heap.size = b := by simpa [Value.ownBlock] using hb
      omega
  have HH1 := Lib.hid H1
  have HH2 := Lib.hid H2
  clear H1 H2
  go_upto_region 2 with (go_at_call 25; refine (brRun_ (P := []) (ops := awkOps) (HH1.out _ _ _ _ _) nil_repG (HH2.out _ _) List.Pairwise.nil (by simp)).mono ?_; rintro e w2 ⟨rv, wv, rfl, h1, h2, hT⟩; rw [awk_run] at h1 h2 ⊢; obtain ⟨ra, rc, rfl, _⟩ := Ty.slice_val h1; obtain ⟨wa, wc, rfl, _⟩ := Ty.slice_val h2; have HR := Lib.hid h1; have HT := Lib.hid hT; clear h1 h2 hT)
  obtain ⟨sb, so, u, rfl, hsb, _, hu, hc⟩ := Ty.slice_at1 rfl HR.out (k := 1) (by decide)
  obtain ⟨ua, uc, hu2, _⟩ := Ty.slice_val hu
  subst hu2
  have hc' : w2.cell? ⟨sb, so + 1, none⟩ = some (.slice ua 1 uc) := hc
  clear hu hc
  go_wp2
  go_ret
  exact ⟨rfl, by
    refine Step.alloc ?_ _
    have hT := HT.out
    exact Turn.step (by (repeat (first | exact Step.refl _ | refine Step.alloc ?_ _ | refine Step.drew ?_ | refine Step.drewN ?_ _ | refine Step.setCell ?_ (by first | exact Nat.le_refl _ | assumption | omega | (simp; done) | (simp; omega)) _ | assumption | refine Step.trans ?_ (by assumption : Step _ _)))) hT (fun b hb => by subst hb; exact Nat.le_refl _)⟩
end Go.Proofs.Ythflkfgiclcdiaa
