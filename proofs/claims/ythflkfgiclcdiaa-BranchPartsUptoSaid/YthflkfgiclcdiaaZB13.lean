/-
  Walks: alike (bytes.Equal; pairs, rows, writes, outcomes, ops), where what is compared is alike.
-/
import Derived.Test.YthflkfgiclcdiaaZB3
import Derived.Test.YthflkfgiclcdiaaZConvB
import Derived.Deep.DeepCutAuto
import Derived.Deep.QuietTactic
import Derived.BigQuiet
set_option linter.unusedVariables false
set_option linter.unusedSimpArgs false
namespace Go.Proofs.Ythflkfgiclcdiaa
open Go.RowKit Go.Gr
open Go.Proofs (encStr)
set_option linter.unusedSimpArgs false
theorem beq_strs (xs ys : List UInt8) : ((⟨xs.toArray⟩ : ByteArray) == ⟨ys.toArray⟩) = decide (xs = ys) := by
  rw [show ((⟨xs.toArray⟩ : ByteArray) == ⟨ys.toArray⟩) = (xs.toArray == ys.toArray) from rfl]
  by_cases h : xs = ys <;> simp [h]
theorem bytesEqual_ {w : World} {M M' : Nat → Prop} {u v : Value} {xs ys : List UInt8} (hx : Ty.bytes.rep w M [u] xs) (hy : Ty.bytes.rep w M' [v] ys) :
    Calls Try.prog 94 #[u, v] w fun e w' => e = .returned (.bool (decide (xs = ys))) ∧ w' = w := by
  have h1 := conv_str (src := 42) (e := 5) (dst := 9) hx Try.underlying42 Try.underlying5 Try.underlying9
  have h2 := conv_str (src := 42) (e := 5) (dst := 9) hy Try.underlying42 Try.underlying5 Try.underlying9
  obtain ⟨a, c, rfl, _⟩ := Ty.slice_val hx
  obtain ⟨b, d, rfl, _⟩ := Ty.slice_val hy
  have hb : (xs == ys) = decide (xs = ys) := by by_cases h : xs = ys <;> simp [h]
  have HB := Lib.hid hb
  clear hx hy hb
  generalize xs.length = n at *
  generalize ys.length = m at *
  go_enter Try.func94, Try.ntmps94
  go_wp2
  go_ret
  exact ⟨by rw [← HB.out]; rfl, rfl⟩
theorem EqualT_ {w : World} {M M' : Nat → Prop} {u v : Value} {xs : List UInt8} (hx : Ty.bytes.rep w M [u] xs) (hy : Ty.bytes.rep w M' [v] xs) :
    Calls Try.prog 67 #[u, v] w fun e w' => e = .returned (.bool true) ∧ ∃ n, w' = w.drewN n := by
  refine (Equal_ hx hy).mono ?_
  rintro e w' ⟨rfl, h⟩
  exact ⟨by simp, h⟩
set_option maxRecDepth 100000 in
set_option maxHeartbeats 2000000 in
theorem refSame_ {w : World} {M M' : Nat → Prop} {v v' : Value} {xs : List DPair} (h : (Ty.slice tPair).rep w M [v] xs) (h' : (Ty.slice tPair).rep w M' [v'] xs) :
    Calls Try.prog 31 #[v, v'] w fun e w' => e = .returned (.bool true) ∧ ∃ n, w' = w.drewN n := by
  obtain ⟨a, c, rfl, _, _, hl⟩ := Ty.slice_val h
  obtain ⟨b, d, rfl, _⟩ := Ty.slice_val h'
  rw [lim_eq] at hl
  have H := Lib.hid h
  have H' := Lib.hid h'
  clear h h'
  go_enter Try.func31, Try.ntmps31
  go_wp2
  go_loopw [5] (fun i w' => ∃ k : Nat, i = .int .i64 k ∧ k ≤ xs.length ∧ ∃ n, w' = w.drewN n) (fun i _ => xs.length - (Go.RowKit.intOf i).toNat)
  case atStart => exact ⟨0, rfl, by omega, 0, rfl⟩
  case round =>
    obtain ⟨k, rfl, hk, n, hn⟩ := hrel
    have hB : Step w wr := hn ▸ (Step.refl w).drewN n
    have HN := Lib.hid hn
    clear hn
    by_cases hlt : k < xs.length
    · obtain ⟨pb, po, pes, rfl, phb, _, pu, pcu⟩ := Ty.slice_at H.out hlt
      obtain ⟨pc0, pc1, rfl, ph0, ph1⟩ := pu
      have pq0 := (Step.cell (w' := wr) (by (repeat (first | exact Step.refl _ | refine Step.alloc ?_ _ | refine Step.drew ?_ | refine Step.drewN ?_ _ | refine Step.setCell ?_ (by first | exact Nat.le_refl _ | assumption | omega | (simp; done) | (simp; omega)) _ | assumption | refine Step.trans ?_ (by assumption : Step _ _)))) phb _).trans (pcu 0 _ rfl)
      have pq1 := (Step.cell (w' := wr) (by (repeat (first | exact Step.refl _ | refine Step.alloc ?_ _ | refine Step.drew ?_ | refine Step.drewN ?_ _ | refine Step.setCell ?_ (by first | exact Nat.le_refl _ | assumption | omega | (simp; done) | (simp; omega)) _ | assumption | refine Step.trans ?_ (by assumption : Step _ _)))) phb _).trans (pcu 1 _ rfl)
      simp only [show tPair.n = 2 from rfl, Nat.add_zero] at pq0 pq1
      obtain ⟨pa0, pn0, rfl, _⟩ := Ty.slice_val ph0
      obtain ⟨pa1, pn1, rfl, _⟩ := Ty.slice_val ph1
      have pH0 := Lib.hid ph0
      have pH1 := Lib.hid ph1
      clear pcu ph0 ph1
      obtain ⟨qb, qo, qes, rfl, qhb, _, qu, qcu⟩ := Ty.slice_at H'.out hlt
      obtain ⟨qc0, qc1, rfl, qh0, qh1⟩ := qu
      have qq0 := (Step.cell (w' := wr) (by (repeat (first | exact Step.refl _ | refine Step.alloc ?_ _ | refine Step.drew ?_ | refine Step.drewN ?_ _ | refine Step.setCell ?_ (by first | exact Nat.le_refl _ | assumption | omega | (simp; done) | (simp; omega)) _ | assumption | refine Step.trans ?_ (by assumption : Step _ _)))) qhb _).trans (qcu 0 _ rfl)
      have qq1 := (Step.cell (w' := wr) (by (repeat (first | exact Step.refl _ | refine Step.alloc ?_ _ | refine Step.drew ?_ | refine Step.drewN ?_ _ | refine Step.setCell ?_ (by first | exact Nat.le_refl _ | assumption | omega | (simp; done) | (simp; omega)) _ | assumption | refine Step.trans ?_ (by assumption : Step _ _)))) qhb _).trans (qcu 1 _ rfl)
      simp only [show tPair.n = 2 from rfl, Nat.add_zero] at qq0 qq1
      obtain ⟨qa0, qn0, rfl, _⟩ := Ty.slice_val qh0
      obtain ⟨qa1, qn1, rfl, _⟩ := Ty.slice_val qh1
      have qH0 := Lib.hid qh0
      have qH1 := Lib.hid qh1
      clear qcu qh0 qh1
      have he1 := Lib.hid (fun (W : World) (hW : Step wr W) => EqualT_ (Ty.step _ (Ty.step _ pH0.out hB) hW) (Ty.step _ (Ty.step _ qH0.out hB) hW))
      have he2 := Lib.hid (fun (W : World) (hW : Step wr W) => EqualT_ (Ty.step _ (Ty.step _ pH1.out hB) hW) (Ty.step _ (Ty.step _ qH1.out hB) hW))
      have hk0 : (0 : Int) ≤ (k : Int) := by omega
      have hki : (k : Int) < (xs.length : Int) := by omega
      go_upto_region 6 with fail
      go_quiet ((go_at_call 67; first | exact Calls.quiet_of (he1.out _ (by (repeat (first | exact Step.refl _ | refine Step.alloc ?_ _ | refine Step.drew ?_ | refine Step.drewN ?_ _ | refine Step.setCell ?_ (by first | exact Nat.le_refl _ | assumption | omega | (simp; done) | (simp; omega)) _ | assumption | refine Step.trans ?_ (by assumption : Step _ _))))) | exact Calls.quiet_of (he2.out _ (by (repeat (first | exact Step.refl _ | refine Step.alloc ?_ _ | refine Step.drew ?_ | refine Step.drewN ?_ _ | refine Step.setCell ?_ (by first | exact Nat.le_refl _ | assumption | omega | (simp; done) | (simp; omega)) _ | assumption | refine Step.trans ?_ (by assumption : Step _ _)))))))
      go_wp2
      go_roundw
      case rel => exact ⟨k + 1, by go_num, by omega, by rw [HN.out]; exact (by first | exact ⟨_, rfl⟩ | (simp only [World.drewN_drewN]; exact ⟨_, rfl⟩))⟩
      case measure => ((try simp [Go.RowKit.intOf]); omega)
    · obtain rfl : k = xs.length := by omega
      go_wp2
      go_ret
      exact ⟨rfl, by rw [HN.out]; exact (by first | exact ⟨_, rfl⟩ | (simp only [World.drewN_drewN]; exact ⟨_, rfl⟩))⟩
set_option maxRecDepth 100000 in
set_option maxHeartbeats 2000000 in
theorem SameRows_ {w : World} {M M' : Nat → Prop} {v v' : Value} {xs : List (List DPair)} (h : (Ty.slice (Ty.slice tPair)).rep w M [v] xs) (h' : (Ty.slice (Ty.slice tPair)).rep w M' [v'] xs) :
    Calls Try.prog 69 #[v, v'] w fun e w' => e = .returned (.bool true) ∧ ∃ n, w' = w.drewN n := by
  obtain ⟨a, c, rfl, _, _, hl⟩ := Ty.slice_val h
  obtain ⟨b, d, rfl, _⟩ := Ty.slice_val h'
  rw [lim_eq] at hl
  have H := Lib.hid h
  have H' := Lib.hid h'
  clear h h'
  go_enter Try.func69, Try.ntmps69
  go_wp2
  go_loopw [5] (fun i w' => ∃ k : Nat, i = .int .i64 k ∧ k ≤ xs.length ∧ ∃ n, w' = w.drewN n) (fun i _ => xs.length - (Go.RowKit.intOf i).toNat)
  case atStart => exact ⟨0, rfl, by omega, 0, rfl⟩
  case round =>
    obtain ⟨k, rfl, hk, n, hn⟩ := hrel
    have hB : Step w wr := hn ▸ (Step.refl w).drewN n
    have HN := Lib.hid hn
    clear hn
    by_cases hlt : k < xs.length
    · obtain ⟨pb, po, pu, rfl, hpb, _, hpu, hpc⟩ := Ty.slice_at1 rfl H.out hlt
      obtain ⟨qb, qo, qu, rfl, hqb, _, hqu, hqc⟩ := Ty.slice_at1 rfl H'.out hlt
      have hp := (hB.cell hpb _).trans hpc
      have hq := (hB.cell hqb _).trans hqc
      have he1 := Lib.hid (fun (W : World) (hW : Step wr W) => refSame_ (Ty.step _ (Ty.step _ hpu hB) hW) (Ty.step _ (Ty.step _ hqu hB) hW))
      have hk0 : (0 : Int) ≤ (k : Int) := by omega
      have hki : (k : Int) < (xs.length : Int) := by omega
      clear hpu hqu hpc hqc
      go_upto_region 6 with fail
      go_quiet ((go_at_call 31; exact Calls.quiet_of (he1.out _ (by (repeat (first | exact Step.refl _ | refine Step.alloc ?_ _ | refine Step.drew ?_ | refine Step.drewN ?_ _ | refine Step.setCell ?_ (by first | exact Nat.le_refl _ | assumption | omega | (simp; done) | (simp; omega)) _ | assumption | refine Step.trans ?_ (by assumption : Step _ _)))))))
      go_wp2
      go_roundw
      case rel => exact ⟨k + 1, by go_num, by omega, by rw [HN.out]; exact (by first | exact ⟨_, rfl⟩ | (simp only [World.drewN_drewN]; exact ⟨_, rfl⟩))⟩
      case measure => ((try simp [Go.RowKit.intOf]); omega)
    · obtain rfl : k = xs.length := by omega
      go_wp2
      go_ret
      exact ⟨rfl, by rw [HN.out]; exact (by first | exact ⟨_, rfl⟩ | (simp only [World.drewN_drewN]; exact ⟨_, rfl⟩))⟩
set_option maxRecDepth 100000 in
set_option maxHeartbeats 2000000 in
theorem SameWrites_ {w : World} {M M' : Nat → Prop} {v v' : Value} {xs : List DWrite} (h : (Ty.slice tWrite).rep w M [v] xs) (h' : (Ty.slice tWrite).rep w M' [v'] xs) :
    Calls Try.prog 70 #[v, v'] w fun e w' => e = .returned (.bool true) ∧ ∃ n, w' = w.drewN n := by
  obtain ⟨a, c, rfl, _, _, hl⟩ := Ty.slice_val h
  obtain ⟨b, d, rfl, _⟩ := Ty.slice_val h'
  rw [lim_eq] at hl
  have H := Lib.hid h
  have H' := Lib.hid h'
  clear h h'
  go_enter Try.func70, Try.ntmps70
  go_wp2
  go_loopw [5] (fun i w' => ∃ k : Nat, i = .int .i64 k ∧ k ≤ xs.length ∧ ∃ n, w' = w.drewN n) (fun i _ => xs.length - (Go.RowKit.intOf i).toNat)
  case atStart => exact ⟨0, rfl, by omega, 0, rfl⟩
  case round =>
    obtain ⟨k, rfl, hk, n, hn⟩ := hrel
    have hB : Step w wr := hn ▸ (Step.refl w).drewN n
    have HN := Lib.hid hn
    clear hn
    by_cases hlt : k < xs.length
    · obtain ⟨pb, po, pes, rfl, phb, _, pu, pcu⟩ := Ty.slice_at H.out hlt
      obtain ⟨pc0, pc1, rfl, ph0, ph1⟩ := pu
      have pq0 := (Step.cell (w' := wr) (by (repeat (first | exact Step.refl _ | refine Step.alloc ?_ _ | refine Step.drew ?_ | refine Step.drewN ?_ _ | refine Step.setCell ?_ (by first | exact Nat.le_refl _ | assumption | omega | (simp; done) | (simp; omega)) _ | assumption | refine Step.trans ?_ (by assumption : Step _ _)))) phb _).trans (pcu 0 _ rfl)
      have pq1 := (Step.cell (w' := wr) (by (repeat (first | exact Step.refl _ | refine Step.alloc ?_ _ | refine Step.drew ?_ | refine Step.drewN ?_ _ | refine Step.setCell ?_ (by first | exact Nat.le_refl _ | assumption | omega | (simp; done) | (simp; omega)) _ | assumption | refine Step.trans ?_ (by assumption : Step _ _)))) phb _).trans (pcu 1 _ rfl)
      have pq2 := (Step.cell (w' := wr) (by (repeat (first | exact Step.refl _ | refine Step.alloc ?_ _ | refine Step.drew ?_ | refine Step.drewN ?_ _ | refine Step.setCell ?_ (by first | exact Nat.le_refl _ | assumption | omega | (simp; done) | (simp; omega)) _ | assumption | refine Step.trans ?_ (by assumption : Step _ _)))) phb _).trans (pcu 2 _ rfl)
      simp only [show tWrite.n = 3 from rfl, Nat.add_zero] at pq0 pq1 pq2
      obtain ⟨pa0, pn0, rfl, _⟩ := Ty.slice_val ph0
      obtain ⟨pa1, pn1, rfl, _⟩ := Ty.slice_val ph1
      have pH0 := Lib.hid ph0
      have pH1 := Lib.hid ph1
      clear pcu ph0 ph1
      obtain ⟨qb, qo, qes, rfl, qhb, _, qu, qcu⟩ := Ty.slice_at H'.out hlt
      obtain ⟨qc0, qc1, rfl, qh0, qh1⟩ := qu
      have qq0 := (Step.cell (w' := wr) (by (repeat (first | exact Step.refl _ | refine Step.alloc ?_ _ | refine Step.drew ?_ | refine Step.drewN ?_ _ | refine Step.setCell ?_ (by first | exact Nat.le_refl _ | assumption | omega | (simp; done) | (simp; omega)) _ | assumption | refine Step.trans ?_ (by assumption : Step _ _)))) qhb _).trans (qcu 0 _ rfl)
      have qq1 := (Step.cell (w' := wr) (by (repeat (first | exact Step.refl _ | refine Step.alloc ?_ _ | refine Step.drew ?_ | refine Step.drewN ?_ _ | refine Step.setCell ?_ (by first | exact Nat.le_refl _ | assumption | omega | (simp; done) | (simp; omega)) _ | assumption | refine Step.trans ?_ (by assumption : Step _ _)))) qhb _).trans (qcu 1 _ rfl)
      have qq2 := (Step.cell (w' := wr) (by (repeat (first | exact Step.refl _ | refine Step.alloc ?_ _ | refine Step.drew ?_ | refine Step.drewN ?_ _ | refine Step.setCell ?_ (by first | exact Nat.le_refl _ | assumption | omega | (simp; done) | (simp; omega)) _ | assumption | refine Step.trans ?_ (by assumption : Step _ _)))) qhb _).trans (qcu 2 _ rfl)
      simp only [show tWrite.n = 3 from rfl, Nat.add_zero] at qq0 qq1 qq2
      obtain ⟨qa0, qn0, rfl, _⟩ := Ty.slice_val qh0
      obtain ⟨qa1, qn1, rfl, _⟩ := Ty.slice_val qh1
      have qH0 := Lib.hid qh0
      have qH1 := Lib.hid qh1
      clear qcu qh0 qh1
      have he1 := Lib.hid (fun (W : World) (hW : Step wr W) => EqualT_ (Ty.step _ (Ty.step _ pH0.out hB) hW) (Ty.step _ (Ty.step _ qH0.out hB) hW))
      have he2 := Lib.hid (fun (W : World) (hW : Step wr W) => EqualT_ (Ty.step _ (Ty.step _ pH1.out hB) hW) (Ty.step _ (Ty.step _ qH1.out hB) hW))
      have hk0 : (0 : Int) ≤ (k : Int) := by omega
      have hki : (k : Int) < (xs.length : Int) := by omega
      have hbb : (xs[k].gone != xs[k].gone) = false := by simp
      go_upto_region 6 with fail
      go_quiet ((go_at_call 67; first | exact Calls.quiet_of (he1.out _ (by (repeat (first | exact Step.refl _ | refine Step.alloc ?_ _ | refine Step.drew ?_ | refine Step.drewN ?_ _ | refine Step.setCell ?_ (by first | exact Nat.le_refl _ | assumption | omega | (simp; done) | (simp; omega)) _ | assumption | refine Step.trans ?_ (by assumption : Step _ _))))) | exact Calls.quiet_of (he2.out _ (by (repeat (first | exact Step.refl _ | refine Step.alloc ?_ _ | refine Step.drew ?_ | refine Step.drewN ?_ _ | refine Step.setCell ?_ (by first | exact Nat.le_refl _ | assumption | omega | (simp; done) | (simp; omega)) _ | assumption | refine Step.trans ?_ (by assumption : Step _ _)))))))
      go_wp2
      go_roundw
      case rel => exact ⟨k + 1, by go_num, by omega, by rw [HN.out]; exact (by first | exact ⟨_, rfl⟩ | (simp only [World.drewN_drewN]; exact ⟨_, rfl⟩))⟩
      case measure => ((try simp [Go.RowKit.intOf]); omega)
    · obtain rfl : k = xs.length := by omega
      go_wp2
      go_ret
      exact ⟨rfl, by rw [HN.out]; exact (by first | exact ⟨_, rfl⟩ | (simp only [World.drewN_drewN]; exact ⟨_, rfl⟩))⟩
set_option maxRecDepth 100000 in
set_option maxHeartbeats 2000000 in
theorem OutcomeIs_ {w : World} {M M' : Nat → Prop} {er at_ : Int} {r1 w1 r2 w2 : Value} {rows : List (List DPair)} {ws : List DWrite} (h1 : (Ty.slice (Ty.slice tPair)).rep w M [r1] rows) (h2 : (Ty.slice tWrite).rep w M [w1] ws) (h3 : (Ty.slice (Ty.slice tPair)).rep w M' [r2] rows) (h4 : (Ty.slice tWrite).rep w M' [w2] ws) :
    Calls Try.prog 28 #[.agg #[.int .i64 er, .int .i64 at_, r1, w1], .agg #[.int .i64 er, .int .i64 at_, r2, w2]] w fun e w' => e = .returned (.bool true) ∧ Step w w' := by
  obtain ⟨a1, c1, rfl, _⟩ := Ty.slice_val h1
  obtain ⟨a2, c2, rfl, _⟩ := Ty.slice_val h2
  obtain ⟨a3, c3, rfl, _⟩ := Ty.slice_val h3
  obtain ⟨a4, c4, rfl, _⟩ := Ty.slice_val h4
  have hq1 := Lib.hid (fun (W : World) (hW : Step w W) => SameRows_ (Ty.step _ h1 hW) (Ty.step _ h3 hW))
  have hq2 := Lib.hid (fun (W : World) (hW : Step w W) => SameWrites_ (Ty.step _ h2 hW) (Ty.step _ h4 hW))
  clear h1 h2 h3 h4
  go_enter Try.func28, Try.ntmps28
  go_wp2_with (first
    | (go_at_call 69; refine (hq1.out _ (by (repeat (first | exact Step.refl _ | refine Step.alloc ?_ _ | refine Step.drew ?_ | refine Step.drewN ?_ _ | refine Step.setCell ?_ (by first | exact Nat.le_refl _ | assumption | omega | (simp; done) | (simp; omega)) _ | assumption | refine Step.trans ?_ (by assumption : Step _ _))))).mono ?_; rintro e w5 ⟨rfl, n5, rfl⟩)
    | (go_at_call 70; refine (hq2.out _ (by (repeat (first | exact Step.refl _ | refine Step.alloc ?_ _ | refine Step.drew ?_ | refine Step.drewN ?_ _ | refine Step.setCell ?_ (by first | exact Nat.le_refl _ | assumption | omega | (simp; done) | (simp; omega)) _ | assumption | refine Step.trans ?_ (by assumption : Step _ _))))).mono ?_; rintro e w6 ⟨rfl, n6, rfl⟩))
  go_ret
  exact ⟨rfl, by (repeat (first | exact Step.refl _ | refine Step.alloc ?_ _ | refine Step.drew ?_ | refine Step.drewN ?_ _ | refine Step.setCell ?_ (by first | exact Nat.le_refl _ | assumption | omega | (simp; done) | (simp; omega)) _ | assumption | refine Step.trans ?_ (by assumption : Step _ _)))⟩
set_option maxRecDepth 100000 in
set_option maxHeartbeats 2000000 in
theorem SameOp_ {w : World} {M M' : Nat → Prop} {kd mo : Int} {k1 v1 k2 v2 : Value} {key value : List UInt8} (h1 : Ty.bytes.rep w M [k1] key) (h2 : Ty.bytes.rep w M [v1] value) (h3 : Ty.bytes.rep w M' [k2] key) (h4 : Ty.bytes.rep w M' [v2] value) :
    Calls Try.prog 29 #[.agg #[.int .i64 kd, k1, v1, .int .i64 mo], .agg #[.int .i64 kd, k2, v2, .int .i64 mo]] w fun e w' => e = .returned (.bool true) ∧ Step w w' := by
  obtain ⟨a1, c1, rfl, _⟩ := Ty.slice_val h1
  obtain ⟨a2, c2, rfl, _⟩ := Ty.slice_val h2
  obtain ⟨a3, c3, rfl, _⟩ := Ty.slice_val h3
  obtain ⟨a4, c4, rfl, _⟩ := Ty.slice_val h4
  have hq1 := Lib.hid (fun (W : World) (hW : Step w W) => EqualT_ (Ty.step _ h1 hW) (Ty.step _ h3 hW))
  have hq2 := Lib.hid (fun (W : World) (hW : Step w W) => EqualT_ (Ty.step _ h2 hW) (Ty.step _ h4 hW))
  clear h1 h2 h3 h4
  go_enter Try.func29, Try.ntmps29
  go_wp2_with (first
    | (go_at_call 67; refine (hq1.out _ (by (repeat (first | exact Step.refl _ | refine Step.alloc ?_ _ | refine Step.drew ?_ | refine Step.drewN ?_ _ | refine Step.setCell ?_ (by first | exact Nat.le_refl _ | assumption | omega | (simp; done) | (simp; omega)) _ | assumption | refine Step.trans ?_ (by assumption : Step _ _))))).mono ?_; clear hq1; rintro e w5 ⟨rfl, n5, rfl⟩)
    | (go_at_call 67; refine (hq2.out _ (by (repeat (first | exact Step.refl _ | refine Step.alloc ?_ _ | refine Step.drew ?_ | refine Step.drewN ?_ _ | refine Step.setCell ?_ (by first | exact Nat.le_refl _ | assumption | omega | (simp; done) | (simp; omega)) _ | assumption | refine Step.trans ?_ (by assumption : Step _ _))))).mono ?_; clear hq2; rintro e w6 ⟨rfl, n6, rfl⟩))
  go_ret
  exact ⟨rfl, by (repeat (first | exact Step.refl _ | refine Step.alloc ?_ _ | refine Step.drew ?_ | refine Step.drewN ?_ _ | refine Step.setCell ?_ (by first | exact Nat.le_refl _ | assumption | omega | (simp; done) | (simp; omega)) _ | assumption | refine Step.trans ?_ (by assumption : Step _ _)))⟩
end Go.Proofs.Ythflkfgiclcdiaa
