/-
  Walk: TwopcKeeps.
-/
import Derived.Test.YthflkfgiclcdiaaGreatA12
namespace Go.Proofs.YthflkfgiclcdiaaGreat
open Go.Gr Go.RowKit
set_option linter.unusedSimpArgs false
theorem asks_kindK {x : DTxn} {shards : List Int} {f : Nat → DAsk} {k : Int} (h : ∀ i, (f i).kind = k) : ∀ p ∈ asksOf x shards f, p.2.kind = k := by
  intro p hp
  obtain ⟨j, hj, rfl⟩ := List.getElem_of_mem hp
  have hj' : j < shards.length := by rw [← asksOf_len (x := x) (f := f)]; exact hj
  rw [asksOf_at hj']
  exact h j
theorem asks_0 {x : DTxn} {f : Nat → DAsk} : ∃ p ∈ asksOf x [0] f, p.1 = 0 := by simp [asksOf]
set_option maxRecDepth 100000 in
set_option maxHeartbeats 8000000 in
theorem keeps_ {w : World} {M M' : Nat → Prop} {v1 v2 : Value} {key reply : List UInt8} (h1 : Ty.bytes.rep w M [v1] key) (h2 : Ty.bytes.rep w M' [v2] reply) (hrl : reply.length ≤ 1048576) :
    Calls Tryz.prog 3 #[v1, v2] w fun e w' => e = .returned (.bool true) ∧ Step w w' := by
  obtain ⟨a1, c1, rfl, _⟩ := Ty.slice_val h1
  obtain ⟨a2, c2, rfl, _⟩ := Ty.slice_val h2
  have H1 := Lib.hid h1
  have H2 := Lib.hid h2
  clear h1 h2
  go_enter Tryz.func3, Tryz.ntmps3
  by_cases hk : key.length ≤ 60
  · go_upto_region 9 with (first
      | (go_at_call 7; refine (awake_ _).mono ?_; rintro e w1 ⟨rfl, hS1⟩)
      | (go_at_call 8; refine (Spare_ (b := key) (by refine Ty.step _ (Hid.out (by assumption)) ?_; (repeat (first | exact Step.refl _ | refine Step.alloc ?_ _ | refine Step.drew ?_ | refine Step.drewN ?_ _ | refine Step.setCell ?_ (by first | exact Nat.le_refl _ | assumption | omega | (simp; done) | (simp; omega)) _ | assumption | refine Step.trans ?_ (by assumption : Step _ _)))) (by omega)).mono ?_; rintro e w2 ⟨g1, rfl, hg1, hB1, hS2⟩; have x2 : ∀ j, w2.cell? ⟨w1.heap.size, j, none⟩ = _ := fun j => hS2.cell (by first | assumption | omega | (simp; done) | (simp; omega)) j; have HB1 := Lib.hid hB1; have hS02 : Step w w2 := (by (repeat (first | exact Step.refl _ | refine Step.alloc ?_ _ | refine Step.drew ?_ | refine Step.drewN ?_ _ | refine Step.setCell ?_ (by first | exact Nat.le_refl _ | assumption | omega | (simp; done) | (simp; omega)) _ | assumption | refine Step.trans ?_ (by assumption : Step _ _)))); have hz2 := hS2.size; (try simp only [World.size_alloc] at hz2); clear hB1)
      | (go_at_call 9; refine (New_K (v := .slice (some ⟨g1, 0, none⟩) key.length (key.length + 33)) ((HB1.out.pre (zs := key) ⟨_, rfl⟩).rep (fun _ _ h => h))).mono ?_; rintro e w3 ⟨cb, B, ob, vo, vp, mu, vs, vr, rfl, hBl, hB3, hC3, hS3⟩; have HC3 := Lib.hid hC3; clear hC3)
      | (go_at_call 10; refine (Begin_K HC3.out hB3 hk).mono ?_; rintro e w5 ⟨v5, nb, w4, rfl, hA5, hC4, hT4, hS5⟩; obtain ⟨go, co, g8, o8, k8, u1, u2, rfl, hgo, hq8, hg8, hKo, hK8, hr1, hr2, hb1, hb2, hd1, hd2⟩ := sent_one hA5 rfl; have HC4 := Lib.hid hC4; clear hC4 hA5)
      | (go_at_call 11; refine (Retry_K (HC4.out.keep (fun b h1 _ => hS5.heap h1))).mono ?_; rintro e w6 ⟨v6, rfl, hA6, hS6⟩; obtain ⟨gt, ct, t8, p8, l8, y1, y2, rfl, hgt, hqt, ht8, hKt, hKt8, ht1, ht2, hy1, hy2, hdy1, hdy2⟩ := sent_one hA6 rfl; clear hA6))
    have X0 : w2.cell? ⟨w1.heap.size, 0, none⟩ = some (.int .u64 2) := (x2 0).trans (by simp)
    have X1 : w2.cell? ⟨w1.heap.size, 1, none⟩ = some (.int .u64 0) := (x2 1).trans (by simp)
    have X2 : w2.cell? ⟨w1.heap.size, 2, none⟩ = some (.int .u64 3) := (x2 2).trans (by simp)
    have hg1' : w1.heap.size + 1 ≤ g1 := by simpa using hg1
    have hg1l : g1 < w2.heap.size := HB1.out.lt rfl
    have hcb := HC3.out.base
    have hcb3 := HC3.out.lt
    have hz1 := hS1.size
    have hz3 := hS3.size
    have hz4 := hT4.size
    have hz5 := hS5.size
    have hz6 := hS6.size
    have hS24 : Step w2 w4 := Turn.step hS3 hT4 (fun b hb => by omega)
    have hS26 : Step w2 w6 := hS24.trans (hS5.trans hS6)
    have hS06 : Step w w6 := hS02.trans hS26
    clear x2 hg1 hS3 hT4 hS1 hS2 hS24
    go_upto_region 12 with (first
      | (go_at_call 12; refine (Kept_ (b := key) ((HB1.out.step (by (repeat (first | exact Step.refl _ | refine Step.alloc ?_ _ | refine Step.drew ?_ | refine Step.drewN ?_ _ | refine Step.setCell ?_ (by first | exact Nat.le_refl _ | assumption | omega | (simp; done) | (simp; omega)) _ | assumption | refine Step.trans ?_ (by assumption : Step _ _))))).rep (M := fun _ => False) (fun _ _ h => h)) (Ty.step _ H1.out (by (repeat (first | exact Step.refl _ | refine Step.alloc ?_ _ | refine Step.drew ?_ | refine Step.drewN ?_ _ | refine Step.setCell ?_ (by first | exact Nat.le_refl _ | assumption | omega | (simp; done) | (simp; omega)) _ | assumption | refine Step.trans ?_ (by assumption : Step _ _))))) (by omega)).mono ?_; rintro e w7 ⟨rfl, hS7⟩)
      | (go_at_call 13; refine (Over_ ((HB1.out.step (hS26.trans hS7)).pre (zs := key) ⟨_, rfl⟩)).mono ?_; rintro e w8 ⟨rfl, hR8, hT8⟩))
    have hT8' : Turn (· = g1) w7 w8 := hT8.mono (fun b _ hb => by simpa [Value.ownBlock] using hb.symm)
    have hz7 := hS7.size
    have hz8 := hT8'.size
    obtain ⟨ys, hysl, hF8⟩ := hR8 _ _ (HB1.out.step (hS26.trans hS7))
    rw [spareB_len] at hysl
    have hT48 : Turn (· = g1) w4 w8 := (Turn.of (hS5.trans (hS6.trans hS7))).trans hT8'
    have hT28 : Turn (· = g1) w2 w8 := (Turn.of (hS26.trans hS7)).trans hT8'
    have HC8 := Lib.hid (HC4.out.keep (fun b h1 h2 => hT48.block b h1 (by omega)))
    have hS08 : Step w w8 := Turn.step (hS06.trans hS7) hT8' (fun b hb => by omega)
    have hn5 : ∀ b, w4.heap.size ≤ b → ¬ b = g1 := fun b hb => by omega
    have hU1 := ((hb1.step (hS6.trans hS7)).turn hT8' (fun g hg => hn5 g (hd1 g hg).1))
    have hU2 := ((hb2.step (hS6.trans hS7)).turn hT8' (fun g hg => hn5 g (hd2 g hg)))
    have hY1 := ((hy1.step hS7).turn hT8' (fun g hg => hn5 g (Nat.le_trans hz5 (hdy1 g hg).1)))
    have e8 : w8.cell? ⟨go, 8, none⟩ = some (.slice (some ⟨g8, o8, none⟩) 1 k8) := ((hT8'.cell (by omega) (hn5 go hKo) 8).trans ((hS7.cell (by omega) 8).trans (hS6.cell hgo 8))).trans hq8
    have e81 : w8.cell? ⟨g8, o8 + 1, none⟩ = some u1 := ((hT8'.cell (by omega) (hn5 g8 hK8) _).trans ((hS7.cell (by omega) _).trans (hS6.cell hg8 _))).trans hr1
    have e82 : w8.cell? ⟨g8, o8 + 2, none⟩ = some u2 := ((hT8'.cell (by omega) (hn5 g8 hK8) _).trans ((hS7.cell (by omega) _).trans (hS6.cell hg8 _))).trans hr2
    have et : w8.cell? ⟨gt, 8, none⟩ = some (.slice (some ⟨t8, p8, none⟩) 1 l8) := ((hT8'.cell (by omega) (hn5 gt (by omega)) 8).trans (hS7.cell hgt 8)).trans hqt
    have et1 : w8.cell? ⟨t8, p8 + 1, none⟩ = some y1 := ((hT8'.cell (by omega) (hn5 t8 (by omega)) _).trans (hS7.cell ht8 _)).trans ht1
    have Z0 : w8.cell? ⟨w1.heap.size, 0, none⟩ = some (.int .u64 2) := (hT28.cell (by omega) (by omega) 0).trans X0
    have Z1 : w8.cell? ⟨w1.heap.size, 1, none⟩ = some (.int .u64 0) := (hT28.cell (by omega) (by omega) 1).trans X1
    have Z2 : w8.cell? ⟨w1.heap.size, 2, none⟩ = some (.int .u64 3) := (hT28.cell (by omega) (by omega) 2).trans X2
    obtain ⟨xa, xc, rfl⟩ := hU1.val
    obtain ⟨xb, xd, rfl⟩ := hU2.val
    obtain ⟨xe, xf, rfl⟩ := hY1.val
    have HAPT : Hid (Apt [.slice (some ⟨g1, 0, none⟩) (key.length + 33) (key.length + 33), .slice xa key.length xc, .slice xb key.length xd, .slice xe key.length xf]) := Lib.hid (by
      intro i j hi hj g hgi hgj
      have f0 : ∀ g, (Value.slice (some ⟨g1, 0, none⟩) (key.length + 33) (key.length + 33)).ownBlock = some g → g < w4.heap.size := fun g hg => by
        obtain rfl : g1 = g := by simpa [Value.ownBlock] using hg
        omega
      have f1 : ∀ g, (Value.slice xa key.length xc).ownBlock = some g → w4.heap.size ≤ g ∧ g < w5.heap.size := fun g hg => ⟨(hd1 g hg).1, hb1.lt hg⟩
      have f2 : ∀ g, (Value.slice xb key.length xd).ownBlock = some g → w4.heap.size ≤ g ∧ g < w5.heap.size := fun g hg => ⟨hd2 g hg, hb2.lt hg⟩
      have f3 : ∀ g, (Value.slice xe key.length xf).ownBlock = some g → w5.heap.size ≤ g := fun g hg => (hdy1 g hg).1
      have f12 : ∀ g, (Value.slice xa key.length xc).ownBlock = some g → (Value.slice xb key.length xd).ownBlock = some g → False := fun g hg hg' => (hd1 g hg).2 hg'
      simp only [List.length_cons, List.length_nil] at hi hj
      rcases i with _ | _ | _ | _ | i <;> rcases j with _ | _ | _ | _ | j <;> simp only [List.getElem_cons_zero, List.getElem_cons_succ] at hgi hgj <;> first
        | rfl
        | (exfalso; have := f0 g hgi; have := f1 g hgj; omega)
        | (exfalso; have := f0 g hgi; have := f2 g hgj; omega)
        | (exfalso; have := f0 g hgi; have := f3 g hgj; omega)
        | (exfalso; have := f1 g hgi; have := f0 g hgj; omega)
        | (exfalso; exact f12 g hgi hgj)
        | (exfalso; have := f1 g hgi; have := f3 g hgj; omega)
        | (exfalso; have := f2 g hgi; have := f0 g hgj; omega)
        | (exfalso; exact f12 g hgj hgi)
        | (exfalso; have := f2 g hgi; have := f3 g hgj; omega)
        | (exfalso; have := f3 g hgi; have := f0 g hgj; omega)
        | (exfalso; have := f3 g hgi; have := f1 g hgj; omega)
        | (exfalso; have := f3 g hgi; have := f2 g hgj; omega)
        | (exfalso; omega))
    have HROW : Hid (∀ W, Step w8 W → ∀ j (hj : j < [Value.slice (some ⟨g1, 0, none⟩) (key.length + 33) (key.length + 33), .slice xa key.length xc, .slice xb key.length xd, .slice xe key.length xf].length), ∃ ys : List UInt8, ys.length = (if j = 0 then key.length + 33 else key.length) ∧ BR 5 W [Value.slice (some ⟨g1, 0, none⟩) (key.length + 33) (key.length + 33), .slice xa key.length xc, .slice xb key.length xd, .slice xe key.length xf][j] ys) := Lib.hid (by
      intro W hW j hj
      simp only [List.length_cons, List.length_nil] at hj
      rcases j with _ | _ | _ | _ | j
      · exact ⟨ys, by simpa using hysl, hF8.step hW⟩
      · exact ⟨key, by simp, hU1.step hW⟩
      · exact ⟨key, by simp, hU2.step hW⟩
      · exact ⟨key, by simp, hY1.step hW⟩
      · omega)
    have HOM : Hid (∀ b, ownM [.slice (some ⟨g1, 0, none⟩) (key.length + 33) (key.length + 33), .slice xa key.length xc, .slice xb key.length xd, .slice xe key.length xf] b → b = g1 ∨ w4.heap.size ≤ b) := Lib.hid (by
      rintro b ⟨j, hj, hb⟩
      simp only [List.length_cons, List.length_nil] at hj
      rcases j with _ | _ | _ | _ | j
      · exact .inl (by simpa [Value.ownBlock] using hb.symm)
      · exact .inr (hd1 b hb).1
      · exact .inr (hd2 b hb)
      · exact .inr (Nat.le_trans hz5 (hdy1 b hb).1)
      · omega)
    have hgo8 : go < w8.heap.size := by omega
    have hg88 : g8 < w8.heap.size := by omega
    have hgt8 : gt < w8.heap.size := by omega
    have ht88 : t8 < w8.heap.size := by omega
    have hNm : ∀ j, (if j = 0 then key.length + 33 else key.length) ≤ 8589934592 := fun j => by split <;> omega
    clear hb1 hb2 hy1 hy2 hU1 hU2 hY1 hF8 hysl hR8 hT8 hq8 hr1 hr2 hqt ht1 ht2 X0 X1 X2 hd1 hd2 hdy1 hdy2 hS5 hS6 hS7 hT8' hn5
    refine wp_region_cut (S := (fun w' => w'.cell? ⟨go, 8, none⟩ = some (.slice (some ⟨g8, o8, none⟩) 1 k8) ∧ w'.cell? ⟨g8, o8 + 1, none⟩ = some (.slice xa key.length xc) ∧ w'.cell? ⟨g8, o8 + 2, none⟩ = some (.slice xb key.length xd) ∧ w'.cell? ⟨gt, 8, none⟩ = some (.slice (some ⟨t8, p8, none⟩) 1 l8) ∧ w'.cell? ⟨t8, p8 + 1, none⟩ = some (.slice xe key.length xf))) 39 (by kernel_rfl) ?_ (fun hHeld => ?_)
    · (go_keep)
    refine wpAnyC_take (i := 0) (v := ?_) rfl (by kernel_rfl) (by kernel_rfl) (by kernel_rfl) (by decide) [1, 2, 3, 4, 5, 6, 7, 8, 10, 11, 12, 13, 14, 15, 16, 17, 18, 19, 20, 21, 22, 23, 24, 25, 26, 27, 28, 29, 30, 31, 32, 33, 34, 35, 36, 37, 38, 39, 40, 41] (by kernel_rfl) (fun _ _ _ h => h) (Or.inl ⟨by rfl, ?_⟩) (by assumption) ?_
    rotate_left 1
    · (intro w hSw; (try dsimp only at hSw); go_simp; (try with_reducible rfl))
    try simp only [Act.put, List.getElem_toArray, List.getElem_cons_succ, List.getElem_cons_zero, List.setIfInBounds_toArray, List.set_cons_zero, List.set_cons_succ]
    refine wpAnyC_take (i := 9) (v := ?_) rfl (by kernel_rfl) (by kernel_rfl) (by kernel_rfl) (by decide) [10, 11, 12, 13, 14, 15, 16, 17, 18, 19, 20, 21, 22, 23, 24, 25, 26, 27, 28, 29, 30, 31, 32, 33, 34, 35, 36, 37, 38, 39, 40, 41] (by kernel_rfl) (fun _ _ _ h => h) (Or.inl ⟨by rfl, ?_⟩) (by assumption) ?_
    rotate_left 1
    · (intro w hSw; (try dsimp only at hSw); go_simp; (try with_reducible rfl))
    try simp only [Act.put, List.getElem_toArray, List.getElem_cons_succ, List.getElem_cons_zero, List.setIfInBounds_toArray, List.set_cons_zero, List.set_cons_succ]
    refine wpAnyC_ready (rs := [1]) (by kernel_rfl) (by simp) ?_
    refine AllReadyC.cons rfl (by decide) (fun K hK => ?_) AllReadyC.nil
    try simp only [List.getElem_toArray, List.getElem_cons_succ, List.getElem_cons_zero]
    go_simp
    (go_at_call 11; refine (Retry_K (HC8.out.keep (fun b h1 _ => Step.heap (by (repeat (first | exact Step.refl _ | refine Step.alloc ?_ _ | refine Step.drew ?_ | refine Step.drewN ?_ _ | refine Step.setCell ?_ (by first | exact Nat.le_refl _ | assumption | omega | (simp; done) | (simp; omega)) _ | assumption | refine Step.trans ?_ (by assumption : Step _ _))) : Step w8 _) h1))).mono ?_; rintro e w9 ⟨v9, rfl, hA9, hS9⟩; obtain ⟨g9, c9, h8, q9, m8, z1, z2, rfl, hg9, hq9, hh8, _, _, hz9, _, hbz, _, _, _⟩ := sent_one hA9 rfl; obtain ⟨za, zc, rfl⟩ := hbz.val; have s9a : ∀ j, w9.cell? ⟨go, j, none⟩ = _ := fun j => hS9.cell (by first | assumption | omega | (simp; done) | (simp; omega)) j; have s9b : ∀ j, w9.cell? ⟨g8, j, none⟩ = _ := fun j => hS9.cell (by first | assumption | omega | (simp; done) | (simp; omega)) j; have s9c : ∀ j, w9.cell? ⟨gt, j, none⟩ = _ := fun j => hS9.cell (by first | assumption | omega | (simp; done) | (simp; omega)) j; have s9d : ∀ j, w9.cell? ⟨t8, j, none⟩ = _ := fun j => hS9.cell (by first | assumption | omega | (simp; done) | (simp; omega)) j; have HBZ := Lib.hid hbz; clear hA9 hbz)
    refine hK.out _ _ ?_ (fun hHeld => ?_)
    · (go_keep)
    clear hK K
    try simp only [Act.put, List.getElem_toArray, List.getElem_cons_succ, List.getElem_cons_zero, List.setIfInBounds_toArray, List.set_cons_zero, List.set_cons_succ]
    refine wpAnyC_swap (S' := fun w' => ((fun w' => w'.cell? ⟨go, 8, none⟩ = some (.slice (some ⟨g8, o8, none⟩) 1 k8) ∧ w'.cell? ⟨g8, o8 + 1, none⟩ = some (.slice xa key.length xc) ∧ w'.cell? ⟨g8, o8 + 2, none⟩ = some (.slice xb key.length xd) ∧ w'.cell? ⟨gt, 8, none⟩ = some (.slice (some ⟨t8, p8, none⟩) 1 l8) ∧ w'.cell? ⟨t8, p8 + 1, none⟩ = some (.slice xe key.length xf))) w' ∧ ((fun w' : World => w'.cell? ⟨g9, 8, none⟩ = some (.slice (some ⟨h8, q9, none⟩) 1 m8) ∧ w'.cell? ⟨h8, q9 + 1, none⟩ = some (.slice za key.length zc))) w') (fun _ h => h.1) ?_
    replace hHeld := And.intro hHeld (show ((fun w' : World => w'.cell? ⟨g9, 8, none⟩ = some (.slice (some ⟨h8, q9, none⟩) 1 m8) ∧ w'.cell? ⟨h8, q9 + 1, none⟩ = some (.slice za key.length zc))) _ from (⟨hq9, hz9⟩))
    refine wpAnyC_take (i := 2) (v := ?_) rfl (by kernel_rfl) (by kernel_rfl) (by kernel_rfl) (by decide) [3, 4, 5, 6, 7, 8, 10, 11, 12, 13, 14, 15, 16, 17, 18, 19, 20, 21, 22, 23, 24, 25, 26, 27, 28, 29, 30, 31, 32, 33, 34, 35, 36, 37, 38, 39, 40, 41] (by kernel_rfl) (fun _ _ _ h => h) (Or.inl ⟨by rfl, ?_⟩) (by assumption) ?_
    rotate_left 1
    · (intro w hSw; (try dsimp only at hSw); go_simp; (try with_reducible rfl))
    try simp only [Act.put, List.getElem_toArray, List.getElem_cons_succ, List.getElem_cons_zero, List.setIfInBounds_toArray, List.set_cons_zero, List.set_cons_succ]
    refine wpAnyC_take (i := 3) (v := ?_) rfl (by kernel_rfl) (by kernel_rfl) (by kernel_rfl) (by decide) [4, 5, 6, 7, 8, 10, 11, 12, 13, 14, 15, 16, 17, 18, 19, 20, 21, 22, 23, 24, 25, 26, 27, 28, 29, 30, 31, 32, 33, 34, 35, 36, 37, 38, 39, 40, 41] (by kernel_rfl) (fun _ _ _ h => h) (Or.inl ⟨by rfl, ?_⟩) (by assumption) ?_
    rotate_left 1
    · (intro w hSw; (try dsimp only at hSw); go_simp; (try with_reducible rfl))
    try simp only [Act.put, List.getElem_toArray, List.getElem_cons_succ, List.getElem_cons_zero, List.setIfInBounds_toArray, List.set_cons_zero, List.set_cons_succ]
    refine wpAnyC_take (i := 4) (v := ?_) rfl (by kernel_rfl) (by kernel_rfl) (by kernel_rfl) (by decide) [5, 6, 7, 8, 10, 11, 12, 13, 14, 15, 16, 17, 18, 19, 20, 21, 22, 23, 24, 25, 26, 27, 28, 29, 30, 31, 32, 33, 34, 35, 36, 37, 38, 39, 40, 41] (by kernel_rfl) (fun _ _ _ h => h) (Or.inl ⟨by rfl, ?_⟩) (by assumption) ?_
    rotate_left 1
    · (intro w hSw; (try dsimp only at hSw); go_simp; (try with_reducible rfl))
    try simp only [Act.put, List.getElem_toArray, List.getElem_cons_succ, List.getElem_cons_zero, List.setIfInBounds_toArray, List.set_cons_zero, List.set_cons_succ]
    refine wpAnyC_take (i := 5) (v := ?_) rfl (by kernel_rfl) (by kernel_rfl) (by kernel_rfl) (by decide) [6, 7, 8, 10, 11, 12, 13, 14, 15, 16, 17, 18, 19, 20, 21, 22, 23, 24, 25, 26, 27, 28, 29, 30, 31, 32, 33, 34, 35, 36, 37, 38, 39, 40, 41] (by kernel_rfl) (fun _ _ _ h => h) (Or.inl ⟨by rfl, ?_⟩) (by assumption) ?_
    rotate_left 1
    · (intro w hSw; (try dsimp only at hSw); go_simp; (try with_reducible rfl))
    try simp only [Act.put, List.getElem_toArray, List.getElem_cons_succ, List.getElem_cons_zero, List.setIfInBounds_toArray, List.set_cons_zero, List.set_cons_succ]
    refine wpAnyC_take (i := 6) (v := ?_) rfl (by kernel_rfl) (by kernel_rfl) (by kernel_rfl) (by decide) [7, 8, 10, 11, 12, 13, 14, 15, 16, 17, 18, 19, 20, 21, 22, 23, 24, 25, 26, 27, 28, 29, 30, 31, 32, 33, 34, 35, 36, 37, 38, 39, 40, 41] (by kernel_rfl) (fun _ _ _ h => h) (Or.inl ⟨by rfl, ?_⟩) (by assumption) ?_
    rotate_left 1
    · (intro w hSw; (try dsimp only at hSw); go_simp; (try with_reducible rfl))
    try simp only [Act.put, List.getElem_toArray, List.getElem_cons_succ, List.getElem_cons_zero, List.setIfInBounds_toArray, List.set_cons_zero, List.set_cons_succ]
    refine wpAnyC_take (i := 7) (v := ?_) rfl (by kernel_rfl) (by kernel_rfl) (by kernel_rfl) (by decide) [8, 10, 11, 12, 13, 14, 15, 16, 17, 18, 19, 20, 21, 22, 23, 24, 25, 26, 27, 28, 29, 30, 31, 32, 33, 34, 35, 36, 37, 38, 39, 40, 41] (by kernel_rfl) (fun _ _ _ h => h) (Or.inl ⟨by rfl, ?_⟩) (by assumption) ?_
    rotate_left 1
    · (intro w hSw; (try dsimp only at hSw); go_simp; (try with_reducible rfl))
    try simp only [Act.put, List.getElem_toArray, List.getElem_cons_succ, List.getElem_cons_zero, List.setIfInBounds_toArray, List.set_cons_zero, List.set_cons_succ]
    refine wpAnyC_take (i := 8) (v := ?_) rfl (by kernel_rfl) (by kernel_rfl) (by kernel_rfl) (by decide) [10, 11, 12, 13, 14, 15, 16, 17, 18, 19, 20, 21, 22, 23, 24, 25, 26, 27, 28, 29, 30, 31, 32, 33, 34, 35, 36, 37, 38, 39, 40, 41] (by kernel_rfl) (fun _ _ _ h => h) (Or.inl ⟨by rfl, ?_⟩) (by assumption) ?_
    rotate_left 1
    · (intro w hSw; (try dsimp only at hSw); go_simp; (try with_reducible rfl))
    try simp only [Act.put, List.getElem_toArray, List.getElem_cons_succ, List.getElem_cons_zero, List.setIfInBounds_toArray, List.set_cons_zero, List.set_cons_succ]
    refine wpAnyC_ready (rs := [10]) (by kernel_rfl) (by simp) ?_
    refine AllReadyC.cons rfl (by decide) (fun K hK => ?_) AllReadyC.nil
    try simp only [List.getElem_toArray, List.getElem_cons_succ, List.getElem_cons_zero]
    go_simp
    (go_at_call 14; refine (Equal_ (xs := key) (ys := key) ((HBZ.out.step (by (repeat (first | exact Step.refl _ | refine Step.alloc ?_ _ | refine Step.drew ?_ | refine Step.drewN ?_ _ | refine Step.setCell ?_ (by first | exact Nat.le_refl _ | assumption | omega | (simp; done) | (simp; omega)) _ | assumption | refine Step.trans ?_ (by assumption : Step _ _))))).rep (M := fun _ => False) (fun _ _ h => h)) (Ty.step _ H1.out (by (repeat (first | exact Step.refl _ | refine Step.alloc ?_ _ | refine Step.drew ?_ | refine Step.drewN ?_ _ | refine Step.setCell ?_ (by first | exact Nat.le_refl _ | assumption | omega | (simp; done) | (simp; omega)) _ | assumption | refine Step.trans ?_ (by assumption : Step _ _)))))).mono ?_; rintro e w10 ⟨rfl, n10, rfl⟩; rw [decide_eq_true (rfl : key = key)])
    refine hK.out _ _ ?_ (fun hHeld => ?_)
    · (go_keep)
    clear hK K
    try simp only [Act.put, List.getElem_toArray, List.getElem_cons_succ, List.getElem_cons_zero, List.setIfInBounds_toArray, List.set_cons_zero, List.set_cons_succ]
    refine wpAnyC_take (i := 11) (v := ?_) rfl (by kernel_rfl) (by kernel_rfl) (by kernel_rfl) (by decide) [12, 13, 14, 15, 16, 17, 18, 19, 20, 21, 22, 23, 24, 25, 26, 27, 28, 29, 30, 31, 32, 33, 34, 35, 36, 37, 38, 39, 40, 41] (by kernel_rfl) (fun _ _ _ h => h) (Or.inl ⟨by rfl, ?_⟩) (by assumption) ?_
    rotate_left 1
    · (intro w hSw; (try dsimp only at hSw); go_simp; (try with_reducible rfl))
    try simp only [Act.put, List.getElem_toArray, List.getElem_cons_succ, List.getElem_cons_zero, List.setIfInBounds_toArray, List.set_cons_zero, List.set_cons_succ]
    refine wpAnyC_take (i := 12) (v := ?_) rfl (by kernel_rfl) (by kernel_rfl) (by kernel_rfl) (by decide) [13, 14, 15, 16, 17, 18, 19, 20, 21, 22, 23, 24, 25, 26, 27, 28, 29, 30, 31, 32, 33, 34, 35, 36, 37, 38, 39, 40, 41] (by kernel_rfl) (fun _ _ _ h => h) (Or.inl ⟨by rfl, ?_⟩) (by assumption) ?_
    rotate_left 1
    · (intro w hSw; (try dsimp only at hSw); go_simp; (try with_reducible rfl))
    try simp only [Act.put, List.getElem_toArray, List.getElem_cons_succ, List.getElem_cons_zero, List.setIfInBounds_toArray, List.set_cons_zero, List.set_cons_succ]
    refine wpAnyC_take (i := 13) (v := ?_) rfl (by kernel_rfl) (by kernel_rfl) (by kernel_rfl) (by decide) [38, 39, 40, 41] (by kernel_rfl) (fun _ _ _ h => h) (Or.inl ⟨by rfl, ?_⟩) (by assumption) ?_
    rotate_left 1
    · (intro w hSw; (try dsimp only at hSw); go_simp; (try with_reducible rfl))
    try simp only [Act.put, List.getElem_toArray, List.getElem_cons_succ, List.getElem_cons_zero, List.setIfInBounds_toArray, List.set_cons_zero, List.set_cons_succ]
    refine wpAnyC_take (i := 14) (v := ?_) rfl (by kernel_rfl) (by kernel_rfl) (by kernel_rfl) (by decide) [15, 16, 17, 18, 19, 20, 21, 38, 39, 40, 41] (by kernel_rfl) (fun _ _ _ h => h) (Or.inl ⟨by rfl, ?_⟩) (by assumption) ?_
    rotate_left 1
    · (intro w hSw; (try dsimp only at hSw); go_simp; (try with_reducible rfl))
    try simp only [Act.put, List.getElem_toArray, List.getElem_cons_succ, List.getElem_cons_zero, List.setIfInBounds_toArray, List.set_cons_zero, List.set_cons_succ]
    refine wpAnyC_take (i := 15) (v := ?_) rfl (by kernel_rfl) (by kernel_rfl) (by kernel_rfl) (by decide) [16, 17, 18, 19, 20, 21, 38, 39, 40, 41] (by kernel_rfl) (fun _ _ _ h => h) (Or.inl ⟨by rfl, ?_⟩) (by assumption) ?_
    rotate_left 1
    · (intro w hSw; (try dsimp only at hSw); go_simp; (try with_reducible rfl))
    try simp only [Act.put, List.getElem_toArray, List.getElem_cons_succ, List.getElem_cons_zero, List.setIfInBounds_toArray, List.set_cons_zero, List.set_cons_succ]
    refine wpAnyC_take (i := 16) (v := ?_) rfl (by kernel_rfl) (by kernel_rfl) (by kernel_rfl) (by decide) [17, 18, 19, 20, 21, 38, 39, 40, 41] (by kernel_rfl) (fun _ _ _ h => h) (Or.inl ⟨by rfl, ?_⟩) (by assumption) ?_
    rotate_left 1
    · (intro w hSw; (try dsimp only at hSw); go_simp; (try with_reducible rfl))
    try simp only [Act.put, List.getElem_toArray, List.getElem_cons_succ, List.getElem_cons_zero, List.setIfInBounds_toArray, List.set_cons_zero, List.set_cons_succ]
    refine wpAnyC_take (i := 17) (v := ?_) rfl (by kernel_rfl) (by kernel_rfl) (by kernel_rfl) (by decide) [18, 19, 20, 21, 38, 39, 40, 41] (by kernel_rfl) (fun _ _ _ h => h) (Or.inl ⟨by rfl, ?_⟩) (by assumption) ?_
    rotate_left 1
    · (intro w hSw; (try dsimp only at hSw); go_simp; (try with_reducible rfl))
    try simp only [Act.put, List.getElem_toArray, List.getElem_cons_succ, List.getElem_cons_zero, List.setIfInBounds_toArray, List.set_cons_zero, List.set_cons_succ]
    refine wpAnyC_take (i := 18) (v := ?_) rfl (by kernel_rfl) (by kernel_rfl) (by kernel_rfl) (by decide) [19, 20, 21, 38, 39, 40, 41] (by kernel_rfl) (fun _ _ _ h => h) (Or.inl ⟨by rfl, ?_⟩) (by assumption) ?_
    rotate_left 1
    · (intro w hSw; (try dsimp only at hSw); go_simp; (try with_reducible rfl))
    try simp only [Act.put, List.getElem_toArray, List.getElem_cons_succ, List.getElem_cons_zero, List.setIfInBounds_toArray, List.set_cons_zero, List.set_cons_succ]
    refine wpAnyC_take (i := 19) (v := ?_) rfl (by kernel_rfl) (by kernel_rfl) (by kernel_rfl) (by decide) [20, 21, 38, 39, 40, 41] (by kernel_rfl) (fun _ _ _ h => h) (Or.inl ⟨by rfl, ?_⟩) (by assumption) ?_
    rotate_left 1
    · (intro w hSw; (try dsimp only at hSw); go_simp; (try with_reducible rfl))
    try simp only [Act.put, List.getElem_toArray, List.getElem_cons_succ, List.getElem_cons_zero, List.setIfInBounds_toArray, List.set_cons_zero, List.set_cons_succ]
    refine wpAnyC_take (i := 20) (v := ?_) rfl (by kernel_rfl) (by kernel_rfl) (by kernel_rfl) (by decide) [21, 38, 39, 40, 41] (by kernel_rfl) (fun _ _ _ h => h) (Or.inl ⟨by rfl, ?_⟩) (by assumption) ?_
    rotate_left 1
    · (intro w hSw; (try dsimp only at hSw); go_simp; (try with_reducible rfl))
    try simp only [Act.put, List.getElem_toArray, List.getElem_cons_succ, List.getElem_cons_zero, List.setIfInBounds_toArray, List.set_cons_zero, List.set_cons_succ]
    refine wpAnyC_take (i := 21) (v := ?_) rfl (by kernel_rfl) (by kernel_rfl) (by kernel_rfl) (by decide) [38, 39, 40, 41] (by kernel_rfl) (fun _ _ _ h => h) (Or.inl ⟨by rfl, ?_⟩) (by assumption) ?_
    rotate_left 1
    · (intro w hSw; (try dsimp only at hSw); go_simp; (try with_reducible rfl))
    try simp only [Act.put, List.getElem_toArray, List.getElem_cons_succ, List.getElem_cons_zero, List.setIfInBounds_toArray, List.set_cons_zero, List.set_cons_succ]
    refine wpAnyC_take (i := 22) (v := ?_) rfl (by kernel_rfl) (by kernel_rfl) (by kernel_rfl) (by decide) [23, 24, 25, 26, 27, 28, 29, 38, 39, 40, 41] (by kernel_rfl) (fun _ _ _ h => h) (Or.inl ⟨by rfl, ?_⟩) (by assumption) ?_
    rotate_left 1
    · (intro w hSw; (try dsimp only at hSw); go_simp; (try with_reducible rfl))
    try simp only [Act.put, List.getElem_toArray, List.getElem_cons_succ, List.getElem_cons_zero, List.setIfInBounds_toArray, List.set_cons_zero, List.set_cons_succ]
    refine wpAnyC_take (i := 23) (v := ?_) rfl (by kernel_rfl) (by kernel_rfl) (by kernel_rfl) (by decide) [24, 25, 26, 27, 28, 29, 38, 39, 40, 41] (by kernel_rfl) (fun _ _ _ h => h) (Or.inl ⟨by rfl, ?_⟩) (by assumption) ?_
    rotate_left 1
    · (intro w hSw; (try dsimp only at hSw); go_simp; (try with_reducible rfl))
    try simp only [Act.put, List.getElem_toArray, List.getElem_cons_succ, List.getElem_cons_zero, List.setIfInBounds_toArray, List.set_cons_zero, List.set_cons_succ]
    refine wpAnyC_take (i := 24) (v := ?_) rfl (by kernel_rfl) (by kernel_rfl) (by kernel_rfl) (by decide) [25, 26, 27, 28, 29, 38, 39, 40, 41] (by kernel_rfl) (fun _ _ _ h => h) (Or.inl ⟨by rfl, ?_⟩) (by assumption) ?_
    rotate_left 1
    · (intro w hSw; (try dsimp only at hSw); go_simp; (try with_reducible rfl))
    try simp only [Act.put, List.getElem_toArray, List.getElem_cons_succ, List.getElem_cons_zero, List.setIfInBounds_toArray, List.set_cons_zero, List.set_cons_succ]
    refine wpAnyC_take (i := 25) (v := ?_) rfl (by kernel_rfl) (by kernel_rfl) (by kernel_rfl) (by decide) [26, 27, 28, 29, 38, 39, 40, 41] (by kernel_rfl) (fun _ _ _ h => h) (Or.inl ⟨by rfl, ?_⟩) (by assumption) ?_
    rotate_left 1
    · (intro w hSw; (try dsimp only at hSw); go_simp; (try with_reducible rfl))
    try simp only [Act.put, List.getElem_toArray, List.getElem_cons_succ, List.getElem_cons_zero, List.setIfInBounds_toArray, List.set_cons_zero, List.set_cons_succ]
    refine wpAnyC_take (i := 26) (v := ?_) rfl (by kernel_rfl) (by kernel_rfl) (by kernel_rfl) (by decide) [27, 28, 29, 38, 39, 40, 41] (by kernel_rfl) (fun _ _ _ h => h) (Or.inl ⟨by rfl, ?_⟩) (by assumption) ?_
    rotate_left 1
    · (intro w hSw; (try dsimp only at hSw); go_simp; (try with_reducible rfl))
    try simp only [Act.put, List.getElem_toArray, List.getElem_cons_succ, List.getElem_cons_zero, List.setIfInBounds_toArray, List.set_cons_zero, List.set_cons_succ]
    refine wpAnyC_take (i := 27) (v := ?_) rfl (by kernel_rfl) (by kernel_rfl) (by kernel_rfl) (by decide) [28, 29, 38, 39, 40, 41] (by kernel_rfl) (fun _ _ _ h => h) (Or.inl ⟨by rfl, ?_⟩) (by assumption) ?_
    rotate_left 1
    · (intro w hSw; (try dsimp only at hSw); go_simp; (try with_reducible rfl))
    try simp only [Act.put, List.getElem_toArray, List.getElem_cons_succ, List.getElem_cons_zero, List.setIfInBounds_toArray, List.set_cons_zero, List.set_cons_succ]
    refine wpAnyC_take (i := 28) (v := ?_) rfl (by kernel_rfl) (by kernel_rfl) (by kernel_rfl) (by decide) [29, 38, 39, 40, 41] (by kernel_rfl) (fun _ _ _ h => h) (Or.inl ⟨by rfl, ?_⟩) (by assumption) ?_
    rotate_left 1
    · (intro w hSw; (try dsimp only at hSw); go_simp; (try with_reducible rfl))
    try simp only [Act.put, List.getElem_toArray, List.getElem_cons_succ, List.getElem_cons_zero, List.setIfInBounds_toArray, List.set_cons_zero, List.set_cons_succ]
    refine wpAnyC_take (i := 29) (v := ?_) rfl (by kernel_rfl) (by kernel_rfl) (by kernel_rfl) (by decide) [38, 39, 40, 41] (by kernel_rfl) (fun _ _ _ h => h) (Or.inl ⟨by rfl, ?_⟩) (by assumption) ?_
    rotate_left 1
    · (intro w hSw; (try dsimp only at hSw); go_simp; (try with_reducible rfl))
    try simp only [Act.put, List.getElem_toArray, List.getElem_cons_succ, List.getElem_cons_zero, List.setIfInBounds_toArray, List.set_cons_zero, List.set_cons_succ]
    refine wpAnyC_take (i := 30) (v := ?_) rfl (by kernel_rfl) (by kernel_rfl) (by kernel_rfl) (by decide) [31, 32, 33, 34, 35, 36, 37, 38, 39, 40, 41] (by kernel_rfl) (fun _ _ _ h => h) (Or.inl ⟨by rfl, ?_⟩) (by assumption) ?_
    rotate_left 1
    · (intro w hSw; (try dsimp only at hSw); go_simp; (try with_reducible rfl))
    try simp only [Act.put, List.getElem_toArray, List.getElem_cons_succ, List.getElem_cons_zero, List.setIfInBounds_toArray, List.set_cons_zero, List.set_cons_succ]
    refine wpAnyC_take (i := 31) (v := ?_) rfl (by kernel_rfl) (by kernel_rfl) (by kernel_rfl) (by decide) [32, 33, 34, 35, 36, 37, 38, 39, 40, 41] (by kernel_rfl) (fun _ _ _ h => h) (Or.inl ⟨by rfl, ?_⟩) (by assumption) ?_
    rotate_left 1
    · (intro w hSw; (try dsimp only at hSw); go_simp; (try with_reducible rfl))
    try simp only [Act.put, List.getElem_toArray, List.getElem_cons_succ, List.getElem_cons_zero, List.setIfInBounds_toArray, List.set_cons_zero, List.set_cons_succ]
    refine wpAnyC_take (i := 32) (v := ?_) rfl (by kernel_rfl) (by kernel_rfl) (by kernel_rfl) (by decide) [33, 34, 35, 36, 37, 38, 39, 40, 41] (by kernel_rfl) (fun _ _ _ h => h) (Or.inl ⟨by rfl, ?_⟩) (by assumption) ?_
    rotate_left 1
    · (intro w hSw; (try dsimp only at hSw); go_simp; (try with_reducible rfl))
    try simp only [Act.put, List.getElem_toArray, List.getElem_cons_succ, List.getElem_cons_zero, List.setIfInBounds_toArray, List.set_cons_zero, List.set_cons_succ]
    refine wpAnyC_take (i := 33) (v := ?_) rfl (by kernel_rfl) (by kernel_rfl) (by kernel_rfl) (by decide) [34, 35, 36, 37, 38, 39, 40, 41] (by kernel_rfl) (fun _ _ _ h => h) (Or.inl ⟨by rfl, ?_⟩) (by assumption) ?_
    rotate_left 1
    · (intro w hSw; (try dsimp only at hSw); go_simp; (try with_reducible rfl))
    try simp only [Act.put, List.getElem_toArray, List.getElem_cons_succ, List.getElem_cons_zero, List.setIfInBounds_toArray, List.set_cons_zero, List.set_cons_succ]
    refine wpAnyC_take (i := 34) (v := ?_) rfl (by kernel_rfl) (by kernel_rfl) (by kernel_rfl) (by decide) [35, 36, 37, 38, 39, 40, 41] (by kernel_rfl) (fun _ _ _ h => h) (Or.inl ⟨by rfl, ?_⟩) (by assumption) ?_
    rotate_left 1
    · (intro w hSw; (try dsimp only at hSw); go_simp; (try with_reducible rfl))
    try simp only [Act.put, List.getElem_toArray, List.getElem_cons_succ, List.getElem_cons_zero, List.setIfInBounds_toArray, List.set_cons_zero, List.set_cons_succ]
    refine wpAnyC_take (i := 35) (v := ?_) rfl (by kernel_rfl) (by kernel_rfl) (by kernel_rfl) (by decide) [36, 37, 38, 39, 40, 41] (by kernel_rfl) (fun _ _ _ h => h) (Or.inl ⟨by rfl, ?_⟩) (by assumption) ?_
    rotate_left 1
    · (intro w hSw; (try dsimp only at hSw); go_simp; (try with_reducible rfl))
    try simp only [Act.put, List.getElem_toArray, List.getElem_cons_succ, List.getElem_cons_zero, List.setIfInBounds_toArray, List.set_cons_zero, List.set_cons_succ]
    refine wpAnyC_take (i := 36) (v := ?_) rfl (by kernel_rfl) (by kernel_rfl) (by kernel_rfl) (by decide) [37, 38, 39, 40, 41] (by kernel_rfl) (fun _ _ _ h => h) (Or.inl ⟨by rfl, ?_⟩) (by assumption) ?_
    rotate_left 1
    · (intro w hSw; (try dsimp only at hSw); go_simp; (try with_reducible rfl))
    try simp only [Act.put, List.getElem_toArray, List.getElem_cons_succ, List.getElem_cons_zero, List.setIfInBounds_toArray, List.set_cons_zero, List.set_cons_succ]
    refine wpAnyC_take (i := 37) (v := ?_) rfl (by kernel_rfl) (by kernel_rfl) (by kernel_rfl) (by decide) [38, 39, 40, 41] (by kernel_rfl) (fun _ _ _ h => h) (Or.inl ⟨by rfl, ?_⟩) (by assumption) ?_
    rotate_left 1
    · (intro w hSw; (try dsimp only at hSw); go_simp; (try with_reducible rfl))
    try simp only [Act.put, List.getElem_toArray, List.getElem_cons_succ, List.getElem_cons_zero, List.setIfInBounds_toArray, List.set_cons_zero, List.set_cons_succ]
    refine wpAnyC_ready (rs := [38]) (by kernel_rfl) (by simp) ?_
    refine AllReadyC.cons rfl (by decide) (fun K hK => ?_) AllReadyC.nil
    try simp only [List.getElem_toArray, List.getElem_cons_succ, List.getElem_cons_zero]
    go_simp
    refine hK.out _ _ ?_ (fun hHeld => ?_)
    · (go_keep)
    clear hK K
    try simp only [Act.put, List.getElem_toArray, List.getElem_cons_succ, List.getElem_cons_zero, List.setIfInBounds_toArray, List.set_cons_zero, List.set_cons_succ]
    refine wpAnyC_ready (rs := [39]) (by kernel_rfl) (by simp) ?_
    refine AllReadyC.cut rfl (fun K hK => ?_)
    try simp only [List.getElem_toArray, List.getElem_cons_succ, List.getElem_cons_zero]
    go_simp
    (go_at_call 15; refine (Apart_lit (vs := [.slice (some ⟨g1, 0, none⟩) (key.length + 33) (key.length + 33), .slice xa key.length xc, .slice xb key.length xd, .slice xe key.length xf]) (N := fun j => if j = 0 then key.length + 33 else key.length) (HROW.out _ (by (repeat (first | exact Step.refl _ | refine Step.alloc ?_ _ | refine Step.drew ?_ | refine Step.drewN ?_ _ | refine Step.setCell ?_ (by first | exact Nat.le_refl _ | assumption | omega | (simp; done) | (simp; omega)) _ | assumption | refine Step.trans ?_ (by assumption : Step _ _))))) HAPT.out hNm (by simp)).mono ?_; rintro e w11 ⟨rfl, hT11⟩; have HT11 := Lib.hid hT11; clear hT11)
    refine hK.out _ _ trivial (fun hHeld => ?_)
    clear hK K
    try simp only [Act.put, List.getElem_toArray, List.getElem_cons_succ, List.getElem_cons_zero, List.setIfInBounds_toArray, List.set_cons_zero, List.set_cons_succ]
    have hTrue : True := trivial
    refine wpAnyH_take (i := 40) (v := ?_) rfl (by kernel_rfl) (by kernel_rfl) (by kernel_rfl) (fun _ _ _ h => h) (Or.inl ⟨by rfl, ?_⟩) (by assumption) ?_
    rotate_left 1
    · (intro w hSw; (try dsimp only at hSw); go_simp; (try with_reducible rfl))
    try simp only [Act.put, List.getElem_toArray, List.getElem_cons_succ, List.getElem_cons_zero, List.setIfInBounds_toArray, List.set_cons_zero, List.set_cons_succ]
    refine wpAnyH_take (i := 41) (v := ?_) rfl (by kernel_rfl) (by kernel_rfl) (by kernel_rfl) (fun _ _ _ h => h) (Or.inl ⟨by rfl, ?_⟩) (by assumption) ?_
    rotate_left 1
    · (intro w hSw; (try dsimp only at hSw); go_simp; (try with_reducible rfl))
    try simp only [Act.put, List.getElem_toArray, List.getElem_cons_succ, List.getElem_cons_zero, List.setIfInBounds_toArray, List.set_cons_zero, List.set_cons_succ]
    refine wpAnyH_done (by kernel_rfl) ?_ _
    refine wp_at (fun W => Turn (fun b => b = g1 ∨ w4.heap.size ≤ b) w8 W) ?_ ?_
    · first
      | exact (Turn.of (by (repeat (first | exact Step.refl _ | refine Step.alloc ?_ _ | refine Step.drew ?_ | refine Step.drewN ?_ _ | refine Step.setCell ?_ (by first | exact Nat.le_refl _ | assumption | omega | (simp; done) | (simp; omega)) _ | assumption | refine Step.trans ?_ (by assumption : Step _ _))))).trans (HT11.out.mono (fun b _ hb => HOM.out b hb))
      | exact ((Turn.of (by (repeat (first | exact Step.refl _ | refine Step.alloc ?_ _ | refine Step.drew ?_ | refine Step.drewN ?_ _ | refine Step.setCell ?_ (by first | exact Nat.le_refl _ | assumption | omega | (simp; done) | (simp; omega)) _ | assumption | refine Step.trans ?_ (by assumption : Step _ _))))).trans (HT11.out.mono (fun b _ hb => HOM.out b hb))).drew
    rintro W hTW
    have hzW := hTW.size
    have hTW4 : Turn (fun b => b = g1 ∨ w4.heap.size ≤ b) w4 W := (hT48.mono (fun b _ hb => .inl hb)).trans hTW
    have HCW := Lib.hid (HC4.out.keep (fun b h1 h2 => hTW4.block b h1 (fun h => by rcases h with h | h <;> omega)))
    have hSW : Step w W := Turn.step hS08 hTW (fun b hb => by rcases hb with hb | hb <;> omega)
    have W0 : W.cell? ⟨w1.heap.size, 0, none⟩ = some (.int .u64 2) := (hTW.cell (by omega) (by omega) 0).trans Z0
    have W1 : W.cell? ⟨w1.heap.size, 1, none⟩ = some (.int .u64 0) := (hTW.cell (by omega) (by omega) 1).trans Z1
    have W2 : W.cell? ⟨w1.heap.size, 2, none⟩ = some (.int .u64 3) := (hTW.cell (by omega) (by omega) 2).trans Z2
    have hBW : B ≤ W.heap.size := by omega
    have hXB : w1.heap.size < B := by omega
    have hob := HCW.out.omo ob rfl
    have hnb := HCW.out.omu nb rfl
    have hobW := HCW.out.outs.lt (b := ob) rfl
    have hnbW := HCW.out.out.lt (b := nb) rfl
    have hcbW := HCW.out.lt
    have hwX : w.heap.size ≤ w1.heap.size := by omega
    have hSW' := Lib.hid hSW
    clear hTW hTW4 hSW HT11 HBZ HOM HROW HAPT HC8 HC4 HB1 HC3 hT48 hT28 hS08 hS06 hS02 hS26 e8 e81 e82 et et1 Z0 Z1 Z2 hHeld s9a s9b s9c s9d hS9 hq9 hz9 hg9 hh8 hNm hz3 hz4 hz5 hz6 hz7 hz8
    go_upto_region 16 with (first
      | (go_at_call 16; refine (cAnswer_one (c := coordK key) (p := ⟨0, [opK key], [0]⟩) (l := [(0, askK txnK key)]) (x := ⟨2, 0, 0, txnK, 0, 0, ⟨0, 0, [[]], []⟩, false, [], 0⟩) (HCW.out.keep (fun b h1 _ => Step.heap (by (repeat (first | exact Step.refl _ | refine Step.alloc ?_ _ | refine Step.drew ?_ | refine Step.drewN ?_ _ | refine Step.setCell ?_ (by first | exact Nat.le_refl _ | assumption | omega | (simp; done) | (simp; omega)) _ | assumption | refine Step.trans ?_ (by assumption : Step _ _))) : Step W _) h1)) (Nat.le_trans hBW (by simp)) (fun p hp => by (simp at hp; subst hp; rfl)) ⟨_, List.mem_singleton.2 rfl, rfl⟩ rfl rfl rfl rfl rfl rfl rfl rfl rfl (nilrow_rep (fun b hb => by (rcases hb with hb | hb | hb | hb; omega; omega; (obtain rfl : ob = b := by simpa [mapBlock] using hb); omega; (obtain rfl : nb = b := by simpa [mapBlock] using hb); omega)))).mono ?_; rintro e w12 ⟨rfl, ⟨vr2, r2, hC12⟩, hT12⟩; have HC12 := Lib.hid hC12; clear hC12)
      | (go_at_call 17; refine (cOpen_ HC12.out (Nat.le_trans hBW (Nat.le_trans (by simp) hT12.size)) (by simp) rfl rfl).mono ?_; rintro e w13 ⟨v13, mu13, rfl, hC13, hT13⟩; have HC13 := Lib.hid hC13; clear hC13))
    have hTW13 : Turn (fun b => b = cb ∨ b = ob ∨ b = nb) W w13 := ((Turn.of (by (repeat (first | exact Step.refl _ | refine Step.alloc ?_ _ | refine Step.drew ?_ | refine Step.drewN ?_ _ | refine Step.setCell ?_ (by first | exact Nat.le_refl _ | assumption | omega | (simp; done) | (simp; omega)) _ | assumption | refine Step.trans ?_ (by assumption : Step _ _))))).trans hT12).trans (hT13.mono (fun b _ h => .inl h))
    have hz13 := hTW13.size
    have hS013 : Step w w13 := Turn.step hSW'.out hTW13 (fun b hb => by rcases hb with hb | hb | hb <;> omega)
    have V0 : w13.cell? ⟨w1.heap.size, 0, none⟩ = some (.int .u64 2) := (hTW13.cell (by omega) (by omega) 0).trans W0
    have V1 : w13.cell? ⟨w1.heap.size, 1, none⟩ = some (.int .u64 0) := (hTW13.cell (by omega) (by omega) 1).trans W1
    have V2 : w13.cell? ⟨w1.heap.size, 2, none⟩ = some (.int .u64 3) := (hTW13.cell (by omega) (by omega) 2).trans W2
    obtain ⟨nb2, rfl, _⟩ := HC13.out.out
    have hcb13 : cb < w13.heap.size := HC13.out.lt
    have hX13 : w1.heap.size < w13.heap.size := by omega
    have hB13 : B ≤ w13.heap.size := by omega
    clear hTW13 hT12 hT13 HC12 HCW W0 W1 W2 hSW' hob hnb hobW hnbW
    go_upto_region 18 with (first
      | (go_at_call 8; refine (Spare_ (b := reply) (Ty.step _ H2.out hS013) (by omega)).mono ?_; rintro e w14 ⟨g2, rfl, hg2, hB2, hS14⟩; have x14 : ∀ j, w14.cell? ⟨w1.heap.size, j, none⟩ = _ := fun j => hS14.cell hX13 j; have hz14 := hS14.size; have HB2 := Lib.hid hB2; clear hB2)
      | (go_at_call 16; refine (cAnswer_single (c := { coordK key with outs := some [(0, ⟨0, 0, [[]], []⟩)], out := some [], reply := r2, commit := true, phase := 2, wants := 0, age := 0 }) (l := asksOf txnK [0] (fun _ => singleAsk r2)) (x := ⟨4, 0, 0, txnK, 0, 0, ⟨0, 0, [], []⟩, true, reply, 0⟩) (r := reply) (HC13.out.keep (fun b h1 _ => hS14.heap h1)) (by omega) ⟨by decide, by decide⟩ (asks_kindK (fun _ => rfl)) asks_0 rfl rfl rfl ((HB2.out.pre (zs := reply) ⟨_, rfl⟩).rep (M := fun _ => False) (fun _ _ h => h))).mono ?_; rintro e w15 ⟨rfl, ⟨vr3, hC15, hBR15, hfr15⟩, hT15⟩; obtain ⟨ra, rc, rfl⟩ := hBR15.val; have HC15 := Lib.hid hC15; have HBR15 := Lib.hid hBR15; clear hC15 hBR15))
    have hg2l : g2 < w14.heap.size := HB2.out.lt rfl
    have hz15 := hT15.size
    have HB15 := Lib.hid (HB2.out.turn hT15 (fun g hg h => by
      obtain rfl : g2 = g := by simpa [Value.ownBlock] using hg
      omega))
    have hS015 : Step w w15 := Turn.step (hS013.trans hS14) hT15 (fun b hb => by omega)
    have c15_12 : w15.cell? ⟨cb, 12, none⟩ = some (.bool true) := HC15.out.cells.cell 12
    have c15_11 : w15.cell? ⟨cb, 11, none⟩ = some (.slice ra reply.length rc) := HC15.out.cells.cell 11
    have hcb15 : cb < w15.heap.size := by omega
    clear HB2 HC13 HC15 V0 V1 V2 x14
    go_upto_region 21 with (first
      | (go_at_call 12; refine (Kept_ (b := reply) (HB15.out.rep (M := fun _ => False) (fun _ _ h => h)) (Ty.step _ H2.out hS015) (by omega)).mono ?_; rintro e w16 ⟨rfl, hS16⟩)
      | (go_at_call 13; refine (Over_ ((HB15.out.step hS16).pre (zs := reply) ⟨_, rfl⟩)).mono ?_; rintro e w17 ⟨rfl, hR17, hT17⟩))
    have hT17' : Turn (· = g2) w16 w17 := hT17.mono (fun b _ hb => by simpa [Value.ownBlock] using hb.symm)
    have hz16 := hS16.size
    have hz17 := hT17'.size
    obtain ⟨ys2, hys2, hF17⟩ := hR17 _ _ (HB15.out.step hS16)
    rw [spareB_len] at hys2
    have hS017 : Step w w17 := Turn.step (hS015.trans hS16) hT17' (fun b hb => by omega)
    have d12 : w17.cell? ⟨cb, 12, none⟩ = some (.bool true) := ((hT17'.cell (by omega) (by omega) 12).trans (hS16.cell hcb15 12)).trans c15_12
    have d11 : w17.cell? ⟨cb, 11, none⟩ = some (.slice ra reply.length rc) := ((hT17'.cell (by omega) (by omega) 11).trans (hS16.cell hcb15 11)).trans c15_11
    have HV17 := Lib.hid ((HBR15.out.step hS16).turn hT17' (fun g hg h => by have := hfr15 g hg; omega))
    have HF17 := Lib.hid hF17
    have hcb17 : cb < w17.heap.size := by omega
    clear hR17 hT17 hF17 HB15 HBR15 hfr15 c15_11 c15_12 hS16 hT17' hS015
    go_upto_region 22 with (go_at_call 18; refine (cReply_yes d12 d11 (HV17.out.rep (M := fun _ => False) (fun _ _ h => h))).mono ?_; rintro e w18 ⟨v18, rfl, hA18, hS18⟩; obtain ⟨ua, uc, rfl⟩ := hA18.val)
    have e12 := (hS18.cell hcb17 12).trans d12
    have e11 := (hS18.cell hcb17 11).trans d11
    have hz18 := hS18.size
    go_upto_region 23 with (go_at_call 18; refine (cReply_yes e12 e11 ((HV17.out.step hS18).rep (M := fun _ => False) (fun _ _ h => h))).mono ?_; rintro e w19 ⟨v19, rfl, hA19, hS19⟩; obtain ⟨ub, uf, rfl⟩ := hA19.val)
    have hz19 := hS19.size
    have hl18 : ∀ g, (Value.slice ua reply.length uc).ownBlock = some g → w17.heap.size ≤ g ∧ g < w18.heap.size := fun g hg => hA18.lt hg
    have hl19 : ∀ g, (Value.slice ub reply.length uf).ownBlock = some g → w18.heap.size ≤ g := fun g hg => (hA19.lt hg).1
    have hg2f : ∀ g, (Value.slice (some ⟨g2, 0, none⟩) (reply.length + 33) (reply.length + 33)).ownBlock = some g → g = g2 := fun g hg => by simpa [Value.ownBlock] using hg.symm
    have HU := Lib.hid ((BR.of hA18).step hS19)
    have HV := Lib.hid (BR.of hA19)
    have HF := Lib.hid (HF17.out.step (hS18.trans hS19))
    have hS019 : Step w w19 := hS017.trans (hS18.trans hS19)
    have HAP : Hid (Apt [.slice (some ⟨g2, 0, none⟩) (reply.length + 33) (reply.length + 33), .slice ua reply.length uc, .slice ub reply.length uf]) := Lib.hid (by
      intro i j hi hj g hgi hgj
      simp only [List.length_cons, List.length_nil] at hi hj
      rcases i with _ | _ | _ | i <;> rcases j with _ | _ | _ | j <;> simp only [List.getElem_cons_zero, List.getElem_cons_succ] at hgi hgj <;> first
        | rfl
        | (exfalso; have := hg2f g hgi; have := hl18 g hgj; omega)
        | (exfalso; have := hg2f g hgi; have := hl19 g hgj; omega)
        | (exfalso; have := hl18 g hgi; have := hg2f g hgj; omega)
        | (exfalso; have := hl18 g hgi; have := hl19 g hgj; omega)
        | (exfalso; have := hl19 g hgi; have := hg2f g hgj; omega)
        | (exfalso; have := hl19 g hgi; have := hl18 g hgj; omega)
        | (exfalso; omega))
    have HRO : Hid (∀ W, Step w19 W → ∀ j (hj : j < [Value.slice (some ⟨g2, 0, none⟩) (reply.length + 33) (reply.length + 33), .slice ua reply.length uc, .slice ub reply.length uf].length), ∃ ys : List UInt8, ys.length = (if j = 0 then reply.length + 33 else reply.length) ∧ BR 5 W [Value.slice (some ⟨g2, 0, none⟩) (reply.length + 33) (reply.length + 33), .slice ua reply.length uc, .slice ub reply.length uf][j] ys) := Lib.hid (by
      intro W hW j hj
      simp only [List.length_cons, List.length_nil] at hj
      rcases j with _ | _ | _ | j
      · exact ⟨ys2, by simpa using hys2, HF.out.step hW⟩
      · exact ⟨reply, by simp, HU.out.step hW⟩
      · exact ⟨reply, by simp, HV.out.step hW⟩
      · omega)
    have HOW : Hid (∀ b, ownM [.slice (some ⟨g2, 0, none⟩) (reply.length + 33) (reply.length + 33), .slice ua reply.length uc, .slice ub reply.length uf] b → w.heap.size ≤ b) := Lib.hid (by
      rintro b ⟨j, hj, hb⟩
      simp only [List.length_cons, List.length_nil] at hj
      rcases j with _ | _ | _ | j
      · have := hg2f b hb; omega
      · have := hl18 b hb; omega
      · have := hl19 b hb; omega
      · omega)
    have hNm : ∀ j, (if j = 0 then reply.length + 33 else reply.length) ≤ 8589934592 := fun j => by split <;> omega
    clear hA18 hA19 HV17 HF17 hS18 hS19 d11 d12 e11 e12 hl18 hl19 hg2f
    go_wp2_with (first
      | (go_at_call 14; refine (Equal_ (xs := reply) (ys := reply) ((HU.out.step (by (repeat (first | exact Step.refl _ | refine Step.alloc ?_ _ | refine Step.drew ?_ | refine Step.drewN ?_ _ | refine Step.setCell ?_ (by first | exact Nat.le_refl _ | assumption | omega | (simp; done) | (simp; omega)) _ | assumption | refine Step.trans ?_ (by assumption : Step _ _))))).rep (M := fun _ => False) (fun _ _ h => h)) (Ty.step _ H2.out (by (repeat (first | exact Step.refl _ | refine Step.alloc ?_ _ | refine Step.drew ?_ | refine Step.drewN ?_ _ | refine Step.setCell ?_ (by first | exact Nat.le_refl _ | assumption | omega | (simp; done) | (simp; omega)) _ | assumption | refine Step.trans ?_ (by assumption : Step _ _)))))).mono ?_; rintro e w20 ⟨rfl, n20, rfl⟩; rw [decide_eq_true (rfl : reply = reply)])
      | (go_at_call 15; refine (Apart_lit (vs := [.slice (some ⟨g2, 0, none⟩) (reply.length + 33) (reply.length + 33), .slice ua reply.length uc, .slice ub reply.length uf]) (N := fun j => if j = 0 then reply.length + 33 else reply.length) (HRO.out _ (by (repeat (first | exact Step.refl _ | refine Step.alloc ?_ _ | refine Step.drew ?_ | refine Step.drewN ?_ _ | refine Step.setCell ?_ (by first | exact Nat.le_refl _ | assumption | omega | (simp; done) | (simp; omega)) _ | assumption | refine Step.trans ?_ (by assumption : Step _ _))))) HAP.out hNm (by simp)).mono ?_; rintro e w21 ⟨rfl, hT21⟩; have HT21 := Lib.hid hT21; clear hT21))
    go_ret
    exact ⟨rfl, Turn.step (by (repeat (first | exact Step.refl _ | refine Step.alloc ?_ _ | refine Step.drew ?_ | refine Step.drewN ?_ _ | refine Step.setCell ?_ (by first | exact Nat.le_refl _ | assumption | omega | (simp; done) | (simp; omega)) _ | assumption | refine Step.trans ?_ (by assumption : Step _ _)))) HT21.out HOW.out⟩
  · go_wp2_with (go_at_call 7; refine (awake_ _).mono ?_; rintro e w1 ⟨rfl, hS1⟩)
    go_ret
    exact ⟨rfl, by (repeat (first | exact Step.refl _ | refine Step.alloc ?_ _ | refine Step.drew ?_ | refine Step.drewN ?_ _ | refine Step.setCell ?_ (by first | exact Nat.le_refl _ | assumption | omega | (simp; done) | (simp; omega)) _ | assumption | refine Step.trans ?_ (by assumption : Step _ _)))⟩
end Go.Proofs.YthflkfgiclcdiaaGreat
