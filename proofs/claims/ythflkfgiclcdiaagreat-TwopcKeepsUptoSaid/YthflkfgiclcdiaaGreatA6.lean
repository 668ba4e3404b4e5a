/-
  What is sent, with each operation as rows of its own: twin of one operation, Retry, send, Begin.
-/
import Derived.Test.YthflkfgiclcdiaaGreatC5
import Derived.Test.YthflkfgiclcdiaaGreatBrow
namespace Go.Proofs.YthflkfgiclcdiaaGreat
open Go.Gr Go.RowKit
set_option linter.unusedSimpArgs false
/-- An operation whose key and value are rows of their own. -/
def tOpO : Ty DOp where
  n := 4
  rep := fun w M cs x => ∃ c1 c2, cs = [.int .i64 x.kind, c1, c2, .int .i64 x.most] ∧ I64 x.kind ∧ BR 5 w c1 x.key ∧ BR 5 w c2 x.value ∧ I64 x.most ∧ (∀ g, c1.ownBlock = some g → ¬ M g ∧ c2.ownBlock ≠ some g) ∧ (∀ g, c2.ownBlock = some g → ¬ M g)
  len := by rintro w M cs x ⟨_, _, rfl, _⟩; rfl
  one := by
    rintro w M cs x ⟨e0, e1, rfl, h0, h1, h2, h3⟩ u hu
    simp only [List.mem_cons, List.not_mem_nil, or_false] at hu
    rcases hu with rfl | rfl | rfl | rfl
    · rfl
    · exact h1.one
    · exact h2.one
    · rfl
  keep := by
    rintro w w2 M M2 cs x ⟨e0, e1, rfl, h0, h1, h2, h3, h4, h5⟩ hk
    exact ⟨e0, e1, rfl, h0, h1.kept fun g hg => (hk g (h1.lt hg) (h4 g hg).1).1, h2.kept fun g hg => (hk g (h2.lt hg) (h5 g hg)).1, h3, fun g hg => ⟨(hk g (h1.lt hg) (h4 g hg).1).2, (h4 g hg).2⟩, fun g hg => (hk g (h2.lt hg) (h5 g hg)).2⟩
def tSendO : Ty DSend where
  n := 13
  rep := fun w M cs x => ∃ c8 c10, cs = [.int .i64 x.shard, .int .i64 x.ask.kind, .int .u64 (x.ask.inc : Int), .int .u64 (x.ask.head : Int), .int .u64 (x.ask.boot : Int), .int .u64 (x.ask.txn.boot : Int), .int .u64 (x.ask.txn.session : Int), .int .u64 (x.ask.txn.seq : Int), c8, .bool x.ask.commit, c10, .int .u64 (x.ask.id : Int), .string ⟨x.ask.name.toArray⟩] ∧ I64 x.shard ∧ I64 x.ask.kind ∧ x.ask.inc < 18446744073709551616 ∧ x.ask.head < 18446744073709551616 ∧ x.ask.boot < 18446744073709551616 ∧ x.ask.txn.boot < 18446744073709551616 ∧ x.ask.txn.session < 18446744073709551616 ∧ x.ask.txn.seq < 18446744073709551616 ∧ (Ty.slice tOpO).rep w M [c8] x.ask.ops ∧ (Ty.bytes).rep w M [c10] x.ask.reply ∧ x.ask.id < 18446744073709551616 ∧ x.ask.name.length ≤ lim
  len := by rintro w M cs x ⟨_, _, rfl, _, _, _, _, _, _, _, _, _, _, _, _⟩; rfl
  one := by
    rintro w M cs x ⟨e0, e1, rfl, h0, h1, h2, h3, h4, h5, h6, h7, h8, h9, h10, h11⟩ u hu
    simp only [List.mem_cons, List.not_mem_nil, or_false] at hu
    rcases hu with rfl | rfl | rfl | rfl | rfl | rfl | rfl | rfl | rfl | rfl | rfl | rfl | rfl
    · rfl
    · rfl
    · rfl
    · rfl
    · rfl
    · rfl
    · rfl
    · rfl
    · exact (Ty.slice tOpO).one h8 _ (by simp)
    · rfl
    · exact (Ty.bytes).one h9 _ (by simp)
    · rfl
    · rfl
  keep := by
    rintro w w2 M M2 cs x ⟨e0, e1, rfl, h0, h1, h2, h3, h4, h5, h6, h7, h8, h9, h10, h11⟩ hk
    exact ⟨e0, e1, rfl, h0, h1, h2, h3, h4, h5, h6, h7, (Ty.slice tOpO).keep h8 hk, (Ty.bytes).keep h9 hk, h10, h11⟩

/-- A row of one element is turned at two of its cells, and reads otherwise. -/
theorem Own.put2x {α : Type} {E E' : Ty α} {e : TypeId} {w : World} {M' : Nat → Prop} {M : Nat → Nat → Prop} {B g c j1 j2 : Nat} {u1 u2 : Value} {es : List Value} {x : α} (hn : E'.n = E.n) (h : OwnG E e w M B (.slice (some ⟨g, 0, none⟩) 1 c) [x]) (h1 : j1 < E.n) (h2 : j2 < E.n)
    (hl : es.length = E.n) (hc : ∀ j u, es[j]? = some u → w.cell? ⟨g, j, none⟩ = some u) (hr : E'.rep w (fun b => M' b ∨ b = g) ((es.set j1 u1).set j2 u2) x) :
    Own E' e ((w.setCell ⟨g, j1, none⟩ u1).setCell ⟨g, j2, none⟩ u2) M' B (.slice (some ⟨g, 0, none⟩) 1 c) [x] := by
  obtain ⟨hlm, cells, ho, hrs⟩ := h
  have hce : cells = es := List.ext_getElem (by rw [ho.1, hl]; simp) fun j h3 h4 => by
    have h5 := hc j es[j] (List.getElem?_eq_getElem h4)
    rw [World.ownsRow.cellAt (n := 1) ho j (by omega)] at h5
    rw [List.getElem?_eq_getElem h3] at h5
    simpa using h5
  subst hce
  have s1 := (World.ownsRow.stored (n := 1) ho j1 u1).1
  have s2 := (World.ownsRow.stored (n := 1) s1 j2 u2).1
  refine ⟨hlm, _, by rw [hn]; exact s2, fun i hi => ?_⟩
  obtain rfl : i = 0 := by simpa using hi
  rw [grp_self (by rw [hn]; simpa using hl)]
  refine E'.keep hr fun b hb hm => ⟨?_, fun hm' => hm ?_⟩
  · have hne : b ≠ g := fun e => hm (.inr e)
    rw [heap_setCell_other _ _ _ _ hne, heap_setCell_other _ _ _ _ hne]
  · rcases hm' with hm' | hm'
    · exact .inl hm'
    · exact .inr (by simpa [Value.ownBlock] using hm'.symm)
set_option maxRecDepth 100000 in
set_option maxHeartbeats 2000000 in
theorem twinO_ (w : World) (M : Nat → Prop) (v : Value) (xs : List DOp) (h : (Ty.slice tOp).rep w M [v] xs) (h1 : xs.length = 1) :
    Calls Tryz.prog 43 #[v] w fun e w' => ∃ v', e = .returned v' ∧ Own tOpO 32 w' (· < w.heap.size) w.heap.size v' xs ∧ Step w w' := by
  obtain ⟨x, rfl⟩ : ∃ x, xs = [x] := List.length_eq_one_iff.1 h1
  obtain ⟨a, c, rfl, hc, hm, hl⟩ := Ty.slice_val h
  have H := Lib.hid h
  clear h hc hm hl h1
  go_enter Tryz.func43, Tryz.ntmps43
  go_wp2_with (go_at_call 89; refine (CloneOps_ _ M (fun _ => False) _ [x] (by refine Ty.step _ (Hid.out (by assumption)) ?_; (repeat (first | exact Step.refl _ | refine Step.alloc ?_ _ | refine Step.drew ?_ | refine Step.drewN ?_ _ | refine Step.setCell ?_ (by first | exact Nat.le_refl _ | assumption | omega | (simp; done) | (simp; omega)) _ | assumption | refine Step.trans ?_ (by assumption : Step _ _)))) (fun _ _ h => h.elim)).mono ?_; rintro e w1 ⟨v1, rfl, hA1, hS1⟩; obtain ⟨a1, c1, rfl⟩ := hA1.val; have HA1 := Lib.hid (OwnG.of hA1); clear hA1)
  go_loopw [4, 5, 10] (fun _ _ i w' => ∃ k : Nat, i = .int .i64 k ∧ k ≤ 1 ∧ (k = 0 → Hid (OwnG tOp 32 w' (fun _ _ => False) w.heap.size (.slice a1 1 c1) [x])) ∧ (k = 1 → Hid (Own tOpO 32 w' (· < w.heap.size) w.heap.size (.slice a1 1 c1) [x])) ∧ Step w w') (fun _ _ i _ => 1 - (intOf i).toNat)
  case atStart => exact ⟨0, rfl, by omega, fun _ => HA1, fun h => absurd h (by omega), by (repeat (first | exact Step.refl _ | refine Step.alloc ?_ _ | refine Step.drew ?_ | refine Step.drewN ?_ _ | refine Step.setCell ?_ (by first | exact Nat.le_refl _ | assumption | omega | (simp; done) | (simp; omega)) _ | assumption | refine Step.trans ?_ (by assumption : Step _ _)))⟩
  case round =>
    obtain ⟨k, rfl, hk, hG0, hG1, hB⟩ := hrel
    by_cases hlt : k < 1
    · obtain rfl : k = 0 := by omega
      have hG := hG0 rfl
      clear hG0 hG1
      obtain ⟨g, es, rfl, hgB, hgs, hE, hcE, hfz⟩ := OwnG.at hG.out (k := 0) (by simp)
      simp only [List.getElem_cons_zero] at hE
      obtain ⟨oc1, oc2, rfl, oh0, oh1, oh2, oh3⟩ := hE
      have oq0 := hcE 0 _ rfl
      have oq1 := hcE 1 _ rfl
      have oq2 := hcE 2 _ rfl
      have oq3 := hcE 3 _ rfl
      simp only [show tOp.n = 4 from rfl, Nat.add_zero, Nat.zero_mul, Nat.zero_add] at oq0 oq1 oq2 oq3 hcE
      obtain ⟨oa1, on1, rfl, _⟩ := Ty.slice_val oh1
      obtain ⟨oa2, on2, rfl, _⟩ := Ty.slice_val oh2
      have oH0 := Lib.hid oh0
      have oH1 := Lib.hid oh1
      have oH2 := Lib.hid oh2
      have oH3 := Lib.hid oh3
      have hcE := Lib.hid hcE
      clear oh0 oh1 oh2 oh3
      have hne : ¬ g = wr.heap.size := by omega
      have hne' : ¬ wr.heap.size = g := by omega
      have f1 : wr.frozen? ⟨g, 1, none⟩ = false := by have := hfz 1; exact this
      have f2 : wr.frozen? ⟨g, 2, none⟩ = false := by have := hfz 2; exact this
      clear hfz
      go_wp2
      refine wp_region_held_drew (S := (fun w' => w'.cell? ⟨wr.heap.size, 1, none⟩ = some (.slice oa1 x.key.length on1) ∧ w'.cell? ⟨wr.heap.size, 2, none⟩ = some (.slice oa2 x.value.length on2))) (by kernel_rfl) ?_ (fun hHeld => ?_)
      · (go_keep)
      refine wpAnyH_take (i := 0) (v := ?_) rfl (by kernel_rfl) (by kernel_rfl) (by kernel_rfl) (fun _ _ _ h => h) (Or.inl ⟨by rfl, ?_⟩) (by assumption) ?_
      rotate_left 1
      · (intro w hSw; (try dsimp only at hSw); go_simp; (try with_reducible rfl))
      try simp only [Act.put, List.getElem_toArray, List.getElem_cons_succ, List.getElem_cons_zero, List.setIfInBounds_toArray, List.set_cons_zero, List.set_cons_succ]
      refine wpAnyH_take (i := 1) (v := ?_) rfl (by kernel_rfl) (by kernel_rfl) (by kernel_rfl) (fun _ _ _ h => h) (Or.inl ⟨by rfl, ?_⟩) (by assumption) ?_
      rotate_left 1
      · (intro w hSw; (try dsimp only at hSw); go_simp; (try with_reducible rfl))
      try simp only [Act.put, List.getElem_toArray, List.getElem_cons_succ, List.getElem_cons_zero, List.setIfInBounds_toArray, List.set_cons_zero, List.set_cons_succ]
      refine wpAnyH_take (i := 2) (v := ?_) rfl (by kernel_rfl) (by kernel_rfl) (by kernel_rfl) (fun _ _ _ h => h) (Or.inl ⟨by rfl, ?_⟩) (by assumption) ?_
      rotate_left 1
      · (intro w hSw; (try dsimp only at hSw); go_simp; (try with_reducible rfl))
      try simp only [Act.put, List.getElem_toArray, List.getElem_cons_succ, List.getElem_cons_zero, List.setIfInBounds_toArray, List.set_cons_zero, List.set_cons_succ]
      refine wpAnyH_take (i := 3) (v := ?_) rfl (by kernel_rfl) (by kernel_rfl) (by kernel_rfl) (fun _ _ _ h => h) (Or.inl ⟨by rfl, ?_⟩) (by assumption) ?_
      rotate_left 1
      · (intro w hSw; (try dsimp only at hSw); go_simp; (try with_reducible rfl))
      try simp only [Act.put, List.getElem_toArray, List.getElem_cons_succ, List.getElem_cons_zero, List.setIfInBounds_toArray, List.set_cons_zero, List.set_cons_succ]
      refine wpAnyH_take (i := 4) (v := ?_) rfl (by kernel_rfl) (by kernel_rfl) (by kernel_rfl) (fun _ _ _ h => h) (Or.inl ⟨by rfl, ?_⟩) (by assumption) ?_
      rotate_left 1
      · (intro w hSw; (try dsimp only at hSw); go_simp; (try with_reducible rfl))
      try simp only [Act.put, List.getElem_toArray, List.getElem_cons_succ, List.getElem_cons_zero, List.setIfInBounds_toArray, List.set_cons_zero, List.set_cons_succ]
      refine wpAnyH_take (i := 5) (v := ?_) rfl (by kernel_rfl) (by kernel_rfl) (by kernel_rfl) (fun _ _ _ h => h) (Or.inl ⟨by rfl, ?_⟩) (by assumption) ?_
      rotate_left 1
      · (intro w hSw; (try dsimp only at hSw); go_simp; (try with_reducible rfl))
      try simp only [Act.put, List.getElem_toArray, List.getElem_cons_succ, List.getElem_cons_zero, List.setIfInBounds_toArray, List.set_cons_zero, List.set_cons_succ]
      refine wpAnyH_take (i := 7) (v := ?_) rfl (by kernel_rfl) (by kernel_rfl) (by kernel_rfl) (fun _ _ _ h => h) (Or.inl ⟨by rfl, ?_⟩) (by assumption) ?_
      rotate_left 1
      · (intro w hSw; (try dsimp only at hSw); go_simp; (try with_reducible rfl))
      try simp only [Act.put, List.getElem_toArray, List.getElem_cons_succ, List.getElem_cons_zero, List.setIfInBounds_toArray, List.set_cons_zero, List.set_cons_succ]
      refine wpAnyH_take (i := 8) (v := ?_) rfl (by kernel_rfl) (by kernel_rfl) (by kernel_rfl) (fun _ _ _ h => h) (Or.inl ⟨by rfl, ?_⟩) (by assumption) ?_
      rotate_left 1
      · (intro w hSw; (try dsimp only at hSw); go_simp; (try with_reducible rfl))
      try simp only [Act.put, List.getElem_toArray, List.getElem_cons_succ, List.getElem_cons_zero, List.setIfInBounds_toArray, List.set_cons_zero, List.set_cons_succ]
      refine wpAnyH_ready (rs := [6]) (by kernel_rfl) (by simp) ?_
      refine AllReadyH.cons rfl (fun K hK => ?_) AllReadyH.nil
      try simp only [List.getElem_toArray, List.getElem_cons_succ, List.getElem_cons_zero]
      go_simp
      (go_at_call 54; refine (Clone_ _ _ _ _ (by refine Ty.step _ (Hid.out (by assumption)) ?_; (repeat (first | exact Step.refl _ | refine Step.alloc ?_ _ | refine Step.drew ?_ | refine Step.drewN ?_ _ | refine Step.setCell ?_ (by first | exact Nat.le_refl _ | assumption | omega | (simp; done) | (simp; omega)) _ | assumption | refine Step.trans ?_ (by assumption : Step _ _))))).mono ?_; rintro e2 w2 ⟨v2, rfl, hA2, hS2⟩; obtain ⟨b2, m2, rfl⟩ := hA2.val; have s2_0 : ∀ j, w2.cell? ⟨wr.heap.size, j, none⟩ = _ := fun j => hS2.cell (by first | assumption | omega | (simp; done) | (simp; omega)) j; have z2_0 : wr.heap.size < w2.heap.size := Nat.lt_of_lt_of_le (by first | assumption | omega | (simp; done) | (simp; omega)) hS2.size; have f2_1 : ∀ j, w2.frozen? ⟨g, j, none⟩ = _ := fun j => hS2.frozen (by first | assumption | omega | (simp; done) | (simp; omega)) j; have s2_1 : ∀ j, w2.cell? ⟨g, j, none⟩ = _ := fun j => hS2.cell (by first | assumption | omega | (simp; done) | (simp; omega)) j; have z2_1 : g < w2.heap.size := Nat.lt_of_lt_of_le (by first | assumption | omega | (simp; done) | (simp; omega)) hS2.size; have HA2 := Lib.hid hA2; clear hA2)
      refine hK.out _ _ ?_ (fun hHeld => ?_)
      · (go_keep)
      clear hK K
      try simp only [Act.put, List.getElem_toArray, List.getElem_cons_succ, List.getElem_cons_zero, List.setIfInBounds_toArray, List.set_cons_zero, List.set_cons_succ]
      refine wpAnyH_ready (rs := [9]) (by kernel_rfl) (by simp) ?_
      refine AllReadyH.cons rfl (fun K hK => ?_) AllReadyH.nil
      try simp only [List.getElem_toArray, List.getElem_cons_succ, List.getElem_cons_zero]
      go_simp
      (go_at_call 54; refine (Clone_ _ _ _ _ (by refine Ty.step _ (Hid.out (by assumption)) ?_; (repeat (first | exact Step.refl _ | refine Step.alloc ?_ _ | refine Step.drew ?_ | refine Step.drewN ?_ _ | refine Step.setCell ?_ (by first | exact Nat.le_refl _ | assumption | omega | (simp; done) | (simp; omega)) _ | assumption | refine Step.trans ?_ (by assumption : Step _ _))))).mono ?_; rintro e3 w3 ⟨v3, rfl, hA3, hS3⟩; obtain ⟨b3, m3, rfl⟩ := hA3.val; have s3_0 : ∀ j, w3.cell? ⟨wr.heap.size, j, none⟩ = _ := fun j => hS3.cell (by first | assumption | omega | (simp; done) | (simp; omega)) j; have z3_0 : wr.heap.size < w3.heap.size := Nat.lt_of_lt_of_le (by first | assumption | omega | (simp; done) | (simp; omega)) hS3.size; have f3_1 : ∀ j, w3.frozen? ⟨g, j, none⟩ = _ := fun j => hS3.frozen (by first | assumption | omega | (simp; done) | (simp; omega)) j; have s3_1 : ∀ j, w3.cell? ⟨g, j, none⟩ = _ := fun j => hS3.cell (by first | assumption | omega | (simp; done) | (simp; omega)) j; have z3_1 : g < w3.heap.size := Nat.lt_of_lt_of_le (by first | assumption | omega | (simp; done) | (simp; omega)) hS3.size; have HA3 := Lib.hid hA3; clear hA3)
      refine hK.out _ _ ?_ (fun hHeld => ?_)
      · (go_keep)
      clear hK K
      try simp only [Act.put, List.getElem_toArray, List.getElem_cons_succ, List.getElem_cons_zero, List.setIfInBounds_toArray, List.set_cons_zero, List.set_cons_succ]
      refine wpAnyH_take (i := 10) (v := ?_) rfl (by kernel_rfl) (by kernel_rfl) (by kernel_rfl) (fun _ _ _ h => h) (Or.inl ⟨by rfl, ?_⟩) (by assumption) ?_
      rotate_left 1
      · (intro w hSw; (try dsimp only at hSw); go_simp; (try with_reducible rfl))
      try simp only [Act.put, List.getElem_toArray, List.getElem_cons_succ, List.getElem_cons_zero, List.setIfInBounds_toArray, List.set_cons_zero, List.set_cons_succ]
      refine wpAnyH_take (i := 11) (v := ?_) rfl (by kernel_rfl) (by kernel_rfl) (by kernel_rfl) (fun _ _ _ h => h) (Or.inl ⟨by rfl, ?_⟩) (by assumption) ?_
      rotate_left 1
      · (intro w hSw; (try dsimp only at hSw); go_simp; (try with_reducible rfl))
      try simp only [Act.put, List.getElem_toArray, List.getElem_cons_succ, List.getElem_cons_zero, List.setIfInBounds_toArray, List.set_cons_zero, List.set_cons_succ]
      refine wpAnyH_ready (rs := [12]) (by kernel_rfl) (by simp) ?_
      refine AllReadyH.cons rfl (fun K hK => ?_) AllReadyH.nil
      try simp only [List.getElem_toArray, List.getElem_cons_succ, List.getElem_cons_zero]
      go_simp
      refine hK.out _ _ ?_ (fun hHeld => ?_)
      · (go_keep)
      clear hK K
      try simp only [Act.put, List.getElem_toArray, List.getElem_cons_succ, List.getElem_cons_zero, List.setIfInBounds_toArray, List.set_cons_zero, List.set_cons_succ]
      refine wpAnyH_take (i := 13) (v := ?_) rfl (by kernel_rfl) (by kernel_rfl) (by kernel_rfl) (fun _ _ _ h => h) (Or.inl ⟨by rfl, ?_⟩) (by assumption) ?_
      rotate_left 1
      · (intro w hSw; (try dsimp only at hSw); go_simp; (try with_reducible rfl))
      try simp only [Act.put, List.getElem_toArray, List.getElem_cons_succ, List.getElem_cons_zero, List.setIfInBounds_toArray, List.set_cons_zero, List.set_cons_succ]
      refine wpAnyH_take (i := 14) (v := ?_) rfl (by kernel_rfl) (by kernel_rfl) (by kernel_rfl) (fun _ _ _ h => h) (Or.inl ⟨by rfl, ?_⟩) (by assumption) ?_
      rotate_left 1
      · (intro w hSw; (try dsimp only at hSw); go_simp; (try with_reducible rfl))
      try simp only [Act.put, List.getElem_toArray, List.getElem_cons_succ, List.getElem_cons_zero, List.setIfInBounds_toArray, List.set_cons_zero, List.set_cons_succ]
      refine wpAnyH_ready (rs := [15]) (by kernel_rfl) (by simp) ?_
      refine AllReadyH.cons rfl (fun K hK => ?_) AllReadyH.nil
      try simp only [List.getElem_toArray, List.getElem_cons_succ, List.getElem_cons_zero]
      go_simp
      refine hK.out _ _ ?_ (fun hHeld => ?_)
      · (go_keep)
      clear hK K
      try simp only [Act.put, List.getElem_toArray, List.getElem_cons_succ, List.getElem_cons_zero, List.setIfInBounds_toArray, List.set_cons_zero, List.set_cons_succ]
      refine wpAnyH_done (by kernel_rfl) ?_ _
      go_wp2
      go_roundw
      case rel =>
        have hz := hB.size
        refine ⟨1, by go_num, by omega, fun h => absurd h (by omega), fun _ => Lib.hid (Own.put2x (E := tOp) (E' := tOpO) (M' := (· < w.heap.size)) (j1 := 1) (j2 := 2) (es := [Value.int IntKind.i64 x.kind, Value.slice oa1 x.key.length on1, Value.slice oa2 x.value.length on2, Value.int IntKind.i64 x.most]) rfl (OwnG.step hG.out (by (repeat (first | exact Step.refl _ | refine Step.alloc ?_ _ | refine Step.drew ?_ | refine Step.drewN ?_ _ | refine Step.setCell ?_ (by first | exact Nat.le_refl _ | assumption | omega | (simp; done) | (simp; omega)) _ | assumption | refine Step.trans ?_ (by assumption : Step _ _))))) (by decide) (by decide) rfl (fun j u hu => ((Step.cell (by (repeat (first | exact Step.refl _ | refine Step.alloc ?_ _ | refine Step.drew ?_ | refine Step.drewN ?_ _ | refine Step.setCell ?_ (by first | exact Nat.le_refl _ | assumption | omega | (simp; done) | (simp; omega)) _ | assumption | refine Step.trans ?_ (by assumption : Step _ _))) : Step wr _) hgs _).trans (hcE.out j u hu))) ?_), by (repeat (first | exact Step.refl _ | refine Step.alloc ?_ _ | refine Step.drew ?_ | refine Step.drewN ?_ _ | refine Step.setCell ?_ (by first | exact Nat.le_refl _ | assumption | omega | (simp; done) | (simp; omega)) _ | assumption | refine Step.trans ?_ (by assumption : Step _ _)))⟩
        refine ⟨_, _, rfl, oH0.out, BR.step (BR.of HA2.out) (by (repeat (first | exact Step.refl _ | refine Step.alloc ?_ _ | refine Step.drew ?_ | refine Step.drewN ?_ _ | refine Step.setCell ?_ (by first | exact Nat.le_refl _ | assumption | omega | (simp; done) | (simp; omega)) _ | assumption | refine Step.trans ?_ (by assumption : Step _ _)))), BR.step (BR.of HA3.out) (by (repeat (first | exact Step.refl _ | refine Step.alloc ?_ _ | refine Step.drew ?_ | refine Step.drewN ?_ _ | refine Step.setCell ?_ (by first | exact Nat.le_refl _ | assumption | omega | (simp; done) | (simp; omega)) _ | assumption | refine Step.trans ?_ (by assumption : Step _ _)))), oH3.out, fun b hb => ⟨?_, fun hb' => ?_⟩, fun b hb => ?_⟩
        · have h1 := (HA2.out.lt hb).1
          (try simp at h1)
          rintro (h | h) <;> omega
        · have h1 := (HA2.out.lt hb).2
          have h2 := (HA3.out.lt hb').1
          (try simp at h1 h2)
          omega
        · have h1 := (HA3.out.lt hb).1
          have h2 := hS2.size
          (try simp at h1 h2)
          rintro (h | h) <;> omega
      case measure => simp [intOf]
    · go_wp2
      go_ret
      obtain rfl : k = 1 := by omega
      exact ⟨_, rfl, (hG1 rfl).out, hB⟩
theorem stSendsO : SliceTy Tryz.prog 34 41 tSendO.n := stSends
set_option maxRecDepth 100000 in
set_option maxHeartbeats 4000000 in
theorem RetryO_ {w : World} {B cb : Nat} {c : DCoord} (h : CoordRep w B cb c) (h1 : ∀ p ∈ c.out.getD [], p.2.ops.length = 1) :
    Calls Tryz.prog 11 #[.pointer (some ⟨cb, 0, none⟩)] w fun e w' => ∃ v', e = .returned v' ∧ Own tSendO 41 w' (· < w.heap.size) w.heap.size v' (sendsOf c.out) ∧ Step w w' := by
  obtain ⟨vo, vp, mo, mu, vs, vr, h⟩ := h
  have hcb := h.lt
  have p8 : w.cell? ⟨cb, 8, none⟩ = some mu := h.cells.cell 8
  have hmu := h.out
  generalize coM B cb mo mu = M at hmu
  clear h
  have HONE := Lib.hid h1
  clear h1
  generalize c.out = o at *
  have hov := hmu.val
  generalize mapBlock mu = ob at hov
  subst hov
  have HU := Lib.hid hmu
  clear hmu
  go_enter Tryz.func11, Tryz.ntmps11
  go_wp2_with (first
    | (go_at_call 53; refine (mkeys_ _ _).mono ?_; rintro e w1 ⟨rfl, rfl⟩)
    | (go_at_call 52; refine (sortedKeysV_ HU.out).mono ?_; rintro e w1 ⟨v1, rfl, hA1, hS1⟩; obtain ⟨a1, c1, rfl⟩ := hA1.val; have HA1 := Lib.hid hA1; clear hA1))
  have hol : Hid (∀ l, o = some l → l.length ≤ 1048576) := Lib.hid (fun l hl => by subst hl; obtain ⟨b, _, _, _, h, _⟩ := HU.out; exact h)
  have hln : (sendsOf o).length ≤ 1048576 := by
    rcases o with _ | l
    · simp [sendsOf]
    · simpa [sendsOf] using hol.out l rfl
  have hkl : (o.getD []).length = (sendsOf o).length := by simp [sendsOf]
  have HKL := Lib.hid hkl
  clear hkl
  go_loopw [3, 14] (fun out i w' => ∃ k : Nat, i = .int .i64 k ∧ k ≤ (o.getD []).length ∧ Own tSendO 41 w' (· < w1.heap.size) w1.heap.size out ((sendsOf o).take k) ∧ Step w1 w') (fun _ i _ => (o.getD []).length - (intOf i).toNat)
  case atStart => exact ⟨0, rfl, by omega, Own.nil, Step.refl _⟩
  case round =>
    obtain ⟨k, rfl, hk, hA, hB1⟩ := hrel
    have hB := hS1.trans hB1
    have HA := Lib.hid hA
    clear hA
    have hsz := hB.size
    have hsz1 := hS1.size
    have hsz2 := hB1.size
    by_cases hlt : k < (o.getD []).length
    · rcases o with _ | l
      · simp at hlt
      simp only [Option.getD_some] at *
      obtain ⟨b, hb, hm, hM, hl, hx⟩ := HU.out
      obtain rfl : ob = some b := by simpa using hb
      have hx1 := hx _ (List.getElem_mem hlt)
      obtain ⟨⟨L⟩, hrep, hrun⟩ := (hm.step hB).at (t := 123) Tryz.underlying3 Tryz.underlying123 (Tryz.zeroValue39 wr) false hlt hx1
      have hll : l.length ≤ 1048576 := hl
      have HX1 := Lib.hid hx1
      obtain ⟨ac7, ac9, hcs, ah⟩ := hrep
      simp only at hcs
      subst hcs
      obtain ⟨ah0, ah1, ah2, ah3, ah4, ah5, ah6, ah7, ah8, ah9, ah10⟩ := ah
      obtain ⟨aa7, an7, rfl, _⟩ := Ty.slice_val ah7
      obtain ⟨aa9, an9, rfl, _⟩ := Ty.slice_val ah8
      have AH := Lib.hid (And.intro ah0 (And.intro ah1 (And.intro ah2 (And.intro ah3 (And.intro ah4 (And.intro ah5 (And.intro ah6 (And.intro ah9 ah10))))))))
      have AH7 := Lib.hid ah7
      have AH8 := Lib.hid ah8
      clear ah0 ah1 ah2 ah3 ah4 ah5 ah6 ah7 ah8 ah9 ah10 hm hM hl hx hb hx1
      have p8' : wr.cell? ⟨cb, 8, none⟩ = some (.map (some b)) := (hB.cell hcb 8).trans p8
      obtain ⟨kb, ko, ku, hkk, hkb, _, hku, hkc⟩ := Ty.slice_at1 rfl (Own.rep HA1.out (fun _ h => h.elim)) (k := k) (by simpa using hlt)
      subst hkk
      obtain ⟨hku1, _⟩ := hku
      obtain rfl : ku = .int .i64 l[k].1 := by simpa using hku1
      have hkc' := (hB1.cell hkb _).trans hkc
      clear hku1 hkc
      have htk : Hid ((sendsOf (some l)).take (k + 1) = (sendsOf (some l)).take k ++ [⟨l[k].1, l[k].2⟩]) := Lib.hid (by rw [List.take_succ_eq_append_getElem (by simpa [sendsOf] using hlt)]; simp [sendsOf])
      go_wp2
      refine wp_region_cut (S := (fun w' => w'.cell? ⟨wr.heap.size, 7, none⟩ = some (.slice aa7 l[k].2.ops.length an7) ∧ w'.cell? ⟨wr.heap.size, 9, none⟩ = some (.slice aa9 l[k].2.reply.length an9))) 7 (by kernel_rfl) ?_ (fun hHeld => ?_)
      · (go_keep)
      refine wpAnyC_take (i := 0) (v := ?_) rfl (by kernel_rfl) (by kernel_rfl) (by kernel_rfl) (by decide) [1, 2, 5, 6, 7, 8, 9] (by kernel_rfl) (fun _ _ _ h => h) (Or.inl ⟨by rfl, ?_⟩) (by assumption) ?_
      rotate_left 1
      · (intro w hSw; (try dsimp only at hSw); go_simp; (try with_reducible rfl))
      try simp only [Act.put, List.getElem_toArray, List.getElem_cons_succ, List.getElem_cons_zero, List.setIfInBounds_toArray, List.set_cons_zero, List.set_cons_succ]
      refine wpAnyC_take (i := 1) (v := ?_) rfl (by kernel_rfl) (by kernel_rfl) (by kernel_rfl) (by decide) [2, 5, 6, 7, 8, 9] (by kernel_rfl) (fun _ _ _ h => h) (Or.inl ⟨by rfl, ?_⟩) (by assumption) ?_
      rotate_left 1
      · (intro w hSw; (try dsimp only at hSw); go_simp; (try with_reducible rfl))
      try simp only [Act.put, List.getElem_toArray, List.getElem_cons_succ, List.getElem_cons_zero, List.setIfInBounds_toArray, List.set_cons_zero, List.set_cons_succ]
      refine wpAnyC_take (i := 3) (v := ?_) rfl (by kernel_rfl) (by kernel_rfl) (by kernel_rfl) (by decide) [4, 5, 6, 7, 8, 9] (by kernel_rfl) (fun _ _ _ h => h) (Or.inl ⟨by rfl, ?_⟩) (by assumption) ?_
      rotate_left 1
      · (intro w hSw; (try dsimp only at hSw); go_simp; (try with_reducible rfl))
      try simp only [Act.put, List.getElem_toArray, List.getElem_cons_succ, List.getElem_cons_zero, List.setIfInBounds_toArray, List.set_cons_zero, List.set_cons_succ]
      refine wpAnyC_take (i := 4) (v := ?_) rfl (by kernel_rfl) (by kernel_rfl) (by kernel_rfl) (by decide) [5, 6, 7, 8, 9] (by kernel_rfl) (fun _ _ _ h => h) (Or.inl ⟨by rfl, ?_⟩) (by assumption) ?_
      rotate_left 1
      · (intro w hSw; (try dsimp only at hSw); go_simp; (try with_reducible rfl))
      try simp only [Act.put, List.getElem_toArray, List.getElem_cons_succ, List.getElem_cons_zero, List.setIfInBounds_toArray, List.set_cons_zero, List.set_cons_succ]
      refine wpAnyC_ready (rs := [2]) (by kernel_rfl) (by simp) ?_
      refine AllReadyC.cons rfl (by decide) (fun K hK => ?_) AllReadyC.nil
      try simp only [List.getElem_toArray, List.getElem_cons_succ, List.getElem_cons_zero]
      go_simp
      (go_at_call 43; refine (twinO_ _ _ _ _ (by refine Ty.step _ (Hid.out (by assumption)) ?_; (repeat (first | exact Step.refl _ | refine Step.alloc ?_ _ | refine Step.drew ?_ | refine Step.drewN ?_ _ | refine Step.setCell ?_ (by first | exact Nat.le_refl _ | assumption | omega | (simp; done) | (simp; omega)) _ | assumption | refine Step.trans ?_ (by assumption : Step _ _)))) (HONE.out _ (List.getElem_mem hlt))).mono ?_; rintro e2 w2 ⟨v2, rfl, hA2, hS2⟩; obtain ⟨b2, m2, rfl⟩ := hA2.val; have f2_0 : ∀ j, w2.frozen? ⟨wr.heap.size, j, none⟩ = _ := fun j => hS2.frozen (by first | assumption | omega | (simp; done) | (simp; omega)) j; have s2_0 : ∀ j, w2.cell? ⟨wr.heap.size, j, none⟩ = _ := fun j => hS2.cell (by first | assumption | omega | (simp; done) | (simp; omega)) j; have z2_0 : wr.heap.size < w2.heap.size := Nat.lt_of_lt_of_le (by first | assumption | omega | (simp; done) | (simp; omega)) hS2.size; have HA2 := Lib.hid hA2; clear hA2)
      refine hK.out _ _ ?_ (fun hHeld => ?_)
      · (go_keep)
      clear hK K
      try simp only [Act.put, List.getElem_toArray, List.getElem_cons_succ, List.getElem_cons_zero, List.setIfInBounds_toArray, List.set_cons_zero, List.set_cons_succ]
      refine wpAnyC_take (i := 6) (v := ?_) rfl (by kernel_rfl) (by kernel_rfl) (by kernel_rfl) (by decide) [7, 8, 9] (by kernel_rfl) (fun _ _ _ h => h) (Or.inl ⟨by rfl, ?_⟩) (by assumption) ?_
      rotate_left 1
      · (intro w hSw; (try dsimp only at hSw); go_simp; (try with_reducible rfl))
      try simp only [Act.put, List.getElem_toArray, List.getElem_cons_succ, List.getElem_cons_zero, List.setIfInBounds_toArray, List.set_cons_zero, List.set_cons_succ]
      refine wpAnyC_ready (rs := [5]) (by kernel_rfl) (by simp) ?_
      refine AllReadyC.cons rfl (by decide) (fun K hK => ?_) AllReadyC.nil
      try simp only [List.getElem_toArray, List.getElem_cons_succ, List.getElem_cons_zero]
      go_simp
      (go_at_call 54; refine (Clone_ _ _ _ _ (by refine Ty.step _ (Hid.out (by assumption)) ?_; (repeat (first | exact Step.refl _ | refine Step.alloc ?_ _ | refine Step.drew ?_ | refine Step.drewN ?_ _ | refine Step.setCell ?_ (by first | exact Nat.le_refl _ | assumption | omega | (simp; done) | (simp; omega)) _ | assumption | refine Step.trans ?_ (by assumption : Step _ _))))).mono ?_; rintro e3 w3 ⟨v3, rfl, hA3, hS3⟩; obtain ⟨b3, m3, rfl⟩ := hA3.val; have f3_0 : ∀ j, w3.frozen? ⟨wr.heap.size, j, none⟩ = _ := fun j => hS3.frozen (by first | assumption | omega | (simp; done) | (simp; omega)) j; have s3_0 : ∀ j, w3.cell? ⟨wr.heap.size, j, none⟩ = _ := fun j => hS3.cell (by first | assumption | omega | (simp; done) | (simp; omega)) j; have z3_0 : wr.heap.size < w3.heap.size := Nat.lt_of_lt_of_le (by first | assumption | omega | (simp; done) | (simp; omega)) hS3.size; have HA3 := Lib.hid hA3; clear hA3)
      refine hK.out _ _ ?_ (fun hHeld => ?_)
      · (go_keep)
      clear hK K
      try simp only [Act.put, List.getElem_toArray, List.getElem_cons_succ, List.getElem_cons_zero, List.setIfInBounds_toArray, List.set_cons_zero, List.set_cons_succ]
      refine wpAnyC_ready (rs := [7]) (by kernel_rfl) (by simp) ?_
      refine AllReadyC.cut rfl (fun K hK => ?_)
      try simp only [List.getElem_toArray, List.getElem_cons_succ, List.getElem_cons_zero]
      go_simp
      refine hK.out _ _ trivial (fun hHeld => ?_)
      clear hK K
      try simp only [Act.put, List.getElem_toArray, List.getElem_cons_succ, List.getElem_cons_zero, List.setIfInBounds_toArray, List.set_cons_zero, List.set_cons_succ]
      have hTrue : True := trivial
      refine wpAnyH_take (i := 8) (v := ?_) rfl (by kernel_rfl) (by kernel_rfl) (by kernel_rfl) (fun _ _ _ h => h) (Or.inl ⟨by rfl, ?_⟩) (by assumption) ?_
      rotate_left 1
      · (intro w hSw; (try dsimp only at hSw); go_simp; (try with_reducible rfl))
      try simp only [Act.put, List.getElem_toArray, List.getElem_cons_succ, List.getElem_cons_zero, List.setIfInBounds_toArray, List.set_cons_zero, List.set_cons_succ]
      refine wpAnyH_ready (rs := [9]) (by kernel_rfl) (by simp) ?_
      refine AllReadyH.cons rfl (fun K hK => ?_) AllReadyH.nil
      try simp only [List.getElem_toArray, List.getElem_cons_succ, List.getElem_cons_zero]
      go_simp
      refine hK.out _ _ trivial (fun hHeld => ?_)
      clear hK K
      try simp only [Act.put, List.getElem_toArray, List.getElem_cons_succ, List.getElem_cons_zero, List.setIfInBounds_toArray, List.set_cons_zero, List.set_cons_succ]
      refine wpAnyH_done (by kernel_rfl) ?_ _
      go_wp2_with (at_builtin; refine wpList_append_acc (ys := [⟨l[k].1, l[k].2⟩]) rfl (.tmp 32) (.tmp 36) rfl stSendsO (by (repeat (first | exact Step.refl _ | refine Step.alloc ?_ _ | refine Step.drew ?_ | refine Step.drewN ?_ _ | refine Step.setCell ?_ (by first | exact Nat.le_refl _ | assumption | omega | (simp; done) | (simp; omega)) _ | assumption | refine Step.trans ?_ (by assumption : Step _ _)))) (Own.step HA.out (by (repeat (first | exact Step.refl _ | refine Step.alloc ?_ _ | refine Step.drew ?_ | refine Step.drewN ?_ _ | refine Step.setCell ?_ (by first | exact Nat.le_refl _ | assumption | omega | (simp; done) | (simp; omega)) _ | assumption | refine Step.trans ?_ (by assumption : Step _ _))))) (Src.oneAt (E := tSendO) (y := ⟨l[k].1, l[k].2⟩) (by simp) ⟨_, _, rfl, HX1.out, AH.out.1, AH.out.2.1, AH.out.2.2.1, AH.out.2.2.2.1, AH.out.2.2.2.2.1, AH.out.2.2.2.2.2.1, AH.out.2.2.2.2.2.2.1, Own.fresh (Own.set (Own.set (by refine Own.step (Hid.out (by assumption)) ?_; (repeat (first | exact Step.refl _ | refine Step.alloc ?_ _ | refine Step.drew ?_ | refine Step.drewN ?_ _ | refine Step.setCell ?_ (by first | exact Nat.le_refl _ | assumption | omega | (simp; done) | (simp; omega)) _ | assumption | refine Step.trans ?_ (by assumption : Step _ _)))) (by first | assumption | omega | (simp; done) | (simp; omega)) (by first | assumption | omega | (simp; done) | (simp; omega)) _) (by first | assumption | omega | (simp; done) | (simp; omega)) (by first | assumption | omega | (simp; done) | (simp; omega)) _) (fun b hb => Nat.lt_trans (HA.out.old (by (repeat (first | exact Step.refl _ | refine Step.alloc ?_ _ | refine Step.drew ?_ | refine Step.drewN ?_ _ | refine Step.setCell ?_ (by first | exact Nat.le_refl _ | assumption | omega | (simp; done) | (simp; omega)) _ | assumption | refine Step.trans ?_ (by assumption : Step _ _)))) b hb) (by first | assumption | omega | (simp; done) | (simp; omega))), Own.fresh (Own.set (Own.set (by refine Own.step (Hid.out (by assumption)) ?_; (repeat (first | exact Step.refl _ | refine Step.alloc ?_ _ | refine Step.drew ?_ | refine Step.drewN ?_ _ | refine Step.setCell ?_ (by first | exact Nat.le_refl _ | assumption | omega | (simp; done) | (simp; omega)) _ | assumption | refine Step.trans ?_ (by assumption : Step _ _)))) (by first | assumption | omega | (simp; done) | (simp; omega)) (by first | assumption | omega | (simp; done) | (simp; omega)) _) (by first | assumption | omega | (simp; done) | (simp; omega)) (by first | assumption | omega | (simp; done) | (simp; omega)) _) (fun b hb => Nat.lt_trans (HA.out.old (by (repeat (first | exact Step.refl _ | refine Step.alloc ?_ _ | refine Step.drew ?_ | refine Step.drewN ?_ _ | refine Step.setCell ?_ (by first | exact Nat.le_refl _ | assumption | omega | (simp; done) | (simp; omega)) _ | assumption | refine Step.trans ?_ (by assumption : Step _ _)))) b hb) (by first | assumption | omega | (simp; done) | (simp; omega))), AH.out.2.2.2.2.2.2.2⟩) (by rw [List.length_take, lim_eq]; simp; omega) rfl rfl ?_; intro v5 w5 hA5 hB5 _ _; have HA5 := Lib.hid hA5; clear hA5)
      go_roundw
      case rel => exact ⟨k + 1, by go_num, hlt, by rw [htk.out]; exact HA5.out, hB5⟩
      case measure => simp [intOf]; omega
    · go_wp2
      go_ret
      obtain rfl : k = (o.getD []).length := by omega
      refine ⟨_, rfl, ?_, hB⟩
      have h9 := HA.out
      rw [HKL.out, List.take_length] at h9
      exact (Own.base h9 hS1.size).less (fun b _ hb => Nat.lt_of_lt_of_le hb hS1.size)
end Go.Proofs.YthflkfgiclcdiaaGreat
namespace Go.Proofs.YthflkfgiclcdiaaGreat
open Go.Gr Go.RowKit
set_option linter.unusedSimpArgs false
theorem asks_one {x : DTxn} {shards : List Int} {f : Nat → DAsk} (h : ∀ i, i < shards.length → (f i).ops.length = 1) : ∀ p ∈ (some (asksOf x shards f)).getD [], p.2.ops.length = 1 := by
  intro p hp
  simp only [Option.getD_some] at hp
  obtain ⟨k, hk, rfl⟩ := List.getElem_of_mem hp
  have hk' : k < shards.length := by rw [← asksOf_len (x := x) (f := f)]; exact hk
  rw [asksOf_at hk']
  exact h k hk'
set_option maxRecDepth 100000 in
set_option maxHeartbeats 4000000 in
theorem sendO_ {w : World} {B cb fn : Nat} {caps : Array Value} {c : DCoord} {vo vp mo mu vs vr : Value} {f : Nat → DAsk} (h : CoordIn w B cb c vo vp mo mu vs vr) (hB : B ≤ w.heap.size) (hinc : c.shards.Pairwise (· < ·)) (hone : ∀ i, i < c.shards.length → (f i).ops.length = 1)
    (hent : ∀ args w, (callFunc fn args).run Tryz.prog w = .ok (.enter fn args) w)
    (hmake : ∀ (i : Nat), i < c.shards.length → ∀ (W : World) (nb : Nat) (l : List (Int × DAsk)), CoordIn W B cb { c with out := some l } vo vp mo (.map (some nb)) vs vr → Turn (· = cb) w W →
      Calls Tryz.prog fn (#[.int .i64 (i : Int)] ++ caps) W fun e w' => ∃ cs, e = .returned (.agg cs) ∧ tAsk.rep w' (coM B cb mo (.map (some nb))) cs.toList (f i) ∧ Step W w') :
    Calls Tryz.prog 46 #[.pointer (some ⟨cb, 0, none⟩), .func (.func fn) #[] caps] w fun e w' => ∃ v' w1, e = .returned v' ∧ Own tSendO 41 w' (· < w1.heap.size) w1.heap.size v' (sendsOf (some (asksOf c.txn c.shards f))) ∧
      CoordIn w1 B cb { c with out := some (asksOf c.txn c.shards f) } vo vp mo (.map (some w.heap.size)) vs vr ∧ Turn (· = cb) w w1 ∧ Step w1 w' := by
  have hcb := h.lt
  have p8 : w.cell? ⟨cb, 8, none⟩ = some mu := h.cells.cell 8
  have f8 : w.frozen? ⟨cb, 8, none⟩ = false := h.cells.frozen _
  have H := Lib.hid h
  have HI := Lib.hid hinc
  have HM := Lib.hid hmake
  have HONE := Lib.hid hone
  clear h hinc hmake hone
  have hmm := @run_makeMap Tryz.prog
  go_enter Tryz.func46, Tryz.ntmps46
  go_upto_region 2 with fail
  refine wp_code (fun wl => CoordIn wl B cb { c with out := some [] } vo vp mo (.map (some w.heap.size)) vs vr ∧ Turn (· = cb) w wl) ?_ ?_
  · have h1 := H.out.newOut hB
    rw [World.setCell_alloc_past _ _ _ _ hcb] at h1
    exact ⟨h1, ((Turn.refl (· = cb) w).setCell (p := ⟨cb, 8, none⟩) (fun _ => rfl) _).alloc _⟩
  clear f8 p8
  rintro wl ⟨h, hT⟩
  obtain ⟨sa, sc, rfl, _⟩ := Ty.slice_val h.shards
  have p9 : wl.cell? ⟨cb, 9, none⟩ = some (.slice sa c.shards.length sc) := h.cells.cell 9
  have hfew := h.few
  have HL := Lib.hid h
  have HT := Lib.hid hT
  have hcl := hT.size
  clear h hT
  simp only at hfew
  go_wp2
  go_loopw [17] (fun i w' => ∃ k : Nat, i = .int .i64 k ∧ k ≤ c.shards.length ∧ CoordIn w' B cb { c with out := some ((asksOf c.txn c.shards f).take k) } vo vp mo (.map (some w.heap.size)) (.slice sa c.shards.length sc) vr ∧ Turn (· = cb) w w') (fun i _ => c.shards.length - (intOf i).toNat)
  case atStart => exact ⟨0, rfl, by omega, HL.out, HT.out⟩
  case round =>
    obtain ⟨k, rfl, hk, h, hT⟩ := hrel
    have hcr := h.lt
    by_cases hlt : k < c.shards.length
    · obtain ⟨b, off, u, rfl, hbb, _, hu, hcu⟩ := Ty.slice_at1 rfl h.shards hlt
      obtain ⟨hu1, hu2⟩ := hu
      obtain rfl : u = .int .i64 c.shards[k] := by simpa using hu1
      have p0 : wr.cell? ⟨cb, 0, none⟩ = some (.int .u64 (c.txn.boot : Int)) := h.cells.cell 0
      have p1 : wr.cell? ⟨cb, 1, none⟩ = some (.int .u64 (c.txn.session : Int)) := h.cells.cell 1
      have p2 : wr.cell? ⟨cb, 2, none⟩ = some (.int .u64 (c.txn.seq : Int)) := h.cells.cell 2
      have p8 : wr.cell? ⟨cb, 8, none⟩ = some (.map (some w.heap.size)) := h.cells.cell 8
      have HU2 := Lib.hid hu2
      have HC := Lib.hid h
      have HT' := Lib.hid hT
      have HLT := Lib.hid hlt
      clear h hT hu1 hu2
      go_wp2_with (refine (HM.out k HLT.out _ _ _ HC.out HT'.out).mono ?_; rintro e w1 ⟨⟨L⟩, rfl, hR, hS1⟩; obtain ⟨ac7, ac9, hcs, ah⟩ := hR; simp only at hcs; subst hcs; obtain ⟨aa7, an7, rfl, _⟩ := Ty.slice_val ah.2.2.2.2.2.2.2.1; obtain ⟨aa9, an9, rfl, _⟩ := Ty.slice_val ah.2.2.2.2.2.2.2.2.1; have AH := Lib.hid ah; clear ah; have z1 : cb < w1.heap.size := Nat.lt_of_lt_of_le hcr hS1.size; have s1 : ∀ j, w1.cell? ⟨cb, j, none⟩ = wr.cell? ⟨cb, j, none⟩ := fun j => hS1.cell hcr j)
      obtain ⟨b', hb', hm, hMb, hlen, hkeys⟩ := HC.out.out
      obtain rfl : w.heap.size = b' := by simpa using hb'
      have HMT := Lib.hid hm
      have HMb := Lib.hid hMb
      have HX := Lib.hid HC.out.txn
      have HKY := Lib.hid hkeys
      have hll : Hid (((asksOf c.txn c.shards f).take k).length ≤ k) := Lib.hid (by rw [List.length_take]; omega)
      have hlo : Hid (∀ p ∈ (asksOf c.txn c.shards f).take k, p.1 < c.shards[k]) := Lib.hid (fun p hp => by
        obtain ⟨i, hi, rfl⟩ := List.getElem_of_mem hp
        have hi' : i < k := by have := hll.out; omega
        rw [List.getElem_take, asksOf_at (by omega)]
        exact List.pairwise_iff_getElem.1 HI.out i k (by omega) hlt hi')
      have htk : Hid ((asksOf c.txn c.shards f).take (k + 1) = (asksOf c.txn c.shards f).take k ++ [(c.shards[k], { f k with txn := c.txn })]) := Lib.hid (by rw [List.take_succ_eq_append_getElem (by rw [asksOf_len]; exact hlt), asksOf_at hlt]; rfl)
      clear hb' hm hMb hlen hkeys
      refine wp_region_cut (S := (fun w' => w'.cell? ⟨cb, 8, none⟩ = some (.map (some w.heap.size)) ∧ w'.cell? ⟨w1.heap.size, 0, none⟩ = some (.int .i64 (f k).kind) ∧ w'.cell? ⟨w1.heap.size, 1, none⟩ = some (.int .u64 ((f k).inc : Int)) ∧ w'.cell? ⟨w1.heap.size, 2, none⟩ = some (.int .u64 ((f k).head : Int)) ∧ w'.cell? ⟨w1.heap.size, 3, none⟩ = some (.int .u64 ((f k).boot : Int)) ∧ w'.cell? ⟨w1.heap.size, 4, none⟩ = some (.int .u64 (c.txn.boot : Int)) ∧ w'.cell? ⟨w1.heap.size, 5, none⟩ = some (.int .u64 (c.txn.session : Int)) ∧ w'.cell? ⟨w1.heap.size, 6, none⟩ = some (.int .u64 (c.txn.seq : Int)) ∧ w'.cell? ⟨w1.heap.size, 7, none⟩ = some (.slice aa7 (f k).ops.length an7) ∧ w'.cell? ⟨w1.heap.size, 8, none⟩ = some (.bool (f k).commit) ∧ w'.cell? ⟨w1.heap.size, 9, none⟩ = some (.slice aa9 (f k).reply.length an9) ∧ w'.cell? ⟨w1.heap.size, 10, none⟩ = some (.int .u64 ((f k).id : Int)) ∧ w'.cell? ⟨w1.heap.size, 11, none⟩ = some (.string ⟨(f k).name.toArray⟩))) 6 (by kernel_rfl) ?_ (fun hHeld => ?_)
      · (go_keep)
      refine wpAnyC_take (i := 0) (v := ?_) rfl (by kernel_rfl) (by kernel_rfl) (by kernel_rfl) (by decide) [1, 2, 3, 6] (by kernel_rfl) (fun _ _ _ h => h) (Or.inl ⟨by rfl, ?_⟩) (by assumption) ?_
      rotate_left 1
      · (intro w hSw; (try dsimp only at hSw); go_simp; (try with_reducible rfl))
      try simp only [Act.put, List.getElem_toArray, List.getElem_cons_succ, List.getElem_cons_zero, List.setIfInBounds_toArray, List.set_cons_zero, List.set_cons_succ]
      refine wpAnyC_take (i := 1) (v := ?_) rfl (by kernel_rfl) (by kernel_rfl) (by kernel_rfl) (by decide) [2, 3, 6] (by kernel_rfl) (fun _ _ _ h => h) (Or.inl ⟨by rfl, ?_⟩) (by assumption) ?_
      rotate_left 1
      · (intro w hSw; (try dsimp only at hSw); go_simp; (try with_reducible rfl))
      try simp only [Act.put, List.getElem_toArray, List.getElem_cons_succ, List.getElem_cons_zero, List.setIfInBounds_toArray, List.set_cons_zero, List.set_cons_succ]
      refine wpAnyC_take (i := 2) (v := ?_) rfl (by kernel_rfl) (by kernel_rfl) (by kernel_rfl) (by decide) [3, 6] (by kernel_rfl) (fun _ _ _ h => h) (Or.inl ⟨by rfl, ?_⟩) (by assumption) ?_
      rotate_left 1
      · (intro w hSw; (try dsimp only at hSw); go_simp; (try with_reducible rfl))
      try simp only [Act.put, List.getElem_toArray, List.getElem_cons_succ, List.getElem_cons_zero, List.setIfInBounds_toArray, List.set_cons_zero, List.set_cons_succ]
      refine wpAnyC_take (i := 3) (v := ?_) rfl (by kernel_rfl) (by kernel_rfl) (by kernel_rfl) (by decide) [6] (by kernel_rfl) (fun _ _ _ h => h) (Or.inl ⟨by rfl, ?_⟩) (by assumption) ?_
      rotate_left 1
      · (intro w hSw; (try dsimp only at hSw); go_simp; (try with_reducible rfl))
      try simp only [Act.put, List.getElem_toArray, List.getElem_cons_succ, List.getElem_cons_zero, List.setIfInBounds_toArray, List.set_cons_zero, List.set_cons_succ]
      refine wpAnyC_take (i := 4) (v := ?_) rfl (by kernel_rfl) (by kernel_rfl) (by kernel_rfl) (by decide) [6] (by kernel_rfl) (fun _ _ _ h => h) (Or.inl ⟨by rfl, ?_⟩) (by assumption) ?_
      rotate_left 1
      · (intro w hSw; (try dsimp only at hSw); go_simp; (try with_reducible rfl))
      try simp only [Act.put, List.getElem_toArray, List.getElem_cons_succ, List.getElem_cons_zero, List.setIfInBounds_toArray, List.set_cons_zero, List.set_cons_succ]
      refine wpAnyC_take (i := 5) (v := ?_) rfl (by kernel_rfl) (by kernel_rfl) (by kernel_rfl) (by decide) [6] (by kernel_rfl) (fun _ _ _ h => h) (Or.inl ⟨by rfl, ?_⟩) (by assumption) ?_
      rotate_left 1
      · (intro w hSw; (try dsimp only at hSw); go_simp; (try with_reducible rfl))
      try simp only [Act.put, List.getElem_toArray, List.getElem_cons_succ, List.getElem_cons_zero, List.setIfInBounds_toArray, List.set_cons_zero, List.set_cons_succ]
      refine wpAnyC_ready (rs := [6]) (by kernel_rfl) (by simp) ?_
      refine AllReadyC.cut rfl (fun K hK => ?_)
      try simp only [List.getElem_toArray, List.getElem_cons_succ, List.getElem_cons_zero]
      refine ite_then rfl ?_; refine wp_mapUpdate_T (E := tAsk) (M := coM B cb mo (.map (some w.heap.size))) (s := c.shards[k]) (y := { f k with txn := c.txn }) (.tmp 33) (.tmp 34) (.tmp 35) rfl (HMT.out.step (by (repeat (first | exact Step.refl _ | refine Step.alloc ?_ _ | refine Step.drew ?_ | refine Step.drewN ?_ _ | refine Step.setCell ?_ (by first | exact Nat.le_refl _ | assumption | omega | (simp; done) | (simp; omega)) _ | assumption | refine Step.trans ?_ (by assumption : Step _ _))))) Tryz.underlying3 Tryz.underlying123 ?_ HU2.out hlo.out ?_ HMb.out rfl rfl rfl ?_; exact (Nat.lt_of_le_of_lt hll.out (by unfold maxLen; omega)); exact ⟨_, _, rfl, AH.out.1, AH.out.2.1, AH.out.2.2.1, AH.out.2.2.2.1, HX.out.1, HX.out.2.1, HX.out.2.2, Ty.step _ AH.out.2.2.2.2.2.2.2.1 (by (repeat (first | exact Step.refl _ | refine Step.alloc ?_ _ | refine Step.drew ?_ | refine Step.drewN ?_ _ | refine Step.setCell ?_ (by first | exact Nat.le_refl _ | assumption | omega | (simp; done) | (simp; omega)) _ | assumption | refine Step.trans ?_ (by assumption : Step _ _)))), Ty.step _ AH.out.2.2.2.2.2.2.2.2.1 (by (repeat (first | exact Step.refl _ | refine Step.alloc ?_ _ | refine Step.drew ?_ | refine Step.drewN ?_ _ | refine Step.setCell ?_ (by first | exact Nat.le_refl _ | assumption | omega | (simp; done) | (simp; omega)) _ | assumption | refine Step.trans ?_ (by assumption : Step _ _)))), AH.out.2.2.2.2.2.2.2.2.2⟩; intro w6 hm6 hg6; have HC6 := Lib.hid (CoordIn.grownOut (HC.out.keep (fun b h1 _ => Step.heap (by (repeat (first | exact Step.refl _ | refine Step.alloc ?_ _ | refine Step.drew ?_ | refine Step.drewN ?_ _ | refine Step.setCell ?_ (by first | exact Nat.le_refl _ | assumption | omega | (simp; done) | (simp; omega)) _ | assumption | refine Step.trans ?_ (by assumption : Step _ _))) : Step wr _) h1)) hg6 hm6 (by rw [List.length_append]; exact Nat.le_trans (Nat.succ_le_succ hll.out) (by omega)) (fun p hp => by (rcases List.mem_append.1 hp with hp | hp; exact HKY.out p hp; (obtain rfl := List.mem_singleton.1 hp; exact HU2.out)))); have HT6 := Lib.hid (Turn.grown (HT'.out.then (by (repeat (first | exact Step.refl _ | refine Step.alloc ?_ _ | refine Step.drew ?_ | refine Step.drewN ?_ _ | refine Step.setCell ?_ (by first | exact Nat.le_refl _ | assumption | omega | (simp; done) | (simp; omega)) _ | assumption | refine Step.trans ?_ (by assumption : Step _ _))))) hg6 (fun g hg h => by (obtain rfl := Option.some.inj hg; omega))); clear hm6 hg6
      refine hK.out _ _ trivial (fun hHeld => ?_)
      clear hK K
      try simp only [Act.put, List.getElem_toArray, List.getElem_cons_succ, List.getElem_cons_zero, List.setIfInBounds_toArray, List.set_cons_zero, List.set_cons_succ]
      have hTrue : True := trivial
      refine wpAnyH_done (by kernel_rfl) ?_ _
      go_wp2
      go_roundw
      case rel => exact ⟨k + 1, by go_num, by omega, by rw [htk.out]; exact HC6.out, HT6.out⟩
      case measure => simp [intOf]; omega
    · obtain rfl : k = c.shards.length := by omega
      have HT' := Lib.hid hT
      have HC : Hid (CoordIn wr B cb { c with out := some (asksOf c.txn c.shards f) } vo vp mo (.map (some w.heap.size)) (.slice sa c.shards.length sc) vr) := Lib.hid (by rwa [List.take_of_length_le (Nat.le_of_eq asksOf_len)] at h)
      clear h hT
      go_wp2_with (go_at_call 11; refine (RetryO_ ⟨_, _, _, _, _, _, HC.out⟩ (asks_one HONE.out)).mono ?_; rintro e w1 ⟨v1, rfl, hA1, hS1⟩; have HA1 := Lib.hid hA1; clear hA1)
      go_ret
      first | exact ⟨_, rfl, _, HA1.out, HC.out, HT'.out, hS1⟩ | exact ⟨_, _, rfl, HA1.out, HC.out, HT'.out, hS1⟩
set_option maxRecDepth 100000 in
set_option maxHeartbeats 4000000 in
theorem BeginO_ {w : World} {B cb : Nat} {c : DCoord} {vo vp mo mu vs vr : Value} (h : CoordIn w B cb c vo vp mo mu vs vr) (hB : B ≤ w.heap.size) (hinc : c.shards.Pairwise (· < ·)) (hsh : c.shards.length = c.parts.length)
    (hph : c.phase = 0) (hck : checkB c.ops = 0) (hne : c.parts ≠ []) (hone : ∀ i, i < c.shards.length → (workAsk c.parts i).ops.length = 1) :
    Calls Tryz.prog 10 #[.pointer (some ⟨cb, 0, none⟩)] w fun e w' => ∃ v' mu' w1, e = .returned v' ∧ Own tSendO 41 w' (· < w1.heap.size) w1.heap.size v' (sendsOf (some (asksOf c.txn c.shards (workAsk c.parts)))) ∧
      CoordIn w1 B cb { c with out := some (asksOf c.txn c.shards (workAsk c.parts)) } vo vp mo mu' vs vr ∧ Turn (· = cb) w w1 ∧ Step w1 w' := by
  have hcb := h.lt
  have p6 : w.cell? ⟨cb, 6, none⟩ = some (.int .i64 0) := by rw [← hph]; exact h.cells.cell 6
  have p3 : w.cell? ⟨cb, 3, none⟩ = some vo := h.cells.cell 3
  have p4 : w.cell? ⟨cb, 4, none⟩ = some vp := h.cells.cell 4
  obtain ⟨a1, c1, rfl, _⟩ := Ty.slice_val h.parts
  obtain ⟨a2, c2, rfl, _⟩ := Ty.slice_val h.ops
  have hlen : 0 < c.parts.length := List.length_pos_iff.2 hne
  have hz : ((c.parts.length : Int) == 0) = false := beq_eq_false_iff_ne.2 (by omega)
  have H := Lib.hid h
  have HI := Lib.hid hinc
  have HSH := Lib.hid hsh
  have HONE := Lib.hid hone
  clear hone
  have HCK := Lib.hid hck
  clear h hinc hsh hck hph hne
  have hent := enters_of Tryz.func51 (by kernel_rfl) rfl
  go_enter Tryz.func10, Tryz.ntmps10
  go_wp2_with (go_at_call 48; refine (Check_ (Ty.step _ H.out.ops (by (repeat (first | exact Step.refl _ | refine Step.alloc ?_ _ | refine Step.drew ?_ | refine Step.drewN ?_ _ | refine Step.setCell ?_ (by first | exact Nat.le_refl _ | assumption | omega | (simp; done) | (simp; omega)) _ | assumption | refine Step.trans ?_ (by assumption : Step _ _)))))).mono ?_; rintro e w1 ⟨rfl, hS1⟩; rw [HCK.out]; have s1 : ∀ j, w1.cell? ⟨cb, j, none⟩ = _ := fun j => hS1.cell (by simp; omega) j; have s1' : ∀ j, w1.cell? ⟨w.heap.size, j, none⟩ = _ := fun j => hS1.cell (by simp) j)
  have hz1 := hS1.size
  simp only [World.size_alloc] at hz1
  have hS2 : Step w w1 := by (repeat (first | exact Step.refl _ | refine Step.alloc ?_ _ | refine Step.drew ?_ | refine Step.drewN ?_ _ | refine Step.setCell ?_ (by first | exact Nat.le_refl _ | assumption | omega | (simp; done) | (simp; omega)) _ | assumption | refine Step.trans ?_ (by assumption : Step _ _)))
  have hbx : w1.cell? ⟨w.heap.size, 0, none⟩ = some (.pointer (some ⟨cb, 0, none⟩)) := by rw [s1' 0]; simp
  have H1 := Lib.hid (H.out.keep (fun b h1 _ => hS2.heap h1))
  refine (sendO_ (f := workAsk c.parts) (caps := #[.pointer (some ⟨w.heap.size, 0, none⟩)]) H1.out (by omega) HI.out HONE.out hent (fun i hi W nb l hCI hT => Begin1_ (c := { c with out := some l }) hCI ((hT.cell (by omega) (by omega) 0).trans hbx) (by rw [← HSH.out]; exact hi))).mono ?_
  rintro e w2 ⟨v2, w3, rfl, hA2, hC2, hT2, hS3⟩
  have HA2 := Lib.hid hA2
  have HC2 := Lib.hid hC2
  clear hA2 hC2
  go_wp2
  go_ret
  first | exact ⟨_, rfl, _, w3, HA2.out, HC2.out, (Turn.of hS2).trans hT2, hS3⟩ | exact ⟨_, _, w3, rfl, HA2.out, HC2.out, (Turn.of hS2).trans hT2, hS3⟩
end Go.Proofs.YthflkfgiclcdiaaGreat
