/-
  Plain words for TwopcTimes.
-/
import Derived.Test.YthflkfgiclcdiaaGreatC18
import Derived.Test.YthflkfgiclcdiaaGreatW24
namespace Go.Proofs.YthflkfgiclcdiaaGreat
open Go.Gr Go.RowKit
set_option linter.unusedSimpArgs false
theorem open_k' {P : Program} {c : Code} {Q : Exit → Act → World → Prop} {K : Act → World → Prop} {a : Act} {w : World} (h : ∀ a w, Code.wp P c Q a w → K a w) (h2 : Code.wp P c Q a w) : K a w := h a w h2
theorem New_B (w : World) (M : Nat → Prop) (x : DTxn) (v1 v2 : Value) (sp : List (List UInt8)) (xs : List DOp) (p : Int) (hx : x.Ok) (h1 : (Ty.slice Ty.bytes).rep w M [v1] sp) (h2 : (Ty.slice tOp).rep w M [v2] xs) (hsp : sp.length < 1048576) (hxs : xs.length < 1048576) (hp : I64 p) :
    Calls Tryz.prog 9 #[.agg #[.int .u64 (x.boot : Int), .int .u64 (x.session : Int), .int .u64 (x.seq : Int)], v1, v2, .int .i64 p] w fun e w' => ∃ cb B, e = .returned (.pointer (some ⟨cb, 0, none⟩)) ∧ w.heap.size ≤ B ∧ B ≤ w'.heap.size ∧
      CoordRep w' B cb ⟨x, xs, partsB sp xs (sp.length + 1), some [], 0, 0, none, (partsB sp xs (sp.length + 1)).map (·.shard), false, [], false, 0, patB p⟩ ∧ Step w w' :=
  (New_ w M x v1 v2 sp xs p hx h1 h2 hsp hxs hp).mono fun _ _ ⟨cb, h1, h2, h3⟩ => ⟨cb, _, h1, Nat.le_refl _, h3.size, h2, h3⟩
theorem inc_filter {α : Type} {l : List (Int × α)} (h : l.Pairwise (fun p q => p.1 < q.1)) {i : Nat} (hi : i < l.length) : l.filter (fun p => p.1 != l[i].1) = l.take i ++ l.drop (i + 1) := by
  have hpw := List.pairwise_iff_getElem.1 h
  have hs : l = l.take i ++ l[i] :: l.drop (i + 1) := by rw [← List.drop_eq_getElem_cons hi, List.take_append_drop]
  have he := congrArg (List.filter (fun p => p.1 != l[i].1)) hs
  refine he.trans ?_
  rw [List.filter_append, List.filter_cons]
  have h1 : (l.take i).filter (fun p => p.1 != l[i].1) = l.take i := by
    rw [List.filter_eq_self]
    intro p hp
    obtain ⟨j, hj, rfl⟩ := List.getElem_of_mem hp
    simp at hj
    have := hpw j i (by omega) hi (by omega)
    rw [List.getElem_take]
    simp
    omega
  have h2 : (l.drop (i + 1)).filter (fun p => p.1 != l[i].1) = l.drop (i + 1) := by
    rw [List.filter_eq_self]
    intro p hp
    obtain ⟨j, hj, rfl⟩ := List.getElem_of_mem hp
    simp at hj
    have := hpw i (i + 1 + j) hi (by omega) (by omega)
    rw [List.getElem_drop]
    simp
    omega
  simp only [bne_self_eq_false, Bool.false_eq_true, if_false]
  rw [h1, h2]
theorem inc_filter_len {α : Type} {l : List (Int × α)} (h : l.Pairwise (fun p q => p.1 < q.1)) {i : Nat} (hi : i < l.length) : (l.filter (fun p => p.1 != l[i].1)).length = l.length - 1 := by
  rw [inc_filter h hi]
  simp
  omega
theorem inc_drop {α : Type} {l : List (Int × α)} (h : l.Pairwise (fun p q => p.1 < q.1)) {k : Nat} (hk : k < l.length) : (l.drop k).filter (fun p => p.1 != l[k].1) = l.drop (k + 1) := by
  have h1 := inc_filter (l := l.drop k) (h.sublist (List.drop_sublist _ _)) (i := 0) (by simp; omega)
  simp only [List.getElem_drop, Nat.add_zero, List.take_zero, List.nil_append, List.drop_drop, Nat.zero_add] at h1
  rw [h1]
theorem asks_inc {x : DTxn} {shards : List Int} {f : Nat → DAsk} (h : shards.Pairwise (· < ·)) : (asksOf x shards f).Pairwise (fun p q => p.1 < q.1) := by
  rw [List.pairwise_iff_getElem]
  intro i j hi hj hij
  have hi' : i < shards.length := by rw [← asksOf_len (x := x) (f := f)]; exact hi
  have hj' : j < shards.length := by rw [← asksOf_len (x := x) (f := f)]; exact hj
  rw [asksOf_at hi', asksOf_at hj']
  exact List.pairwise_iff_getElem.1 h i j hi' hj' hij
theorem asks_kind {x : DTxn} {shards : List Int} {f : Nat → DAsk} {k : Int} (h : ∀ i, (f i).kind = k) : ∀ p ∈ asksOf x shards f, p.2.kind = k := by
  intro p hp
  obtain ⟨j, hj, rfl⟩ := List.getElem_of_mem hp
  have hj' : j < shards.length := by rw [← asksOf_len (x := x) (f := f)]; exact hj
  rw [asksOf_at hj']
  exact h j
theorem sends_len {l : List (Int × DAsk)} : (sendsOf (some l)).length = l.length := by simp [sendsOf]
theorem sends_at {l : List (Int × DAsk)} {k : Nat} (h : k < l.length) : (sendsOf (some l))[k]'(by rw [sends_len]; exact h) = ⟨l[k].1, l[k].2⟩ := by simp [sendsOf]
/-- Sends without ops or reply hang on their own row alone. -/
theorem sends_flat {w : World} {k : Nat} {M' : Nat → Prop} {v : Value} {xs : List DSend} (h : (Ty.slice tSend).rep w (· < k) [v] xs) (hf : ∀ s ∈ xs, s.ask.ops = [] ∧ s.ask.reply = []) (hM : ∀ b o u, w.cell? ⟨b, o, none⟩ = some u → k ≤ b → ¬ M' b) :
    (Ty.slice tSend).rep w M' [v] xs := by
  obtain ⟨a, c, e, h1, h2, h3, h4⟩ := h
  refine ⟨a, c, e, h1, h2, h3, fun hp => ?_⟩
  obtain ⟨b, off, ha, hb, hnM, hx⟩ := h4 hp
  refine ⟨b, off, ha, hb, ?_, fun i hi => ?_⟩
  · obtain ⟨es, hr, hc⟩ := hx 0 hp
    have hl := tSend.len hr
    have h0 : 0 < es.length := by rw [hl]; decide
    exact hM b _ _ (hc 0 _ (List.getElem?_eq_getElem h0)) (Nat.le_of_not_lt hnM)
  · obtain ⟨es, ⟨e0, e1, he, q⟩, hc⟩ := hx i hi
    obtain ⟨ho, hr⟩ := hf _ (List.getElem_mem hi)
    refine ⟨es, ?_, hc⟩
    generalize xs[i] = s at *
    refine ⟨e0, e1, he, q.1, q.2.1, q.2.2.1, q.2.2.2.1, q.2.2.2.2.1, q.2.2.2.2.2.1, q.2.2.2.2.2.2.1, q.2.2.2.2.2.2.2.1, ?_, ?_, q.2.2.2.2.2.2.2.2.2.2⟩
    · obtain ⟨a', c', e', r1, r2, r3, _⟩ := q.2.2.2.2.2.2.2.2.1
      exact ⟨a', c', e', r1, r2, r3, fun hp => by rw [ho] at hp; simp at hp⟩
    · obtain ⟨a', c', e', r1, r2, r3, _⟩ := q.2.2.2.2.2.2.2.2.2.1
      exact ⟨a', c', e', r1, r2, r3, fun hp => by rw [hr] at hp; simp at hp⟩
theorem reply_down : replyB 15 0 [] = smallB [[15], [0]] := by
  have h15 : numB (u64 15) = [15] := by
    have : u64 15 = 15 := by decide
    rw [this, numB_small (by omega)]
    rfl
  have h0 : numB (u64 0) = [0] := by
    have : u64 0 = 0 := by decide
    rw [this, numB_small (by omega)]
    rfl
  unfold replyB replyParts
  rw [h15, h0]
  exact joinB_small (small_two 15 0)
end Go.Proofs.YthflkfgiclcdiaaGreat
