/-
  A coordinator that has begun: what of it decides about strays.
-/
import Derived.Test.YthflkfgiclcdiaaGreatC10
import Derived.Test.YthflkfgiclcdiaaGreatW6
import Derived.Test.YthflkfgiclcdiaaGreatW9
namespace Go.Proofs.YthflkfgiclcdiaaGreat
open Go.Gr Go.RowKit
set_option linter.unusedSimpArgs false
theorem partF_shard {sp : List (List UInt8)} {ops : List DOp} {s : Nat} {p : DPart} (h : partF sp ops s = some p) : p.shard = s := by
  unfold partF at h
  split at h
  · cases h
  · injection h with h
    rw [← h]
    rfl
theorem partsB_inc {sp : List (List UInt8)} {ops : List DOp} {n : Nat} : ((partsB sp ops n).map (·.shard)).Pairwise (· < ·) := by
  rw [List.pairwise_map]
  unfold partsB
  refine List.Pairwise.filterMap (R := (· < ·)) _ (fun a a' haa b hb b' hb' => ?_) List.pairwise_lt_range
  rw [partF_shard hb, partF_shard hb']
  omega
theorem partsB_small {sp : List (List UInt8)} {ops : List DOp} {n : Nat} : ∀ s ∈ (partsB sp ops n).map (fun p : DPart => p.shard), 0 ≤ s ∧ s < (n : Int) := by
  intro s hs
  obtain ⟨p, hp, rfl⟩ := List.mem_map.1 hs
  obtain ⟨k, hk, hkp⟩ := List.mem_filterMap.1 hp
  rw [partF_shard hkp]
  have := List.mem_range.1 hk
  omega
structure StrayOk (c : DCoord) (x : DTxn) : Prop where
  phase : c.phase = 0
  certain : c.certain = false
  txn : c.txn = x
  outs : ∀ p ∈ c.out.getD [], 0 ≤ p.1 ∧ p.1 < 4 ∧ p.2.kind = 2
  wants : (c.wants = 0 ∧ sendsOf c.out ≠ []) ∨ (c.wants = 1 ∧ sendsOf c.out = [])
set_option maxRecDepth 100000 in
theorem Begin_any {w : World} {B cb : Nat} {c : DCoord} {vo vp mo mu vs vr : Value} (h : CoordIn w B cb c vo vp mo mu vs vr) (hB : B ≤ w.heap.size) (hsh : c.shards = c.parts.map (·.shard)) (hinc : c.shards.Pairwise (· < ·)) (hsm : ∀ s ∈ c.shards, 0 ≤ s ∧ s < 4)
    (hph : c.phase = 0) (hck : checkB c.ops = 0) (hn : c.ops.length ≤ 1048576) (hce : c.certain = false) (hw : c.wants = 0) :
    Calls Tryz.prog 10 #[.pointer (some ⟨cb, 0, none⟩)] w fun e w' => ∃ v' mu' vr' c', e = .returned v' ∧ Own tSend 41 w' (· < w.heap.size) w.heap.size v' (sendsOf c'.out) ∧
      CoordIn w' B cb c' vo vp mo mu' vs vr' ∧ Turn (· = cb) w w' ∧ StrayOk c' c.txn := by
  by_cases hp : c.parts = []
  · refine (Begin_none h hB hph hck hp hn).mono ?_
    rintro e w' ⟨rfl, vr', hC, hT⟩
    exact ⟨_, _, _, _, rfl, Own.nil, hC, hT, ⟨hph, hce, rfl, by simp, .inr ⟨rfl, rfl⟩⟩⟩
  · refine (Begin_work h hB hinc (by rw [hsh, List.length_map]) hph hck hp).mono ?_
    rintro e w' ⟨v', mu', rfl, hA, hC, hT⟩
    refine ⟨_, _, _, _, rfl, hA, hC, hT, ⟨hph, hce, rfl, fun p hp' => ?_, .inl ⟨hw, ?_⟩⟩⟩
    · obtain ⟨k, hk, rfl⟩ := List.getElem_of_mem hp'
      have hk' : k < c.shards.length := by rw [← asksOf_len (x := c.txn) (f := workAsk c.parts)]; exact hk
      have := asksOf_at (x := c.txn) (f := workAsk c.parts) hk'
      simp only [Option.getD_some]
      rw [this]
      exact ⟨(hsm _ (List.getElem_mem hk')).1, (hsm _ (List.getElem_mem hk')).2, rfl⟩
    · intro he
      have h1 := congrArg List.length he
      simp only [sendsOf, Option.getD_some, List.length_map, asksOf_len, List.length_nil] at h1
      rw [hsh, List.length_map] at h1
      exact hp (List.length_eq_zero_iff.1 h1)
theorem splits_len {sp : List (List UInt8)} (h : splitsB sp = 0) : sp.length ≤ 3 := by
  unfold splitsB at h
  split at h
  · cases h
  · omega
/-- An answer that is a stray: of another transaction, or of another kind. -/
theorem cAnswer_stray {w : World} {B cb : Nat} {c : DCoord} {vo vp mo mu vs vr : Value} {at_ : Int} {x : DAnswer} {oe oa : Int} {b1 b2 b3 : Option Addr} {n1 n2 n3 k1 k2 k3 : Nat} (h : CoordIn w B cb c vo vp mo mu vs vr) (hat : I64 at_)
    (hk : ∀ p ∈ c.out.getD [], p.1 = at_ → p.2.kind = 2 ∧ (x.txn = c.txn → x.kind ≠ 2)) :
    Calls Tryz.prog 16 #[.pointer (some ⟨cb, 0, none⟩), .int .i64 at_, .agg (ansCells x oe oa (.slice b1 n1 k1) (.slice b2 n2 k2) (.slice b3 n3 k3))] w fun e w' => e = .returned (.slice none 0 0) ∧ Step w w' := by
  by_cases hin : ∃ p ∈ c.out.getD [], p.1 = at_
  · obtain ⟨p, hp, hpe⟩ := hin
    rcases ho : c.out with _ | l
    · rw [ho] at hp; simp at hp
    · rw [ho] at hk hp
      simp only [Option.getD_some] at hk hp
      exact cAnswer_in (y := p.2) h ho hat (fun q hq hqe => by rw [(hk q hq hqe).1, (hk p hp hpe).1]) ⟨p, hp, hpe⟩ (fun ht => by rw [(hk p hp hpe).1]; exact (hk p hp hpe).2 ht)
  · exact cAnswer_out h hat (fun p hp hpe => hin ⟨p, hp, hpe⟩)
end Go.Proofs.YthflkfgiclcdiaaGreat
