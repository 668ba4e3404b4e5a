/-
  Parts of a request, in plain words: what BranchParts asks of each part.
-/
import Derived.Test.YthflkfgiclcdiaaZB25
set_option linter.unusedVariables false
set_option linter.unusedSimpArgs false
namespace Go.Proofs.Ythflkfgiclcdiaa
open Go.Gr
set_option linter.unusedSimpArgs false
set_option linter.unusedVariables false
theorem cmpB_refl0 : ∀ k : List UInt8, cmpB k k = 0
  | [] => by simp [cmpB]
  | a :: l => by simp [cmpB, cmpB_refl0 l]
theorem rngB_self {lo hi : List UInt8} (h : emptyB lo hi = false) : rngB lo hi lo = true := by
  unfold rngB
  rw [cmpB_refl0]
  unfold emptyB at h
  by_cases h1 : hi = []
  · simp [h1]
  · have h2 : 0 < hi.length := List.length_pos_iff.2 h1
    have h3 : ¬ 0 ≤ cmpB lo hi := by simpa [h2] using h
    have h4 : cmpB lo hi < 0 := by omega
    simp [h4]
/-- The key of a piece routes to its shard. -/
theorem piece_route {sp : List (List UInt8)} (h : GoodSp sp) {s : Nat} (hs : s ≤ sp.length) {o : DOp} (hy : (pieceB sp s o).2 = true) : routeB sp (pieceB sp s o).1.key = s := by
  by_cases ho : o.kind = 4
  · have he : emptyB (pieceB sp s o).1.key (pieceB sp s o).1.value = false := by
      unfold pieceB at hy ⊢
      rw [if_neg (fun h => h ho)] at hy ⊢
      simpa using hy
    have h1 := rngB_self he
    rw [piece_rng ho, in_route h hs, Bool.and_eq_true] at h1
    exact of_decide_eq_true h1.1
  · rw [piece_point_eq h hs ho] at hy ⊢
    exact of_decide_eq_true hy
theorem selG_mem {sp : List (List UInt8)} {s : Nat} : ∀ {ops : List DOp} {i : Nat} {p : DOp × Int}, p ∈ selG sp s i ops → ∃ g, ∃ hg : g < ops.length, p.2 = (i : Int) + (g : Int) ∧ p.1 = (pieceB sp s ops[g]).1 ∧ (pieceB sp s ops[g]).2 = true
  | [], _, _, h => by simp [selG_nil] at h
  | o :: r, i, p, h => by
    have next : p ∈ selG sp s (i + 1) r → ∃ g, ∃ hg : g < (o :: r).length, p.2 = (i : Int) + (g : Int) ∧ p.1 = (pieceB sp s (o :: r)[g]).1 ∧ (pieceB sp s (o :: r)[g]).2 = true := fun h => by
      obtain ⟨g, hg, h1, h2, h3⟩ := selG_mem h
      exact ⟨g + 1, by simp only [List.length_cons]; omega, by omega, h2, h3⟩
    cases hq : (pieceB sp s o).2 with
    | true =>
      rw [selG_yes hq] at h
      rcases List.mem_cons.1 h with rfl | h
      · exact ⟨0, by simp, by simp, rfl, hq⟩
      · exact next h
    | false =>
      rw [selG_no hq] at h
      exact next h
theorem selG_rise {sp : List (List UInt8)} {s : Nat} : ∀ (ops : List DOp) (i : Nat), ((selG sp s i ops).map Prod.snd).Pairwise (· < ·)
  | [], _ => by simp [selG_nil]
  | o :: r, i => by
    cases hq : (pieceB sp s o).2 with
    | true =>
      rw [selG_yes hq, List.map_cons]
      refine List.pairwise_cons.2 ⟨fun a ha => ?_, selG_rise r (i + 1)⟩
      obtain ⟨p, hp, rfl⟩ := List.mem_map.1 ha
      have := selG_idx hp
      simp only
      omega
    | false =>
      rw [selG_no hq]
      exact selG_rise r (i + 1)
/-- A part as the law asks. -/
structure PartOk (sp : List (List UInt8)) (ops : List DOp) (p : DPart) : Prop where
  sh : ∃ s : Nat, s ≤ sp.length ∧ p.shard = (s : Int)
  ne : 0 < p.ops.length
  len : p.index.length = p.ops.length
  few : p.ops.length ≤ ops.length
  at_ : ∀ i (h : i < p.ops.length) (h2 : i < p.index.length), ∃ g : Nat, ∃ hg : g < ops.length, p.index[i] = (g : Int) ∧ p.ops[i].kind = ops[g].kind ∧ (routeB sp p.ops[i].key : Int) = p.shard
  ris : p.index.Pairwise (· < ·)
theorem partB_ok {sp : List (List UInt8)} (h : GoodSp sp) {ops : List DOp} {s : Nat} (hs : s ≤ sp.length) (hn : (selB sp s ops ops.length).length ≠ 0) : PartOk sp ops (partB sp ops s) := by
  have hle := selB_le (sp := sp) (s := s) (k := ops.length) (ops := ops)
  unfold partB
  rw [selB_eq] at hn hle ⊢
  refine ⟨⟨s, hs, rfl⟩, by rw [List.length_map]; omega, by rw [List.length_map, List.length_map], by rw [List.length_map]; exact hle, fun i h1 h2 => ?_, selG_rise ops 0⟩
  simp only [List.getElem_map]
  rw [List.length_map] at h1
  obtain ⟨g, hg, e1, e2, e3⟩ := selG_mem (List.getElem_mem h1)
  refine ⟨g, hg, by rw [e1]; omega, by rw [e2]; exact (piece_kind sp s ops[g]).1, ?_⟩
  rw [e2, piece_route h hs e3]
theorem partsB_ok {sp : List (List UInt8)} (h : GoodSp sp) {ops : List DOp} : ∀ p ∈ partsB sp ops (sp.length + 1), PartOk sp ops p := by
  intro p hp
  unfold partsB at hp
  obtain ⟨s, hs, he⟩ := List.mem_filterMap.1 hp
  unfold partF at he
  split at he
  · cases he
  · rename_i hn
    cases he
    have := List.mem_range.1 hs
    exact partB_ok h (by omega) hn
theorem partsB_shards (sp : List (List UInt8)) (ops : List DOp) (n : Nat) : ((partsB sp ops n).map DPart.shard).Pairwise (· < ·) := by
  unfold partsB
  rw [List.map_filterMap]
  refine List.Pairwise.filterMap (R := fun a b : Nat => a < b) _ ?_ List.pairwise_lt_range
  intro a b hab x hx y hy
  unfold partF at hx hy
  simp only [Option.mem_def, Option.map_eq_some_iff] at hx hy
  obtain ⟨p, hp, rfl⟩ := hx
  obtain ⟨q, hq, rfl⟩ := hy
  split at hp
  · cases hp
  · split at hq
    · cases hq
    · cases hp
      cases hq
      simp only [partB]
      omega
/-- Where a list of numbers rises: each is above the one ahead. -/
theorem rise_at {l : List Int} (h : l.Pairwise (· < ·)) {i : Nat} (h1 : i + 1 < l.length) : l[i] < l[i + 1] := List.pairwise_iff_getElem.1 h i (i + 1) (by omega) h1 (by omega)
end Go.Proofs.Ythflkfgiclcdiaa
