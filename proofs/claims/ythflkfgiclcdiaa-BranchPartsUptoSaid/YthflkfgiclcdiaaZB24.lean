/-
  A request in parts, in plain words: what the parts come to, joined, is what the whole comes to.
-/
import Derived.Test.YthflkfgiclcdiaaZB23
import Derived.Test.YthflkfgiclcdiaaZP7
import Derived.Test.YthflkfgiclcdiaaZP5
set_option linter.unusedVariables false
set_option linter.unusedSimpArgs false
namespace Go.Proofs.Ythflkfgiclcdiaa
open Go.Gr
set_option linter.unusedSimpArgs false
set_option linter.unusedVariables false
/-- Splits by rising keys, none empty, none long. -/
structure GoodSp (sp : List (List UInt8)) : Prop where
  rise : ∀ i j (hi : i < sp.length) (hj : j < sp.length), i < j → cmpB sp[i] sp[j] < 0
  ne : ∀ s ∈ sp, s ≠ []
  short : ∀ s ∈ sp, s.length ≤ 64
  len : sp.length ≤ 3
theorem GoodSp.of {sp : List (List UInt8)} (h : splitsB sp = 0) : GoodSp sp := by
  unfold splitsB at h
  split at h
  · simp at h
  · rename_i h1
    split at h
    · simp at h
    · rename_i h2
      split at h
      · simp at h
      · rename_i h3
        have hb : ∀ i, i < sp.length → badSplit sp i = false := fun i hi => by
          cases hq : badSplit sp i with
          | false => rfl
          | true => exact absurd (List.any_eq_true.2 ⟨i, List.mem_range.2 hi, hq⟩) h3
        have hadj : ∀ i (hi : i + 1 < sp.length), cmpB sp[i] sp[i + 1] < 0 := fun i hi => by
          have := hb (i + 1) hi
          simp only [badSplit, Bool.or_eq_false_iff, Bool.and_eq_false_iff, decide_eq_false_iff_not] at this
          rcases this.2 with h4 | h4
          · omega
          · rw [Nat.add_sub_cancel, List.getElem?_eq_getElem hi, List.getElem?_eq_getElem (by omega)] at h4
            simp only [Option.getD_some] at h4
            omega
        refine ⟨fun i j hi hj hij => ?_, fun s hs => ?_, fun s hs => ?_, by omega⟩
        · induction j with
          | zero => omega
          | succ j ih =>
            by_cases he : i = j
            · subst he; exact hadj i hj
            · exact cmpB_trans (ih (by omega) (by omega)) (hadj j hj)
        · obtain ⟨i, hi, rfl⟩ := List.getElem_of_mem hs
          have := hb i hi
          simp only [badSplit, Bool.or_eq_false_iff, decide_eq_false_iff_not] at this
          have h4 := this.1
          rw [List.getElem?_eq_getElem hi] at h4
          intro e
          exact h4 (by simp [e])
        · have h4 : ¬ (64 < s.length) := fun hl => h2 (List.any_eq_true.2 ⟨s, hs, decide_eq_true hl⟩)
          omega
theorem GoodSp.drop {sp : List (List UInt8)} (h : GoodSp sp) (n : Nat) : GoodSp (sp.drop n) := by
  refine ⟨fun i j hi hj hij => ?_, fun s hs => h.ne s (List.mem_of_mem_drop hs), fun s hs => h.short s (List.mem_of_mem_drop hs), by have := h.len; rw [List.length_drop]; omega⟩
  rw [List.length_drop] at hi hj
  rw [List.getElem_drop, List.getElem_drop]
  exact h.rise _ _ (by omega) (by omega) (by omega)
theorem cmpB_nil (k : List UInt8) : cmpB [] k ≤ 0 := by cases k <;> simp [cmpB]
theorem routeB_le (sp : List (List UInt8)) (k : List UInt8) : routeB sp k ≤ sp.length := List.findIdx_le_length
theorem routeB_lt {sp : List (List UInt8)} {k : List UInt8} (h : routeB sp k < sp.length) : cmpB k sp[routeB sp k] < 0 := by
  have := List.findIdx_getElem (xs := sp) (p := fun s => decide (cmpB k s < 0)) (w := h)
  exact of_decide_eq_true this
theorem routeB_not {sp : List (List UInt8)} {k : List UInt8} {j : Nat} (hj : j < sp.length) (h : j < routeB sp k) : ¬ cmpB k sp[j] < 0 := by
  have := List.not_of_lt_findIdx (xs := sp) (p := fun s => decide (cmpB k s < 0)) h
  simpa using this
theorem cmpB_not_lt {a b : List UInt8} (h : ¬ cmpB a b < 0) : cmpB b a ≤ 0 := by rw [cmpB_swap a b]; omega
/-- The bounds of a shard have just its keys. -/
theorem in_route {sp : List (List UInt8)} (h : GoodSp sp) {s : Nat} (hs : s ≤ sp.length) (k : List UInt8) : inB (loB sp s) (hiB sp s) k = decide (routeB sp k = s) := by
  by_cases hr : routeB sp k = s
  · rw [decide_eq_true hr]
    unfold inB
    rw [Bool.and_eq_true, Bool.or_eq_true]
    refine ⟨decide_eq_true ?_, ?_⟩
    · unfold loB
      split
      · exact cmpB_nil k
      · rw [List.getElem?_eq_getElem (by omega)]
        exact cmpB_not_lt (routeB_not (by omega) (by omega))
    · unfold hiB
      rcases Nat.lt_or_ge s sp.length with h1 | h1
      · right
        rw [List.getElem?_eq_getElem h1]
        have := routeB_lt (sp := sp) (k := k) (by omega)
        simp only [hr] at this
        exact decide_eq_true this
      · left
        rw [List.getElem?_eq_none h1]
        rfl
  · rw [decide_eq_false hr]
    cases hq : inB (loB sp s) (hiB sp s) k with
    | false => rfl
    | true =>
      exfalso
      apply hr
      unfold inB at hq
      rw [Bool.and_eq_true, Bool.or_eq_true] at hq
      have h1 := of_decide_eq_true hq.1
      have hno : ∀ j (hj : j < sp.length), j < s → ¬ cmpB k sp[j] < 0 := fun j hj hjs hlt => by
        unfold loB at h1
        rw [if_neg (by omega), List.getElem?_eq_getElem (by omega)] at h1
        simp only [Option.getD_some] at h1
        have h2 := cmpB_le_lt h1 hlt
        rcases Nat.lt_or_ge j (s - 1) with h3 | h3
        · exact cmpB_asymm h2 (h.rise _ _ hj (by omega) h3)
        · have : s - 1 = j := by omega
          subst this
          exact cmpB_irr _ h2
      rcases Nat.lt_or_ge s sp.length with h3 | h3
      · unfold hiB at hq
        rw [List.getElem?_eq_getElem h3] at hq
        simp only [Option.getD_some] at hq
        have h4 : cmpB k sp[s] < 0 := by
          rcases hq.2 with h5 | h5
          · exact absurd (of_decide_eq_true h5) (h.ne _ (List.getElem_mem h3))
          · exact of_decide_eq_true h5
        exact routeB_at h3 hno h4
      · have : s = sp.length := by omega
        subst this
        exact routeB_out fun j hj => hno j hj hj
/-- Keys of a piece of a scan. -/
theorem piece_rng {sp : List (List UInt8)} {s : Nat} {o : DOp} (ho : o.kind = 4) (k : List UInt8) : rngB (pieceB sp s o).1.key (pieceB sp s o).1.value k = (inB (loB sp s) (hiB sp s) k && rngB o.key o.value k) := by
  unfold pieceB
  rw [if_neg (fun h => h ho)]
  simp only
  generalize loB sp s = lo
  generalize hiB sp s = hi
  have h1 : decide (cmpB (if 0 < cmpB lo o.key then lo else o.key) k ≤ 0) = (decide (cmpB lo k ≤ 0) && decide (cmpB o.key k ≤ 0)) := by
    split
    · rename_i h
      have h2 := cmpB_neg.1 h
      by_cases h3 : cmpB lo k ≤ 0
      · have : cmpB o.key k ≤ 0 := by have := cmpB_lt_le h2 h3; omega
        simp [h3, this]
      · simp [h3]
    · rename_i h
      by_cases h3 : cmpB o.key k ≤ 0
      · have : cmpB lo k ≤ 0 := cmpB_le_trans (by omega) h3
        simp [h3, this]
      · simp [h3]
  have h2 : (decide ((if hi ≠ [] ∧ (o.value = [] ∨ cmpB hi o.value < 0) then hi else o.value) = []) || decide (cmpB k (if hi ≠ [] ∧ (o.value = [] ∨ cmpB hi o.value < 0) then hi else o.value) < 0)) =
      ((decide (hi = []) || decide (cmpB k hi < 0)) && (decide (o.value = []) || decide (cmpB k o.value < 0))) := by
    split
    · rename_i h
      obtain ⟨h3, h4⟩ := h
      rcases h4 with h4 | h4
      · simp [h3, h4]
      · by_cases h5 : cmpB k hi < 0
        · simp [h3, h5, cmpB_trans h5 h4]
        · simp [h3, h5]
    · rename_i h
      by_cases h3 : hi = []
      · simp [h3]
      · have h4 : o.value ≠ [] ∧ ¬ cmpB hi o.value < 0 := ⟨fun e => h ⟨h3, .inl e⟩, fun e => h ⟨h3, .inr e⟩⟩
        by_cases h5 : cmpB k o.value < 0
        · have : cmpB k hi < 0 := cmpB_lt_le h5 (cmpB_not_lt h4.2)
          simp [h3, h4.1, h5, this]
        · simp [h3, h4.1, h5]
  unfold rngB inB
  rw [h1, h2]
  cases decide (cmpB lo k ≤ 0) <;> cases decide (cmpB o.key k ≤ 0) <;> simp
/-- What of a range lies in a shard. -/
def segB (L : List DPair) (sp : List (List UInt8)) (s : Nat) (o : DOp) : List DPair := (shardB L sp s).filter fun p => rngB o.key o.value p.key
theorem scan_piece {L : List DPair} {sp : List (List UInt8)} (h : GoodSp sp) {s : Nat} (hs : s ≤ sp.length) {o : DOp} (ho : o.kind = 4) (m : Nat) : scanB (shardB L sp s) (pieceB sp s o).1.key (pieceB sp s o).1.value m = (segB L sp s o).take m := by
  unfold scanB segB
  congr 1
  refine List.filter_congr fun p hp => ?_
  have hr : routeB sp p.key = s := by
    unfold shardB at hp
    simpa using (List.mem_filter.1 hp).2
  rw [piece_rng ho, in_route h hs, decide_eq_true hr, Bool.true_and]
theorem seg_none {L : List DPair} {sp : List (List UInt8)} (h : GoodSp sp) {s : Nat} (hs : s ≤ sp.length) {o : DOp} (ho : o.kind = 4) (hn : (pieceB sp s o).2 = false) : segB L sp s o = [] := by
  unfold segB
  refine List.filter_eq_nil_iff.2 fun p hp => ?_
  have hr : routeB sp p.key = s := by
    unfold shardB at hp
    simpa using (List.mem_filter.1 hp).2
  have h1 := piece_rng (sp := sp) (s := s) ho p.key
  rw [in_route h hs, decide_eq_true hr, Bool.true_and] at h1
  rw [← h1]
  have h2 : emptyB (pieceB sp s o).1.key (pieceB sp s o).1.value = true := by
    unfold pieceB at hn ⊢
    rw [if_neg (fun h => h ho)] at hn ⊢
    simpa using hn
  unfold emptyB at h2
  rw [Bool.and_eq_true] at h2
  have h3 := of_decide_eq_true h2.1
  rw [rngB_none (by intro e; rw [e] at h3; simp at h3) (of_decide_eq_true h2.2)]
  simp
theorem piece_point_eq {sp : List (List UInt8)} (h : GoodSp sp) {s : Nat} (hs : s ≤ sp.length) {o : DOp} (ho : o.kind ≠ 4) : pieceB sp s o = (o, decide (routeB sp o.key = s)) := by
  unfold pieceB
  rw [if_pos ho, in_route h hs]
/-- A rising list, shard by shard. -/
theorem parted {α : Type} {f : α → Nat} {L : List α} (h : L.Pairwise fun a b => f a ≤ f b) : ∀ N, (List.range N).flatMap (fun s => L.filter fun x => decide (f x = s)) = L.filter fun x => decide (f x < N)
  | 0 => by simp
  | N + 1 => by
    rw [List.range_succ, List.flatMap_append, parted h N]
    simp only [List.flatMap_cons, List.flatMap_nil, List.append_nil]
    induction L with
    | nil => rfl
    | cons a r ih =>
      obtain ⟨h1, h2⟩ := List.pairwise_cons.1 h
      simp only [List.filter_cons]
      rcases Nat.lt_trichotomy (f a) N with h3 | h3 | h3
      · have e1 : decide (f a < N) = true := decide_eq_true h3
        have e2 : decide (f a = N) = false := decide_eq_false (by omega)
        have e3 : decide (f a < N + 1) = true := decide_eq_true (by omega)
        simp only [e1, e2, e3, if_true, Bool.false_eq_true, if_false, List.cons_append, ih h2]
      · have e1 : decide (f a < N) = false := decide_eq_false (by omega)
        have e2 : decide (f a = N) = true := decide_eq_true h3
        have e3 : decide (f a < N + 1) = true := decide_eq_true (by omega)
        have hnil : r.filter (fun x => decide (f x < N)) = [] := List.filter_eq_nil_iff.2 fun x hx => by have := h1 x hx; simp; omega
        have := ih h2
        rw [hnil, List.nil_append] at this
        simp only [e1, e2, e3, if_true, Bool.false_eq_true, if_false, hnil, List.nil_append, this]
      · have e1 : decide (f a < N) = false := decide_eq_false (by omega)
        have e2 : decide (f a = N) = false := decide_eq_false (by omega)
        have e3 : decide (f a < N + 1) = false := decide_eq_false (by omega)
        simp only [e1, e2, e3, Bool.false_eq_true, if_false, ih h2]
theorem routeB_mono {sp : List (List UInt8)} {a b : List UInt8} (h : cmpB a b < 0) : routeB sp a ≤ routeB sp b := by
  rcases Nat.lt_or_ge (routeB sp b) (routeB sp a) with h1 | h1
  · have h2 := routeB_le sp a
    exact absurd (cmpB_trans h (routeB_lt (sp := sp) (k := b) (by omega))) (routeB_not (by omega) h1)
  · exact h1
theorem shards_all {α : Type} {key : α → List UInt8} {L : List α} (h : Rising key L) (sp : List (List UInt8)) : (List.range (sp.length + 1)).flatMap (fun s => L.filter fun x => decide (routeB sp (key x) = s)) = L := by
  rw [parted (f := fun x => routeB sp (key x)) (List.Pairwise.imp (fun h => routeB_mono h) h)]
  exact List.filter_eq_self.2 fun x _ => by have := routeB_le sp (key x); simp; omega
theorem segs_all {L : List DPair} (h : RisP L) (sp : List (List UInt8)) (o : DOp) : (List.range (sp.length + 1)).flatMap (fun s => segB L sp s o) = L.filter fun p => rngB o.key o.value p.key := by
  have h1 : ∀ l : List Nat, l.flatMap (fun s => segB L sp s o) = (l.flatMap fun s => shardB L sp s).filter fun p => rngB o.key o.value p.key := fun l => by
    induction l with
    | nil => rfl
    | cons a r ih => simp only [List.flatMap_cons, List.filter_append, ih]; rfl
  rw [h1]
  have := shards_all h sp
  unfold shardB
  rw [this]
theorem take_flat {α β : Type} (f : α → List β) (m : Nat) : ∀ l : List α, (l.flatMap fun a => (f a).take m).take m = (l.flatMap f).take m
  | [] => rfl
  | a :: r => by
    have ih := take_flat f m r
    simp only [List.flatMap_cons, List.take_append, List.length_take, List.take_take, Nat.min_self]
    congr 1
    have h2 : m - min m (f a).length = m - (f a).length := by omega
    rw [h2]
    have h3 : ∀ n, n ≤ m → (r.flatMap fun a => (f a).take m).take n = (r.flatMap f).take n := fun n hn => by
      have := congrArg (List.take n) ih
      rwa [List.take_take, List.take_take, Nat.min_eq_left hn] at this
    exact h3 _ (by omega)
theorem flat_one {β : Type} (x : List β) (r : Nat) : ∀ N, (List.range N).flatMap (fun s => if r = s then x else []) = if r < N then x else []
  | 0 => rfl
  | N + 1 => by
    rw [List.range_succ, List.flatMap_append, flat_one x r N]
    simp only [List.flatMap_cons, List.flatMap_nil, List.append_nil]
    rcases Nat.lt_trichotomy r N with h | h | h
    · rw [if_pos h, if_neg (by omega), if_pos (by omega), List.append_nil]
    · rw [if_neg (by omega), if_pos h, if_pos (by omega), List.nil_append]
    · rw [if_neg (by omega), if_neg (by omega), if_neg (by omega)]
      rfl
end Go.Proofs.Ythflkfgiclcdiaa
