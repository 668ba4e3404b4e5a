/-
  Words for data in memory, more: a row of the call's own in the midst of being turned in place ('OwnG'). No program is named here.
-/
import Derived.Test.YthebdlkmoailaaaGreatDoorZP1
import Derived.Lib.BufferMore
set_option linter.unusedVariables false
set_option linter.unusedSimpArgs false
namespace Go.Gr
set_option linter.unusedSimpArgs false
open Go.RowKit
section
variable {α : Type} {E : Ty α} {e : TypeId} {w w' : World} {M : Nat → Nat → Prop} {B : Nat} {v : Value} {xs : List α}

/-- A row of the call's own; each element with blocks of its own that it does not meet. -/
def OwnG (E : Ty α) (e : TypeId) (w : World) (M : Nat → Nat → Prop) (B : Nat) (v : Value) (xs : List α) : Prop :=
  xs.length ≤ lim ∧ ∃ cells, w.ownsRow B e E.n v xs.length cells ∧ ∀ i (hi : i < xs.length), E.rep w (fun b => M i b ∨ v.ownBlock = some b) (grp cells E.n i) xs[i]
theorem OwnG.of {M : Nat → Prop} (h : Own E e w M B v xs) : OwnG E e w (fun _ => M) B v xs := h
theorem OwnG.less {M' : Nat → Nat → Prop} (h : OwnG E e w M B v xs) (hM : ∀ i, i < xs.length → ∀ b, M' i b → M i b) : OwnG E e w M' B v xs := by
  obtain ⟨hl, cells, ho, hr⟩ := h
  exact ⟨hl, cells, ho, fun i hi => E.less (hr i hi) fun b _ hb => hb.imp (hM i hi b) id⟩
theorem OwnG.own {M' : Nat → Prop} (h : OwnG E e w M B v xs) (hM : ∀ i, i < xs.length → ∀ b, M' b → M i b) : Own E e w M' B v xs := by
  obtain ⟨hl, cells, ho, hr⟩ := h
  exact ⟨hl, cells, ho, fun i hi => E.less (hr i hi) fun b _ hb => hb.imp (hM i hi b) id⟩
theorem OwnG.step (h : OwnG E e w M B v xs) (hb : Step w w') : OwnG E e w' M B v xs := by
  obtain ⟨hl, cells, ho, hr⟩ := h
  exact ⟨hl, cells, own_kept ho (fun g hg => hb.heap (own_lt ho hg).2), fun i hi => E.step (hr i hi) hb⟩
theorem OwnG.val (h : OwnG E e w M B v xs) : ∃ a c, v = .slice a xs.length c := by
  obtain ⟨_, cells, ho, _⟩ := h
  rcases ho.2 with ⟨hv, h0⟩ | ⟨g, cap, cur, hv, _⟩
  · exact ⟨none, 0, by rw [hv, h0]⟩
  · exact ⟨_, cap, hv⟩
theorem OwnG.at {a : Option Addr} {n c k : Nat} (h : OwnG E e w M B (.slice a n c) xs) (hk : k < xs.length) :
    ∃ g es, a = some ⟨g, 0, none⟩ ∧ B ≤ g ∧ g < w.heap.size ∧ E.rep w (fun b => M k b ∨ b = g) es xs[k] ∧ (∀ j u, es[j]? = some u → w.cell? ⟨g, k * E.n + j, none⟩ = some u) ∧ (∀ o, w.frozen? ⟨g, o, none⟩ = false) := by
  obtain ⟨hl, cells, ho, hr⟩ := h
  rcases ho.2 with ⟨hv, h0⟩ | ⟨g, cap, cur, hv, hb, hg, hnc, hcm, hcs, htake⟩
  · omega
  · obtain ⟨rfl, rfl, rfl⟩ : a = some ⟨g, 0, none⟩ ∧ n = xs.length ∧ c = cap := by simpa using hv
    refine ⟨g, grp cells E.n k, rfl, hb, (Array.getElem?_eq_some_iff.1 hg).1, E.less (hr k hk) (fun b _ hb => hb.imp id (fun e => by rw [e]; rfl)), fun j u hu => ?_, fun o => frozen_of_row w g o cur e hg⟩
    obtain ⟨h1, h2⟩ := grp_getElem hu
    rw [cell_of_row w g _ cur e (0, 0) hg]
    rw [← htake, List.getElem?_take] at h1
    split at h1
    · simpa using h1
    · cases h1
/-- One of a row's elements is turned at two of its cells. -/
theorem OwnG.put2 {g c k j1 j2 : Nat} {u1 u2 : Value} {n : Nat} {es : List Value} {M' : Nat → Prop} (h : OwnG E e w M B (.slice (some ⟨g, 0, none⟩) n c) xs) (hk : k < xs.length) (h1 : j1 < E.n) (h2 : j2 < E.n)
    (hl : es.length = E.n) (hc : ∀ j u, es[j]? = some u → w.cell? ⟨g, k * E.n + j, none⟩ = some u) (hr : E.rep w (fun b => M' b ∨ b = g) ((es.set j1 u1).set j2 u2) xs[k]) :
    OwnG E e ((w.setCell ⟨g, k * E.n + j1, none⟩ u1).setCell ⟨g, k * E.n + j2, none⟩ u2) (fun i => if i = k then M' else M i) B (.slice (some ⟨g, 0, none⟩) n c) xs := by
  obtain ⟨hlm, cells, ho, hrs⟩ := h
  have hoth : ∀ b, b ≠ g → ((w.setCell ⟨g, k * E.n + j1, none⟩ u1).setCell ⟨g, k * E.n + j2, none⟩ u2).heap[b]? = w.heap[b]? := fun b hb => by
    rw [heap_setCell_other _ _ _ _ hb, heap_setCell_other _ _ _ _ hb]
  rcases ho.2 with ⟨hv, h0⟩ | ⟨g', cap, cur, hv, hb, hg, hnc, hcm, hcs, htake⟩
  · omega
  · obtain ⟨rfl, rfl, rfl⟩ : g = g' ∧ n = xs.length ∧ c = cap := by simpa using hv
    have hg' := heap_setCell_same _ g (k * E.n + j2) _ e u2 (heap_setCell_same w g (k * E.n + j1) cur e u1 hg)
    have hkn : (k + 1) * E.n ≤ xs.length * E.n := Nat.mul_le_mul_right _ hk
    have hkn' : (k + 1) * E.n = k * E.n + E.n := by rw [Nat.add_mul, Nat.one_mul]
    have hlc := ho.1
    refine ⟨hlm, (cells.set (k * E.n + j1) u1).set (k * E.n + j2) u2, ⟨by simpa using ho.1, .inr ⟨g, c, _, rfl, hb, hg', hnc, hcm, by simpa using hcs, ?_⟩⟩, fun i hi => ?_⟩
    · rw [Array.toList_setIfInBounds, Array.toList_setIfInBounds, List.take_set, List.take_set, htake]
    · by_cases hik : i = k
      · subst hik
        have he : grp ((cells.set (i * E.n + j1) u1).set (i * E.n + j2) u2) E.n i = (es.set j1 u1).set j2 u2 := by
          apply List.ext_getElem?
          intro j
          by_cases hj : j < E.n
          · have hq : cells[i * E.n + j]? = es[j]? := by
              have hjl : i * E.n + j < cells.length := by omega
              rw [List.getElem?_eq_getElem hjl, List.getElem?_eq_getElem (by omega)]
              have := hc j es[j] (List.getElem?_eq_getElem (by omega))
              rw [cell_of_row w g _ cur e (0, 0) hg] at this
              have h3 : cells[i * E.n + j]? = cur[i * E.n + j]? := by
                rw [← htake, List.getElem?_take, if_pos (by omega)]
                simp
              rw [this, List.getElem?_eq_getElem hjl] at h3
              exact h3
            unfold grp
            rw [List.getElem?_take, if_pos hj, List.getElem?_drop]
            simp only [List.getElem?_set, hq, hlc, hl, List.length_set]
            have e1 : (i * E.n + j2 = i * E.n + j) = (j2 = j) := by simp
            have e2 : (i * E.n + j1 = i * E.n + j) = (j1 = j) := by simp
            have l1 : i * E.n + j < xs.length * E.n := by omega
            by_cases q2 : j2 = j
            · subst q2
              simp [l1, hj]
            · by_cases q1 : j1 = j
              · subst q1
                simp [q2, l1, hj]
              · simp [q1, q2]
          · rw [List.getElem?_eq_none (by simp only [grp, List.length_take]; omega), List.getElem?_eq_none (by simp only [List.length_set]; omega)]
        rw [he]
        refine E.keep hr fun b hbs hm => ⟨hoth b (fun e => hm (.inr e)), fun hm' => hm ?_⟩
        rcases hm' with hm' | hm'
        · rw [if_pos rfl] at hm'
          exact .inl hm'
        · exact .inr (by simpa [Value.ownBlock] using hm'.symm)
      · have he : grp ((cells.set (k * E.n + j1) u1).set (k * E.n + j2) u2) E.n i = grp cells E.n i := by
          apply List.ext_getElem?
          intro j
          unfold grp
          rw [List.getElem?_take, List.getElem?_take]
          split
          · rename_i hj
            rw [List.getElem?_drop, List.getElem?_drop]
            have ne : ∀ j', j' < E.n → k * E.n + j' ≠ i * E.n + j := fun j' hj' => by
              rcases Nat.lt_or_gt_of_ne hik with hlt | hlt
              · have : (i + 1) * E.n ≤ k * E.n := Nat.mul_le_mul_right _ hlt
                rw [Nat.add_mul, Nat.one_mul] at this
                omega
              · have : (k + 1) * E.n ≤ i * E.n := Nat.mul_le_mul_right _ hlt
                rw [Nat.add_mul, Nat.one_mul] at this
                omega
            rw [List.getElem?_set_ne (ne j2 h2), List.getElem?_set_ne (ne j1 h1)]
          · rfl
        rw [he]
        refine E.keep (hrs i hi) fun b hbs hm => ⟨hoth b (fun e => hm (.inr (by rw [e]; rfl))), fun hm' => hm ?_⟩
        rcases hm' with hm' | hm'
        · rw [if_neg hik] at hm'
          exact .inl hm'
        · exact .inr hm'
end
section
variable {α : Type} {E : Ty α} {e : TypeId} {w w' : World} {M M' : Nat → Prop} {B : Nat} {v sv : Value} {xs ys : List α} {r r' : Option Nat}
theorem Own.flat (hf : E.Flat) (h : Own E e w M B v xs) : Own E e w M' B v xs := by
  obtain ⟨hl, cells, ho, hr⟩ := h
  exact ⟨hl, cells, ho, fun i hi => hf (hr i hi)⟩
/-- Another row of the call's own has grown. -/
theorem Own.beside (h : Own E e w (fun b => M b ∨ r = some b) B v xs) (hg : w.grownBy w' r) (hr : r' = r ∨ r' = some w.heap.size) (hne : ∀ g, v.ownBlock = some g → r ≠ some g) : Own E e w' (fun b => M b ∨ r' = some b) B v xs := by
  obtain ⟨hl, cells, ho, hrs⟩ := h
  refine ⟨hl, cells, own_kept ho (fun g h1 => hg.block g (own_lt ho h1).2 (fun e => hne g h1 e.symm)), fun i hi => E.keep (hrs i hi) fun b hb hn => ⟨hg.block b hb (fun e => hn (.inl (.inr e.symm))), fun hm => ?_⟩⟩
  rcases hm with (hm | hm) | hm
  · exact hn (.inl (.inl hm))
  · rcases hr with hr | hr
    · exact hn (.inl (.inr (hr ▸ hm)))
    · rw [hr] at hm
      have : w.heap.size = b := by simpa using hm
      omega
  · exact hn (.inr hm)
theorem Own.set (h : Own E e w M B v xs) {p : Addr} (hM : M p.block) (hB : p.block < B) (u : Value) : Own E e (w.setCell p u) M B v xs :=
  h.kept (Kept.setCell w p u hM) fun g hg => Below.heap_setCell w p u g (fun e => by have := (h.lt hg).1; omega)
theorem Src.alloc (h : Src E w M sv ys) (o : Obj) : Src E (w.alloc o) M sv ys := by
  obtain ⟨a, c, hv, hs⟩ := h
  refine ⟨a, c, hv, fun hn => ?_⟩
  obtain ⟨b, off, rfl, hc⟩ := hs hn
  exact ⟨b, off, rfl, fun i hi => by
    obtain ⟨es, he, hce⟩ := hc i hi
    exact ⟨es, E.kept he (Kept.alloc w o), fun j u hu => (cell_eq (Below.heap_alloc w o b (lt_of_cell (hce j u hu)))).trans (hce j u hu)⟩⟩
theorem Src.drew (h : Src E w M sv ys) : Src E w.drew M sv ys := by
  obtain ⟨a, c, hv, hs⟩ := h
  refine ⟨a, c, hv, fun hn => ?_⟩
  obtain ⟨b, off, rfl, hc⟩ := hs hn
  exact ⟨b, off, rfl, fun i hi => by
    obtain ⟨es, he, hce⟩ := hc i hi
    exact ⟨es, E.keep he (fun b _ h => ⟨rfl, h⟩), hce⟩⟩
theorem Src.oneAt {cs : Array Value} {y : α} {k : Nat} (hk : k = w.heap.size) (hr : E.rep w M cs.toList y) : Src E (w.alloc (.cells cs e)) M (.slice (some ⟨k, 0, none⟩) 1 1) [y] := by
  subst hk
  exact Src.one hr
theorem Src.grown (hf : E.Flat) (h : Src E w M sv ys) (hg : w.grownBy w' r) (hne : ∀ a n c, sv = .slice (some a) n c → r ≠ some a.block) : Src E w' M' sv ys := by
  obtain ⟨a, c, hv, hs⟩ := h
  refine ⟨a, c, hv, fun hn => ?_⟩
  obtain ⟨b, off, rfl, hc⟩ := hs hn
  exact ⟨b, off, rfl, fun i hi => by
    obtain ⟨es, he, hce⟩ := hc i hi
    exact ⟨es, hf he, fun j u hu => (cell_eq (hg.block b (lt_of_cell (hce j u hu)) (fun e => hne _ _ _ hv e.symm))).trans (hce j u hu)⟩⟩
theorem grown_cell {b : Nat} (hg : w.grownBy w' r) (hb : b < w.heap.size) (hne : r ≠ some b) (o : Nat) : w'.cell? ⟨b, o, none⟩ = w.cell? ⟨b, o, none⟩ := cell_eq (hg.block b hb (fun e => hne e.symm))
theorem grown_frozen {b : Nat} (hg : w.grownBy w' r) (hb : b < w.heap.size) (hne : r ≠ some b) (o : Nat) : w'.frozen? ⟨b, o, none⟩ = w.frozen? ⟨b, o, none⟩ := by
  have := hg.block b hb (fun e => hne e.symm)
  simp only [World.frozen?, this]
end
/-- The walk goes on from some world of which just F is known. -/
theorem wp_at {Q : Exit → Act → World → Prop} {e : Exit} {a : Act} {w : World} (F : World → Prop) (hF : F w) (h : ∀ w', F w' → Q e a w') : Q e a w := h w hF
theorem ite_then {c : Prop} [Decidable c] {A B : Prop} (hc : c) (h : A) : if c then A else B := by rw [if_pos hc]; exact h
end Go.Gr
