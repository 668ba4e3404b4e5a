/-
  Words for data in memory, more: a row of the call's own in the midst of being turned in place ('OwnG'). No program is named here.
-/
import Derived.Test.YthebdlkmoailaaaGreatDoorZP1
import Derived.Lib.BufferMore
set_option linter.unusedVariables false
set_option linter.unusedSimpArgs false
namespace Go.Gr
set_option linter.unusedSimpArgs false
open Go.RowKit
section
variable {α : Type} {E : Ty α} {e : TypeId} {w w' : World} {M : Nat → Nat → Prop} {B : Nat} {v : Value} {xs : List α}

/-- A row of the call's own; each element with blocks of its own that it does not meet. -/
def OwnG (E : Ty α) (e : TypeId) (w : World) (M : Nat → Nat → Prop) (B : Nat) (v : Value) (xs : List α) : Prop :=
  xs.length ≤ lim ∧ ∃ cells, w.ownsRow B e E.n v xs.length cells ∧ ∀ i (hi : i < xs.length), E.rep w (fun b => M i b ∨ v.ownBlock = some b) (grp cells E.n i) xs[i]
theorem OwnG.of {M : Nat → Prop} (h : Own E e w M B v xs) : OwnG E e w (fun _ => M) B v xs := h
theorem OwnG.less {M' : Nat → Nat → Prop} (h : OwnG E e w M B v xs) (hM : ∀ i, i < xs.length → ∀ b, M' i b → M i b) : OwnG E e w M' B v xs := by
  obtain ⟨hl, cells, ho, hr⟩ := h
  exact ⟨hl, cells, ho, fun i hi => E.less (hr i hi) fun b _ hb => hb.imp (hM i hi b) id⟩
theorem OwnG.own {M' : Nat → Prop} (h : OwnG E e w M B v xs) (hM : ∀ i, i < xs.length → ∀ b, M' b → M i b) : Own E e w M' B v xs := by
  obtain ⟨hl, cells, ho, hr⟩ := h
  exact ⟨hl, cells, ho, fun i hi => E.less (hr i hi) fun b _ hb => hb.imp (hM i hi b) id⟩
theorem OwnG.step (h : OwnG E e w M B v xs) (hb : Step w w') : OwnG E e w' M B v xs := by
  obtain ⟨hl, cells, ho, hr⟩ := h
  exact ⟨hl, cells, own_kept ho (fun g hg => hb.heap (own_lt ho hg).2), fun i hi => E.step (hr i hi) hb⟩
theorem OwnG.val (h : OwnG E e w M B v xs) : ∃ a c, v = .slice a xs.length c := by
  obtain ⟨_, cells, ho, _⟩ := h
  rcases ho.2 with ⟨hv, h0⟩ | ⟨g, cap, cur, hv, _⟩
  · exact ⟨none, 0, by rw [hv, h0]⟩
  · exact ⟨_, cap, hv⟩
theorem OwnG.at {a : Option Addr} {n c k : Nat} (h : OwnG E e w M B (.slice a n c) xs) (hk : k < xs.length) :
    ∃ g es, a = some ⟨g, 0, none⟩ ∧ B ≤ g ∧ g < w.heap.size ∧ E.rep w (fun b => M k b ∨ b = g) es xs[k] ∧ (∀ j u, es[j]? = some u → w.cell? ⟨g, k * E.n + j, none⟩ = some u) ∧ (∀ o, w.frozen? ⟨g, o, none⟩ = false) := by
  obtain ⟨hl, cells, ho, hr⟩ := h
  rcases ho.2 with ⟨hv, h0⟩ | ⟨g, cap, cur, hv, hb, hg, hnc, hcm, hcs, htake⟩
  · omega
  · obtain ⟨rfl, rfl, rfl⟩ : a = some ⟨g, 0, none⟩ ∧ n = xs.length ∧ c = cap := by simpa using hv
    refine ⟨g, grp cells E.n k, rfl, hb, (Array.getElem?_eq_some_iff.1 hg).1, E.less (hr k hk) (fun b _ hb => hb.imp id (fun e => by rw [e]; rfl)), fun j u hu => ?_, fun o => frozen_of_row w g o cur e hg⟩
    obtain ⟨h1, h2⟩ := grp_getElem hu
    rw [cell_of_row w g _ cur e (0, 0) hg]
    rw [← htake, List.getElem?_take] at h1
    split at h1
    · simpa using h1
    · cases h1
end
section
variable {α : Type} {E : Ty α} {e : TypeId} {w w' : World} {M M' : Nat → Prop} {B : Nat} {v sv : Value} {xs ys : List α} {r r' : Option Nat}
theorem Own.flat (hf : E.Flat) (h : Own E e w M B v xs) : Own E e w M' B v xs := by
  obtain ⟨hl, cells, ho, hr⟩ := h
  exact ⟨hl, cells, ho, fun i hi => hf (hr i hi)⟩
/-- Another row of the call's own has grown. -/
theorem Own.beside (h : Own E e w (fun b => M b ∨ r = some b) B v xs) (hg : w.grownBy w' r) (hr : r' = r ∨ r' = some w.heap.size) (hne : ∀ g, v.ownBlock = some g → r ≠ some g) : Own E e w' (fun b => M b ∨ r' = some b) B v xs := by
  obtain ⟨hl, cells, ho, hrs⟩ := h
  refine ⟨hl, cells, own_kept ho (fun g h1 => hg.block g (own_lt ho h1).2 (fun e => hne g h1 e.symm)), fun i hi => E.keep (hrs i hi) fun b hb hn => ⟨hg.block b hb (fun e => hn (.inl (.inr e.symm))), fun hm => ?_⟩⟩
  rcases hm with (hm | hm) | hm
  · exact hn (.inl (.inl hm))
  · rcases hr with hr | hr
    · exact hn (.inl (.inr (hr ▸ hm)))
    · rw [hr] at hm
      have : w.heap.size = b := by simpa using hm
      omega
  · exact hn (.inr hm)
theorem Own.set (h : Own E e w M B v xs) {p : Addr} (hM : M p.block) (hB : p.block < B) (u : Value) : Own E e (w.setCell p u) M B v xs :=
  h.kept (Kept.setCell w p u hM) fun g hg => Below.heap_setCell w p u g (fun e => by have := (h.lt hg).1; omega)
theorem Src.alloc (h : Src E w M sv ys) (o : Obj) : Src E (w.alloc o) M sv ys := by
  obtain ⟨a, c, hv, hs⟩ := h
  refine ⟨a, c, hv, fun hn => ?_⟩
  obtain ⟨b, off, rfl, hc⟩ := hs hn
  exact ⟨b, off, rfl, fun i hi => by
    obtain ⟨es, he, hce⟩ := hc i hi
    exact ⟨es, E.kept he (Kept.alloc w o), fun j u hu => (cell_eq (Below.heap_alloc w o b (lt_of_cell (hce j u hu)))).trans (hce j u hu)⟩⟩
theorem Src.drew (h : Src E w M sv ys) : Src E w.drew M sv ys := by
  obtain ⟨a, c, hv, hs⟩ := h
  refine ⟨a, c, hv, fun hn => ?_⟩
  obtain ⟨b, off, rfl, hc⟩ := hs hn
  exact ⟨b, off, rfl, fun i hi => by
    obtain ⟨es, he, hce⟩ := hc i hi
    exact ⟨es, E.keep he (fun b _ h => ⟨rfl, h⟩), hce⟩⟩
theorem Src.oneAt {cs : Array Value} {y : α} {k : Nat} (hk : k = w.heap.size) (hr : E.rep w M cs.toList y) : Src E (w.alloc (.cells cs e)) M (.slice (some ⟨k, 0, none⟩) 1 1) [y] := by
  subst hk
  exact Src.one hr
theorem Src.grown (hf : E.Flat) (h : Src E w M sv ys) (hg : w.grownBy w' r) (hne : ∀ a n c, sv = .slice (some a) n c → r ≠ some a.block) : Src E w' M' sv ys := by
  obtain ⟨a, c, hv, hs⟩ := h
  refine ⟨a, c, hv, fun hn => ?_⟩
  obtain ⟨b, off, rfl, hc⟩ := hs hn
  exact ⟨b, off, rfl, fun i hi => by
    obtain ⟨es, he, hce⟩ := hc i hi
    exact ⟨es, hf he, fun j u hu => (cell_eq (hg.block b (lt_of_cell (hce j u hu)) (fun e => hne _ _ _ hv e.symm))).trans (hce j u hu)⟩⟩
theorem grown_cell {b : Nat} (hg : w.grownBy w' r) (hb : b < w.heap.size) (hne : r ≠ some b) (o : Nat) : w'.cell? ⟨b, o, none⟩ = w.cell? ⟨b, o, none⟩ := cell_eq (hg.block b hb (fun e => hne e.symm))
end
/-- The walk goes on from some world of which just F is known. -/
theorem wp_at {Q : Exit → Act → World → Prop} {e : Exit} {a : Act} {w : World} (F : World → Prop) (hF : F w) (h : ∀ w', F w' → Q e a w') : Q e a w := h w hF
theorem ite_then {c : Prop} [Decidable c] {A B : Prop} (hc : c) (h : A) : if c then A else B := by rw [if_pos hc]; exact h
end Go.Gr
