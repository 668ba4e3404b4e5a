/-
  Words for data in memory: a type's reading of cells as a datum ('Ty'), slices, rows that the call itself makes ('Own'), and what keeps them. No program is named here.
  The data of the program: its structs as Lean structures, and how each lies in cells ('Ty'). Printed by genty.py. No program is named here.
-/
import Derived.Below
import Derived.Laws.OwnMore
import Derived.Deep.AppendLies
import Derived.Laws.AppendOwnNone
import Derived.Maps.AppendAt
import Derived.RegionTactic
import Derived.Deep.Draws
import Derived.OwnWalk
import Derived.Lib.Hide
import Derived.IntWalk
set_option linter.unusedVariables false
set_option linter.unusedSimpArgs false
namespace Go.Gr
open Go.RowKit

/-- The greatest length that a slice of ours has. -/
def lim : Nat := 68719476736
theorem lim_eq : lim = 68719476736 := rfl
theorem lim_max {n : Nat} (h : n ≤ lim) : n ≤ maxLen := by unfold maxLen; rw [lim_eq] at h; omega

theorem cell_eq {w w' : World} {b o : Nat} {s : Option Nat} (h : w'.heap[b]? = w.heap[b]?) : w'.cell? ⟨b, o, s⟩ = w.cell? ⟨b, o, s⟩ := World.cell?_of_block (a := ⟨b, o, s⟩) h
theorem lt_of_cell {w : World} {b o : Nat} {s : Option Nat} {v : Value} (h : w.cell? ⟨b, o, s⟩ = some v) : b < w.heap.size := World.block_lt_of_cell? w ⟨b, o, s⟩ h

/-- Every block that w has, but those of M, is in w' as it was. -/
def Kept (M : Nat → Prop) (w w' : World) : Prop := ∀ b, b < w.heap.size → ¬ M b → w'.heap[b]? = w.heap[b]?
theorem Kept.below {M : Nat → Prop} {w w' : World} (h : Below w.heap.size w w') : Kept M w w' := fun b h1 _ => h.block b h1
theorem Kept.grown {M : Nat → Prop} {w w' : World} {row : Option Nat} (h : w.grownBy w' row) (hM : ∀ b, row = some b → M b) : Kept M w w' := fun b h1 h2 => h.block b h1 (fun e => h2 (hM b e.symm))
theorem Kept.alloc {M : Nat → Prop} (w : World) (o : Obj) : Kept M w (w.alloc o) := fun b h1 _ => Below.heap_alloc w o b h1
theorem Kept.refl (M : Nat → Prop) (w : World) : Kept M w w := fun _ _ _ => rfl
theorem Kept.trans {M : Nat → Prop} {a b c : World} (h : Kept M a b) (hs : a.heap.size ≤ b.heap.size) (k : Kept M b c) : Kept M a c := fun i h1 h2 => (k i (by omega) h2).trans (h i h1 h2)
theorem Kept.mono {M M' : Nat → Prop} {w w' : World} (h : Kept M w w') (hM : ∀ b, M b → M' b) : Kept M' w w' := fun b h1 h2 => h b h1 (fun e => h2 (hM b e))
theorem heap_alloc_at {w : World} {o : Obj} {k : Nat} (h : k = w.heap.size) : (w.alloc o).heap[k]? = some o := by subst h; exact heap_alloc_new w o
theorem Kept.setCell {M : Nat → Prop} (w : World) (p : Addr) (u : Value) (hM : M p.block) : Kept M w (w.setCell p u) := fun b _ h2 => Below.heap_setCell w p u b (fun e => h2 (e ▸ hM))

theorem next {B : Nat} {w0 w w' : World} (h : Below B w0 w) (hB : B ≤ w.heap.size) (k : Below w.heap.size w w') : Below B w0 w' := h.trans (k.mono hB)
theorem nextT {w0 w w' : World} (h : Below w0.heap.size w0 w) (k : Below w.heap.size w w') : Below w0.heap.size w0 w' := h.trans (k.mono h.size)
theorem nextA {w0 w : World} (h : Below w0.heap.size w0 w) (o : Obj) : Below w0.heap.size w0 (w.alloc o) := h.alloc h.size o
/-- From w to w' nothing that was there has turned. (Its own name, so that the walk does not open it.) -/
def Step (w w' : World) : Prop := Below w.heap.size w w'
theorem Step.out {w w' : World} (h : Step w w') : Below w.heap.size w w' := h
theorem Step.of {w w' : World} (h : Below w.heap.size w w') : Step w w' := h
theorem Step.refl (w : World) : Step w w := Below.refl _ _
theorem Step.size {w w' : World} (h : Step w w') : w.heap.size ≤ w'.heap.size := Below.size h
theorem Step.alloc {w w' : World} (h : Step w w') (o : Obj) : Step w (w'.alloc o) := nextA h o
theorem Step.drew {w w' : World} (h : Step w w') : Step w w'.drew := Below.drew h
theorem Step.drewN {w w' : World} (h : Step w w') (n : Nat) : Step w (w'.drewN n) := ⟨h.os, h.tape, h.output, h.size, h.block⟩
theorem Step.trans {a b c : World} (h : Step a b) (k : Step b c) : Step a c := nextT h k
theorem Step.setCell {w w' : World} (h : Step w w') {p : Addr} (hp : w.heap.size ≤ p.block) (u : Value) : Step w (w'.setCell p u) := Below.setCell h hp u
/-- One world behind the other, by what the context holds. -/
theorem stp {w w' : World} (h : Step w w' := by (repeat (first | exact Step.refl _ | refine Step.alloc ?_ _ | refine Step.drew ?_ | refine Step.drewN ?_ _ | refine Step.setCell ?_ (by first | exact Nat.le_refl _ | assumption | omega | (simp; done) | (simp; omega)) _ | assumption | refine Step.trans ?_ (by assumption : Step _ _)))) : Step w w' := h
theorem Step.cell {w w' : World} (h : Step w w') {b : Nat} (hb : b < w.heap.size) (o : Nat) : w'.cell? ⟨b, o, none⟩ = w.cell? ⟨b, o, none⟩ := Below.cell (p := ⟨b, o, none⟩) h hb
theorem Step.frozen {w w' : World} (h : Step w w') {b : Nat} (hb : b < w.heap.size) (o : Nat) : w'.frozen? ⟨b, o, none⟩ = w.frozen? ⟨b, o, none⟩ := Below.frozen (p := ⟨b, o, none⟩) h hb
theorem Step.heap {w w' : World} (h : Step w w') {b : Nat} (hb : b < w.heap.size) : w'.heap[b]? = w.heap[b]? := Below.block h b hb

theorem Kept.step {M : Nat → Prop} {w w' : World} (h : Step w w') : Kept M w w' := fun b h1 _ => h.heap h1

/-- How a type's values lie in memory. 'rep w M cs x': in the world w the cells cs read as x, and no block of M is met in the reading. -/
structure Ty (α : Type) where
  n : Nat
  rep : World → (Nat → Prop) → List Value → α → Prop
  len : ∀ {w M cs x}, rep w M cs x → cs.length = n
  one : ∀ {w M cs x}, rep w M cs x → ∀ u ∈ cs, u.oneCell' = true
  keep : ∀ {w w' M M' cs x}, rep w M cs x → (∀ b, b < w.heap.size → ¬ M b → w'.heap[b]? = w.heap[b]? ∧ ¬ M' b) → rep w' M' cs x

namespace Ty
variable {α β γ : Type}
theorem kept (T : Ty α) {w w' : World} {M : Nat → Prop} {cs : List Value} {x : α} (h : T.rep w M cs x) (hk : Kept M w w') : T.rep w' M cs x :=
  T.keep h fun b h1 h2 => ⟨hk b h1 h2, h2⟩
theorem less (T : Ty α) {w : World} {M M' : Nat → Prop} {cs : List Value} {x : α} (h : T.rep w M cs x) (hM : ∀ b, b < w.heap.size → M' b → M b) : T.rep w M' cs x :=
  T.keep h fun b h1 h2 => ⟨rfl, fun e => h2 (hM b h1 e)⟩
theorem below (T : Ty α) {w w' : World} {M : Nat → Prop} {cs : List Value} {x : α} (h : T.rep w M cs x) (hb : Below w.heap.size w w') : T.rep w' M cs x := T.kept h (Kept.below hb)

theorem step (T : Ty α) {w w' : World} {M : Nat → Prop} {cs : List Value} {x : α} (h : T.rep w M cs x) (hb : Step w w') : T.rep w' M cs x := T.below h hb

def int : Ty Int where
  n := 1
  rep := fun _ _ cs x => cs = [.int .i64 x] ∧ -9223372036854775808 ≤ x ∧ x ≤ 9223372036854775807
  len := fun ⟨h, _⟩ => by rw [h]; rfl
  one := fun ⟨h, _⟩ u hu => by rw [h] at hu; simp at hu; subst hu; rfl
  keep := fun h _ => h
def u64 : Ty Nat where
  n := 1
  rep := fun _ _ cs x => cs = [.int .u64 (x : Int)] ∧ x < 18446744073709551616
  len := fun ⟨h, _⟩ => by rw [h]; rfl
  one := fun ⟨h, _⟩ u hu => by rw [h] at hu; simp at hu; subst hu; rfl
  keep := fun h _ => h
def byte : Ty UInt8 where
  n := 1
  rep := fun _ _ cs x => cs = [.int .u8 (x.toNat : Int)]
  len := fun h => by rw [h]; rfl
  one := fun h u hu => by rw [h] at hu; simp at hu; subst hu; rfl
  keep := fun h _ => h
def bool : Ty Bool where
  n := 1
  rep := fun _ _ cs x => cs = [.bool x]
  len := fun h => by rw [h]; rfl
  one := fun h u hu => by rw [h] at hu; simp at hu; subst hu; rfl
  keep := fun h _ => h
/-- Cells of one type, then cells of another. -/
def pair (A : Ty α) (B : Ty β) : Ty (α × β) where
  n := A.n + B.n
  rep := fun w M cs x => ∃ c1 c2, cs = c1 ++ c2 ∧ A.rep w M c1 x.1 ∧ B.rep w M c2 x.2
  len := fun ⟨c1, c2, h, ha, hb⟩ => by rw [h, List.length_append, A.len ha, B.len hb]
  one := fun ⟨c1, c2, h, ha, hb⟩ u hu => by
    rw [h, List.mem_append] at hu
    exact hu.elim (A.one ha u) (B.one hb u)
  keep := fun ⟨c1, c2, h, ha, hb⟩ hk => ⟨c1, c2, h, A.keep ha hk, B.keep hb hk⟩
/-- The same cells, read as another datum. -/
def of (A : Ty α) (f : γ → α) : Ty γ where
  n := A.n
  rep := fun w M cs x => A.rep w M cs (f x)
  len := fun h => A.len h
  one := fun h => A.one h
  keep := fun h hk => A.keep h hk
/-- A slice, nil too. -/
def slice (E : Ty α) : Ty (List α) where
  n := 1
  rep := fun w M cs xs => ∃ (a : Option Addr) (c : Nat), cs = [.slice a xs.length c] ∧ xs.length ≤ c ∧ c ≤ maxLen ∧ xs.length ≤ lim ∧
    (0 < xs.length → ∃ b off, a = some ⟨b, off, none⟩ ∧ b < w.heap.size ∧ ¬ M b ∧
      ∀ i (hi : i < xs.length), ∃ es, E.rep w M es xs[i] ∧ ∀ j u, es[j]? = some u → w.cell? ⟨b, off + i * E.n + j, none⟩ = some u)
  len := fun ⟨a, c, h, _⟩ => by rw [h]; rfl
  one := fun ⟨a, c, h, _⟩ u hu => by rw [h] at hu; simp at hu; subst hu; rfl
  keep := @fun w w' M M' cs xs ⟨a, c, h, h1, h2, h3, h4⟩ hk => by
    refine ⟨a, c, h, h1, h2, h3, fun hn => ?_⟩
    obtain ⟨b, off, ha, hb, hM, hc⟩ := h4 hn
    obtain ⟨k1, k2⟩ := hk b hb hM
    refine ⟨b, off, ha, ?_, k2, fun i hi => ?_⟩
    · have ho : w.heap[b]? = some w.heap[b] := Array.getElem?_eq_getElem hb
      rw [ho] at k1
      exact (Array.getElem?_eq_some_iff.1 k1).1
    · obtain ⟨es, he, hce⟩ := hc i hi
      exact ⟨es, E.keep he hk, fun j u hu => (cell_eq k1).trans (hce j u hu)⟩
end Ty

abbrev Ty.bytes : Ty (List UInt8) := Ty.slice Ty.byte

/-- The i-th group of n. -/
def grp (cells : List Value) (n i : Nat) : List Value := (cells.drop (i * n)).take n
theorem grp_getElem {cells : List Value} {n i j : Nat} {u : Value} (h : (grp cells n i)[j]? = some u) : cells[i * n + j]? = some u ∧ j < n := by
  unfold grp at h
  rw [List.getElem?_take] at h
  split at h
  · rename_i hj
    rw [List.getElem?_drop] at h
    exact ⟨h, hj⟩
  · cases h
theorem grp_append_left {cells more : List Value} {n i k : Nat} (hl : cells.length = k * n) (hi : i < k) : grp (cells ++ more) n i = grp cells n i := by
  unfold grp
  have h1 : (i + 1) * n ≤ k * n := Nat.mul_le_mul_right n hi
  rw [Nat.add_mul, Nat.one_mul] at h1
  rw [List.drop_append_of_le_length (by omega), List.take_append_of_le_length (by rw [List.length_drop]; omega)]
theorem grp_append_right {cells more : List Value} {n i k : Nat} (hl : cells.length = k * n) : grp (cells ++ more) n (k + i) = grp more n i := by
  unfold grp
  rw [Nat.add_mul, ← hl, List.drop_append]
  congr 1
  rw [List.drop_of_length_le (by omega), List.nil_append]
  congr 1
  omega
theorem grp_self {cells : List Value} {n : Nat} (hl : cells.length = n) : grp cells n 0 = cells := by
  unfold grp
  simp [List.take_of_length_le (by omega : cells.length ≤ n)]

theorem own_lt {w : World} {B : Nat} {e : TypeId} {n k : Nat} {v : Value} {cs : List Value} (h : w.ownsRow B e n v k cs) {g : Nat} (hg : v.ownBlock = some g) : B ≤ g ∧ g < w.heap.size := h.lt g hg
theorem own_kept {w w' : World} {B : Nat} {e : TypeId} {n k : Nat} {v : Value} {cs : List Value} (h : w.ownsRow B e n v k cs) (hk : ∀ g, v.ownBlock = some g → w'.heap[g]? = w.heap[g]?) : w'.ownsRow B e n v k cs := by
  refine ⟨h.1, ?_⟩
  rcases h.2 with hn | ⟨g, cap, cur, rfl, hb, hgg, rest⟩
  · exact .inl hn
  · exact .inr ⟨g, cap, cur, rfl, hb, (hk g rfl).trans hgg, rest⟩

/-- A row of the call's own, from block B on, that reads as xs; its elements meet no block of M, nor the row's own. -/
def Own {α : Type} (E : Ty α) (e : TypeId) (w : World) (M : Nat → Prop) (B : Nat) (v : Value) (xs : List α) : Prop :=
  xs.length ≤ lim ∧ ∃ cells, w.ownsRow B e E.n v xs.length cells ∧ ∀ i (hi : i < xs.length), E.rep w (fun b => M b ∨ v.ownBlock = some b) (grp cells E.n i) xs[i]

section
variable {α : Type} {E : Ty α} {e : TypeId} {w w' : World} {M M' : Nat → Prop} {B : Nat} {v : Value} {xs ys : List α}
theorem Own.nil : Own E e w M B (.slice none 0 0) [] := ⟨by simp [lim_eq], [], World.ownsRow_nil _ _ _ _, fun i hi => absurd hi (by simp)⟩
theorem Own.le (h : Own E e w M B v xs) : xs.length ≤ lim := h.1
theorem Own.lt (h : Own E e w M B v xs) {g : Nat} (hg : v.ownBlock = some g) : B ≤ g ∧ g < w.heap.size := by
  obtain ⟨_, cells, ho, _⟩ := h
  exact own_lt ho hg
theorem Own.kept (h : Own E e w M B v xs) (hk : Kept M w w') (hg : ∀ g, v.ownBlock = some g → w'.heap[g]? = w.heap[g]?) : Own E e w' M B v xs := by
  obtain ⟨hl, cells, ho, hr⟩ := h
  exact ⟨hl, cells, own_kept ho hg, fun i hi => E.kept (hr i hi) (hk.mono fun b hb => .inl hb)⟩
theorem Own.below (h : Own E e w M B v xs) (hb : Below w.heap.size w w') : Own E e w' M B v xs :=
  h.kept (Kept.below hb) fun g hg => hb.block g (h.lt hg).2
theorem Own.step (h : Own E e w M B v xs) (hb : Step w w') : Own E e w' M B v xs := h.below hb
theorem Own.alloc (h : Own E e w M B v xs) (o : Obj) : Own E e (w.alloc o) M B v xs :=
  h.kept (Kept.alloc w o) fun g hg => Below.heap_alloc w o g (h.lt hg).2
theorem Own.drew (h : Own E e w M B v xs) : Own E e w.drew M B v xs := h.kept (fun _ _ _ => rfl) fun _ _ => rfl
theorem Own.drewN (h : Own E e w M B v xs) (k : Nat) : Own E e (w.drewN k) M B v xs := h.kept (fun _ _ _ => rfl) fun _ _ => rfl
theorem Own.less (h : Own E e w M B v xs) (hM : ∀ b, b < w.heap.size → M' b → M b) : Own E e w M' B v xs := by
  obtain ⟨hl, cells, ho, hr⟩ := h
  exact ⟨hl, cells, ho, fun i hi => E.less (hr i hi) fun b hb hm => hm.imp (hM b hb) id⟩
theorem Own.base (h : Own E e w M B v xs) {B' : Nat} (hB : B' ≤ B) : Own E e w M B' v xs := by
  obtain ⟨hl, cells, ho, hr⟩ := h
  refine ⟨hl, cells, ⟨ho.1, ?_⟩, hr⟩
  rcases ho.2 with hn | ⟨g, cap, cur, hv, hb, rest⟩
  · exact .inl hn
  · exact .inr ⟨g, cap, cur, hv, by omega, rest⟩
/-- It is a slice. -/
theorem Own.rep (h : Own E e w M B v xs) (hM : ∀ b, M b → b < B) : (Ty.slice E).rep w M [v] xs := by
  obtain ⟨hl, cells, ho, hr⟩ := h
  rcases ho.2 with ⟨rfl, h0⟩ | ⟨g, cap, cur, rfl, hb, hg, hnc, hcm, hcs, htake⟩
  · refine ⟨none, 0, by rw [h0], by omega, by simp [maxLen], hl, fun hn => by omega⟩
  · refine ⟨some ⟨g, 0, none⟩, cap, rfl, hnc, hcm, hl, fun hn => ⟨g, 0, rfl, (Array.getElem?_eq_some_iff.1 hg).1, fun hm => by have := hM g hm; omega, fun i hi => ?_⟩⟩
    refine ⟨grp cells E.n i, E.less (hr i hi) fun b _ hb => .inl hb, fun j u hu => ?_⟩
    obtain ⟨h1, h2⟩ := grp_getElem hu
    rw [cell_of_row w g _ cur e (0, 0) hg]
    rw [← htake, List.getElem?_take] at h1
    split at h1
    · simpa using h1
    · cases h1
theorem Own.rep' (h : Own E e w M B v xs) (hM : ∀ b, v.ownBlock = some b → ¬ M b) : (Ty.slice E).rep w M [v] xs := by
  obtain ⟨hl, cells, ho, hr⟩ := h
  rcases ho.2 with ⟨rfl, h0⟩ | ⟨g, cap, cur, rfl, hb, hg, hnc, hcm, hcs, htake⟩
  · refine ⟨none, 0, by rw [h0], by omega, by simp [maxLen], hl, fun hn => by omega⟩
  · refine ⟨some ⟨g, 0, none⟩, cap, rfl, hnc, hcm, hl, fun hn => ⟨g, 0, rfl, (Array.getElem?_eq_some_iff.1 hg).1, hM g rfl, fun i hi => ?_⟩⟩
    refine ⟨grp cells E.n i, E.less (hr i hi) fun b _ hb => .inl hb, fun j u hu => ?_⟩
    obtain ⟨h1, h2⟩ := grp_getElem hu
    rw [cell_of_row w g _ cur e (0, 0) hg]
    rw [← htake, List.getElem?_take] at h1
    split at h1
    · simpa using h1
    · cases h1
/-- What is new since a world lies beyond all that the row and the call met. -/
theorem Own.old {w0 : World} (h : Own E e w M w0.heap.size v xs) (hb : Step w0 w) : ∀ b, (b < w0.heap.size ∨ v.ownBlock = some b) → b < w.heap.size := fun b hm => by
  rcases hm with hm | hm
  · have := hb.size; omega
  · exact (h.lt hm).2
theorem Own.fresh {k : Nat} (h : Own E e w (· < k) k v xs) (hM : ∀ b, M b → b < k) : (Ty.slice E).rep w M [v] xs := (h.less fun b _ hb => hM b hb).rep hM
theorem Own.val (h : Own E e w M B v xs) : ∃ a c, v = .slice a xs.length c := by
  obtain ⟨_, cells, ho, _⟩ := h
  rcases ho.2 with ⟨hv, h0⟩ | ⟨g, cap, cur, hv, _⟩
  · exact ⟨none, 0, by rw [hv, h0]⟩
  · exact ⟨_, cap, hv⟩
theorem Own.valN (h : Own E e w M B v xs) : ∃ a n c, v = .slice a n c ∧ Hid (n = xs.length) := by
  obtain ⟨a, c, hv⟩ := h.val
  exact ⟨a, _, c, hv, Lib.hid rfl⟩
/-- A row written out. -/
theorem Own.lit {cs : Array Value} {n : Nat} (hn : xs.length = n) (hl : n ≤ lim) (hB : B ≤ w.heap.size) (hs : cs.size = n * E.n)
    (hr : ∀ i (hi : i < xs.length), E.rep w M (grp cs.toList E.n i) xs[i]) : Own E e (w.alloc (.cells cs e)) M B (.slice (some ⟨w.heap.size, 0, none⟩) n n) xs := by
  subst hn
  refine ⟨hl, cs.toList, World.ownsRow_lit w cs _ hB (lim_max hl) hs, fun i hi => E.keep (hr i hi) fun b h1 h2 => ⟨Below.heap_alloc w _ b h1, fun hm => ?_⟩⟩
  rcases hm with hm | hm
  · exact h2 hm
  · have : b = w.heap.size := by simpa [Value.ownBlock] using hm.symm
    omega
end

/-- A slice's type in a program: its element's type e, of n cells. -/
structure SliceTy (P : Program) (t e : TypeId) (n : Nat) : Prop where
  ht : P.underlying t = some (.slice e)
  info : ∃ i z, P.info? e = some i ∧ i.zero = some z ∧ i.size = n ∧ z.cells.size = n ∧ 0 < n ∧ i.bytes ≤ 2048
theorem SliceTy.mk' {P : Program} {t e : TypeId} {n by_ : Nat} {z : Value} (ht : P.underlying t = some (.slice e)) (h : (P.info? e).map (fun i => (i.zero, i.size, i.bytes)) = some (some z, n, by_)) (hz : z.cells.size = n) (hn : 0 < n) (hb : by_ ≤ 2048) : SliceTy P t e n := by
  obtain ⟨i, h1, h2, h3, h4⟩ := info_parts h
  exact ⟨ht, i, z, h1, h2, h3, hz, hn, by omega⟩

/-- What may be appended: a slice whose elements read as ys and meet no block of M (the row in which they stand may lie anywhere). -/
def Src {α : Type} (E : Ty α) (w : World) (M : Nat → Prop) (sv : Value) (ys : List α) : Prop :=
  ∃ (a : Option Addr) (c : Nat), sv = .slice a ys.length c ∧ (0 < ys.length → ∃ b off, a = some ⟨b, off, none⟩ ∧
    ∀ i (hi : i < ys.length), ∃ es, E.rep w M es ys[i] ∧ ∀ j u, es[j]? = some u → w.cell? ⟨b, off + i * E.n + j, none⟩ = some u)
/-- A type whose values hold no memory. -/
def Ty.Flat {α : Type} (E : Ty α) : Prop := ∀ {w w' : World} {M M' : Nat → Prop} {cs : List Value} {x : α}, E.rep w M cs x → E.rep w' M' cs x
theorem Ty.flat_byte : Ty.byte.Flat := fun h => h
theorem Ty.flat_u64 : Ty.u64.Flat := fun h => h
section
variable {α : Type} {E : Ty α} {e : TypeId} {w : World} {M M' : Nat → Prop} {sv : Value} {ys : List α}
theorem Ty.slice_val (h : (Ty.slice E).rep w M [sv] ys) : ∃ a c, sv = .slice a ys.length c ∧ ys.length ≤ c ∧ c ≤ maxLen ∧ ys.length ≤ lim := by
  obtain ⟨a, c, hv, h1, h2, h3, _⟩ := h
  exact ⟨a, c, by simpa using hv, h1, h2, h3⟩
theorem Ty.slice_none {n c : Nat} (h : (Ty.slice E).rep w M [.slice none n c] ys) : ys = [] := by
  obtain ⟨a, c', hv, _, _, _, hs⟩ := h
  simp only [List.cons.injEq, Value.slice.injEq, and_true] at hv
  rcases ys with _ | ⟨y, ys⟩
  · rfl
  · obtain ⟨b, off, ha, _⟩ := hs (by simp)
    rw [← hv.1] at ha
    cases ha
theorem Ty.slice_le (h : (Ty.slice E).rep w M [sv] ys) : ys.length ≤ lim := by
  obtain ⟨_, _, _, _, _, h, _⟩ := h; exact h
theorem Ty.slice_at {a : Option Addr} {n c k : Nat} (h : (Ty.slice E).rep w M [.slice a n c] ys) (hk : k < ys.length) :
    ∃ b off es, a = some ⟨b, off, none⟩ ∧ b < w.heap.size ∧ ¬ M b ∧ E.rep w M es ys[k] ∧ ∀ j u, es[j]? = some u → w.cell? ⟨b, off + k * E.n + j, none⟩ = some u := by
  obtain ⟨a', c', hv, _, _, _, hs⟩ := h
  obtain ⟨b, off, ha, hb, hM, hc⟩ := hs (by omega)
  obtain ⟨es, he, hce⟩ := hc k hk
  simp only [List.cons.injEq, Value.slice.injEq, and_true] at hv
  exact ⟨b, off, es, by rw [hv.1, ha], hb, hM, he, hce⟩
theorem Ty.slice_at1 {a : Option Addr} {n c k : Nat} (h1 : E.n = 1) (h : (Ty.slice E).rep w M [.slice a n c] ys) (hk : k < ys.length) :
    ∃ b off u, a = some ⟨b, off, none⟩ ∧ b < w.heap.size ∧ ¬ M b ∧ E.rep w M [u] ys[k] ∧ w.cell? ⟨b, off + k, none⟩ = some u := by
  obtain ⟨b, off, es, ha, hb, hM, he, hc⟩ := Ty.slice_at h hk
  obtain ⟨u, rfl⟩ : ∃ u, es = [u] := List.length_eq_one_iff.1 (by rw [E.len he, h1])
  have := hc 0 u rfl
  rw [h1, Nat.mul_one, Nat.add_zero] at this
  exact ⟨b, off, u, ha, hb, hM, he, this⟩
theorem Ty.slice_take {a : Option Addr} {n c k : Nat} (h : (Ty.slice E).rep w M [.slice a n c] ys) (hk : k ≤ ys.length) : (Ty.slice E).rep w M [.slice a k c] (ys.take k) := by
  obtain ⟨a', c', hv, h1, h2, h3, hs⟩ := h
  simp only [List.cons.injEq, Value.slice.injEq, and_true] at hv
  obtain ⟨rfl, rfl, rfl⟩ := hv
  have hl : (ys.take k).length = k := by rw [List.length_take]; omega
  refine ⟨a, c, by rw [hl], by omega, h2, by omega, fun hn => ?_⟩
  obtain ⟨b, off, ha, hb, hM, hc⟩ := hs (by omega)
  exact ⟨b, off, ha, hb, hM, fun i hi => by
    obtain ⟨es, he, hce⟩ := hc i (by omega)
    exact ⟨es, by rw [List.getElem_take]; exact he, hce⟩⟩
theorem Src.of (h : (Ty.slice E).rep w M [sv] ys) (hM : ∀ b, b < w.heap.size → M' b → M b) : Src E w M' sv ys := by
  obtain ⟨a, c, hv, _, _, _, hs⟩ := h
  refine ⟨a, c, by simpa using hv, fun hn => ?_⟩
  obtain ⟨b, off, ha, _, _, hc⟩ := hs hn
  exact ⟨b, off, ha, fun i hi => by obtain ⟨es, he, hce⟩ := hc i hi; exact ⟨es, E.less he hM, hce⟩⟩
theorem Src.later {w' : World} (h : (Ty.slice E).rep w M [sv] ys) (k : Step w w') (hM : ∀ b, b < w.heap.size → M' b → M b) : Src E w' M' sv ys := by
  obtain ⟨a, c, hv, _, _, _, hs⟩ := h
  refine ⟨a, c, by simpa using hv, fun hn => ?_⟩
  obtain ⟨b, off, ha, hb, _, hc⟩ := hs hn
  exact ⟨b, off, ha, fun i hi => by
    obtain ⟨es, he, hce⟩ := hc i hi
    exact ⟨es, E.keep he fun b h1 h2 => ⟨k.heap h1, fun h3 => h2 (hM b h1 h3)⟩, fun j u hu => (k.cell hb _).trans (hce j u hu)⟩⟩
theorem Src.flat (hf : E.Flat) (h : (Ty.slice E).rep w M [sv] ys) : Src E w M' sv ys := by
  obtain ⟨a, c, hv, _, _, _, hs⟩ := h
  refine ⟨a, c, by simpa using hv, fun hn => ?_⟩
  obtain ⟨b, off, ha, _, _, hc⟩ := hs hn
  exact ⟨b, off, ha, fun i hi => by obtain ⟨es, he, hce⟩ := hc i hi; exact ⟨es, hf he, hce⟩⟩
theorem Src.kept {w' : World} (h : Src E w M sv ys) (hk : Kept M w w') (ha : ∀ b, (∃ a n c, sv = .slice (some a) n c ∧ a.block = b) → w'.heap[b]? = w.heap[b]?) : Src E w' M sv ys := by
  obtain ⟨a, c, hv, hs⟩ := h
  refine ⟨a, c, hv, fun hn => ?_⟩
  obtain ⟨b, off, rfl, hc⟩ := hs hn
  exact ⟨b, off, rfl, fun i hi => by
    obtain ⟨es, he, hce⟩ := hc i hi
    exact ⟨es, E.kept he hk, fun j u hu => (cell_eq (ha b ⟨_, _, _, hv, rfl⟩)).trans (hce j u hu)⟩⟩
/-- A new row, written out: just what a call's last argument 'x, y, ..' makes. -/
theorem Src.lit {cs : Array Value} {n : Nat} (hn : ys.length = n) (hs : cs.size = n * E.n) (hr : ∀ i (hi : i < ys.length), E.rep w M (grp cs.toList E.n i) ys[i]) :
    Src E (w.alloc (.cells cs e)) M (.slice (some ⟨w.heap.size, 0, none⟩) n n) ys := by
  subst hn
  refine ⟨some ⟨w.heap.size, 0, none⟩, ys.length, rfl, fun _ => ⟨w.heap.size, 0, rfl, fun i hi => ⟨grp cs.toList E.n i, E.kept (hr i hi) (Kept.alloc w _), fun j u hu => ?_⟩⟩⟩
  obtain ⟨h1, _⟩ := grp_getElem hu
  rw [cell_of_row (w.alloc (.cells cs e)) w.heap.size _ cs e (0, 0) (heap_alloc_new w _)]
  simpa using h1
theorem Src.one {cs : Array Value} {y : α} (hr : E.rep w M cs.toList y) : Src E (w.alloc (.cells cs e)) M (.slice (some ⟨w.heap.size, 0, none⟩) 1 1) [y] := by
  have hl := E.len hr
  refine Src.lit rfl (by simpa using hl) fun i hi => ?_
  have h0 : i = 0 := by simpa using hi
  subst h0
  rw [grp_self hl]
  exact hr
end

section
variable {P : Program} {α : Type} {E : Ty α} {e t : TypeId} {w : World} {M M' : Nat → Prop} {B : Nat} {v sv : Value} {xs ys : List α}

theorem run_append_of_none (ty : TypeId) (hT : SliceTy P t e E.n) {n : Nat} {cs : List Value} (hown : w.ownsRow B e E.n v n cs) (c : Nat) : (Builtin.append_ #[t, t] ty #[v, .slice none 0 c]).run P w = .ok v w := by
  obtain ⟨ht, i, z, hi, _⟩ := hT
  rcases hown.2 with ⟨rfl, rfl⟩ | ⟨g, cap, cur, rfl, _, _, hnc, _⟩
  · simp [Builtin.append_, run_underlying ht, sizeOf, typeInfo, hi, Builtin.lenOf, Builtin.firstCells]
  · simp [Builtin.append_, run_underlying ht, sizeOf, typeInfo, hi, Builtin.lenOf, Builtin.firstCells, hnc, storeCells]

/-- The cells of all elements of a slice, one behind the other. -/
theorem all_cells (E : Ty α) {b off : Nat} : ∀ (ys : List α), (∀ i (hi : i < ys.length), ∃ es, E.rep w M es ys[i] ∧ ∀ j u, es[j]? = some u → w.cell? ⟨b, off + i * E.n + j, none⟩ = some u) →
    ∃ news : List Value, news.length = ys.length * E.n ∧ (∀ j u, news[j]? = some u → w.cell? ⟨b, off + j, none⟩ = some u) ∧ (∀ u ∈ news, u.oneCell' = true) ∧ ∀ i (hi : i < ys.length), E.rep w M (grp news E.n i) ys[i] := by
  intro ys
  induction ys generalizing off with
  | nil => intro _; exact ⟨[], by simp, by simp, by simp, fun i hi => absurd hi (by simp)⟩
  | cons y ys ih =>
    intro h
    obtain ⟨es, he, hce⟩ := h 0 (by simp)
    have hel := E.len he
    obtain ⟨news, hl, hc, h1, hr⟩ := ih (off := off + E.n) (fun i hi => by
      obtain ⟨es, he, hce⟩ := h (i + 1) (by simpa using hi)
      refine ⟨es, by simpa using he, fun j u hu => ?_⟩
      have := hce j u hu
      rw [Nat.add_mul, Nat.one_mul, show off + (i * E.n + E.n) + j = off + E.n + i * E.n + j by omega] at this
      exact this)
    refine ⟨es ++ news, by rw [List.length_append, hel, hl, List.length_cons, Nat.add_mul, Nat.one_mul]; omega, fun j u hu => ?_, fun u hu => ?_, fun i hi => ?_⟩
    · rcases Nat.lt_or_ge j E.n with hj | hj
      · rw [List.getElem?_append_left (by omega)] at hu
        simpa using hce j u hu
      · rw [List.getElem?_append_right (by omega)] at hu
        have := hc _ u hu
        rwa [show off + E.n + (j - es.length) = off + j by omega] at this
    · rw [List.mem_append] at hu
      exact hu.elim (E.one he u) (h1 u)
    · rcases i with _ | i
      · have : grp (es ++ news) E.n 0 = es := by rw [grp_append_left (k := 1) (by omega) (by omega), grp_self hel]
        rw [this]
        simpa using he
      · have : grp (es ++ news) E.n (i + 1) = grp news E.n i := by rw [Nat.add_comm i 1]; exact grp_append_right (by omega)
        rw [this]
        simpa using hr i (by simpa using hi)

theorem run_append_acc (ty : TypeId) (hT : SliceTy P t e E.n) (hacc : Own E e w M B v xs) (hsrc : Src E w (fun b => M b ∨ v.ownBlock = some b) sv ys)
    (hlim : xs.length + ys.length ≤ lim) (hB : B ≤ w.heap.size) :
    ∃ v' w', (Builtin.append_ #[t, t] ty #[v, sv]).run P w = .ok v' w' ∧ Own E e w' M B v' (xs ++ ys) ∧ w.grownBy w' v.ownBlock ∧ (v'.ownBlock = v.ownBlock ∨ v'.ownBlock = some w.heap.size) := by
  have hT' := hT
  obtain ⟨ht, i, z, hi, hz, hsize, hzs, hpos, hby⟩ := hT
  obtain ⟨hl, cells, ho, hr⟩ := hacc
  obtain ⟨A, c, rfl, hs⟩ := hsrc
  rcases ys with _ | ⟨y, ys⟩
  · rcases A with _ | ad
    · exact ⟨v, w, run_append_of_none ty hT' ho c, by simpa using ⟨hl, cells, ho, hr⟩, World.grownBy.refl w _, .inl rfl⟩
    · obtain ⟨v', w', hrun, h2, h3, _, h5⟩ := run_append_own_at (P := P) w B t ty e i z E.n i.bytes ht hi hz hsize rfl hzs hpos v xs.length cells ho ad 0 c [] (by simp) (by simp) (by simp) (by have := lim_max hl; simpa using this)
        (by rw [lim_eq] at hl; have : xs.length * i.bytes ≤ 68719476736 * 2048 := Nat.mul_le_mul hl hby; omega) hB
      refine ⟨v', w', hrun, ⟨by simpa using hl, cells, by simpa using h2, fun k hk => ?_⟩, h3, h5⟩
      have hk' : k < xs.length := by simpa using hk
      refine E.keep (by simpa using hr k hk') fun b hb hn => ⟨h3.block b hb (fun e => hn (Or.inr e.symm)), fun hm => ?_⟩
      rcases hm with hm | hm
      · exact hn (Or.inl hm)
      · rcases h5 with h5 | h5 <;> rw [h5] at hm
        · exact hn (Or.inr hm)
        · have : w.heap.size = b := by simpa using hm
          omega
  · obtain ⟨b, off, rfl, hc⟩ := hs (by simp)
    obtain ⟨news, hnl, hnc, hn1, hnr⟩ := all_cells E (y :: ys) hc
    have hadd : ∀ j u, news[j]? = some u → w.cell? ((⟨b, off, none⟩ : Addr).add j) = some u := fun j u hu => by
      have := hnc j u hu
      unfold Addr.add
      split
      · rename_i h0; subst h0; simpa using this
      · exact this
    obtain ⟨v', w', hrun, h2, h3, _, h5⟩ := run_append_own_at (P := P) w B t ty e i z E.n i.bytes ht hi hz hsize rfl hzs hpos v xs.length cells ho ⟨b, off, none⟩ (y :: ys).length c news hnl hadd hn1 (lim_max hlim)
        (by rw [lim_eq] at hlim; have : (xs.length + (y :: ys).length) * i.bytes ≤ 68719476736 * 2048 := Nat.mul_le_mul hlim hby; omega) hB
    refine ⟨v', w', hrun, ⟨by simpa using hlim, cells ++ news, by simpa using h2, fun k hk => ?_⟩, h3, h5⟩
    have key : ∀ {cs : List Value} {x : α}, E.rep w (fun b => M b ∨ v.ownBlock = some b) cs x → E.rep w' (fun b => M b ∨ v'.ownBlock = some b) cs x := fun h =>
      E.keep h fun b hb hn => ⟨h3.block b hb (fun e => hn (Or.inr e.symm)), fun hm => by
        rcases hm with hm | hm
        · exact hn (Or.inl hm)
        · rcases h5 with h5 | h5 <;> rw [h5] at hm
          · exact hn (Or.inr hm)
          · have : w.heap.size = b := by simpa using hm
            omega⟩
    rcases Nat.lt_or_ge k xs.length with hk1 | hk1
    · rw [grp_append_left ho.1 hk1, List.getElem_append_left hk1]
      exact key (hr k hk1)
    · obtain ⟨m, rfl⟩ : ∃ m, k = xs.length + m := ⟨k - xs.length, by omega⟩
      rw [grp_append_right ho.1, List.getElem_append_right (by omega)]
      have hm : m < (y :: ys).length := by simp at hk ⊢; omega
      have := key (hnr m hm)
      simpa using this

theorem Own.grown {w0 w' : World} (h : Own E e w M w0.heap.size v xs) (hb : Step w0 w) (hg : w.grownBy w' v.ownBlock) : Step w0 w' :=
  Below.grown hb hg hb.size fun _ hk => (h.lt hk).1
theorem wp_append_gen {o : Oper} {a : Act} {K : Act → World → Prop} {Q : Exit → Act → World → Prop} (s x : Operand)
    (ho : o.op = .call { callee := .builtin .append, args := #[s, x], argTypes := #[t, t] }) (hT : SliceTy P t e E.n)
    (hacc : Own E e w M B v xs) (hsrc : Src E w (fun b => M b ∨ v.ownBlock = some b) sv ys) (hlim : xs.length + ys.length ≤ lim) (hB : B ≤ w.heap.size) (hs : a.eval s = v) (hx : a.eval x = sv)
    (h : ∀ v' w', Own E e w' M B v' (xs ++ ys) → w.grownBy w' v.ownBlock → (v'.ownBlock = v.ownBlock ∨ v'.ownBlock = some w.heap.size) → K (a.put o.dst v') w') : o.wp P a w K Q := by
  obtain ⟨v', w', hrun, h2, h3, h4⟩ := run_append_acc (P := P) o.type hT hacc hsrc hlim hB
  unfold Oper.wp execOp
  simp only [ho, resolve, invoke, builtin, Sem.run_bind, Sem.run_pure, Result.andThen_ok, List.map_toArray, List.map_cons, List.map_nil, hs, hx, hrun]
  exact h v' w' h2 h3 h4
theorem wpList_append_gen {ops : Array Oper} {rest : List Oper} {o : Oper} {a : Act} {Q : Exit → Act → World → Prop} (hgd : o.guard = none) (s x : Operand)
    (ho : o.op = .call { callee := .builtin .append, args := #[s, x], argTypes := #[t, t] }) (hT : SliceTy P t e E.n)
    (hacc : Own E e w M B v xs) (hsrc : Src E w (fun b => M b ∨ v.ownBlock = some b) sv ys) (hlim : xs.length + ys.length ≤ lim) (hB : B ≤ w.heap.size) (hs : a.eval s = v) (hx : a.eval x = sv)
    (h : ∀ v' w', Own E e w' M B v' (xs ++ ys) → w.grownBy w' v.ownBlock → (v'.ownBlock = v.ownBlock ∨ v'.ownBlock = some w.heap.size) → wpList P ops Q rest (a.put o.dst v') w') : wpList P ops Q (o :: rest) a w :=
  wpList_plain hgd fun _ hK => wp_append_gen s x ho hT hacc hsrc hlim hB hs hx fun v' w' h1 h3 h4 => hK _ _ (h v' w' h1 h3 h4)
/-- Rows of different element types are different blocks. -/
theorem Own.ne {α' : Type} {E' : Ty α'} {e' : TypeId} {M' : Nat → Prop} {B' : Nat} {v' : Value} {zs : List α'} (h : Own E e w M B v xs) (h' : Own E' e' w M' B' v' zs) (hne : e ≠ e') : ∀ g, v.ownBlock = some g → v'.ownBlock ≠ some g := by
  obtain ⟨_, cells, ho, _⟩ := h
  obtain ⟨_, cells', ho', _⟩ := h'
  intro g hg hg'
  rcases ho.2 with ⟨rfl, _⟩ | ⟨g1, c1, r1, rfl, _, hh, _⟩
  · simp [Value.ownBlock] at hg
  · rcases ho'.2 with ⟨rfl, _⟩ | ⟨g2, c2, r2, rfl, _, hh', _⟩
    · simp [Value.ownBlock] at hg'
    · have e1 : g1 = g := by simpa [Value.ownBlock] using hg
      have e2 : g2 = g := by simpa [Value.ownBlock] using hg'
      subst e1 e2
      rw [hh] at hh'
      simp only [Option.some.injEq, Obj.cells.injEq] at hh'
      exact hne hh'.2.1
theorem wp_append_acc {w0 : World} {o : Oper} {a : Act} {K : Act → World → Prop} {Q : Exit → Act → World → Prop} (s x : Operand)
    (ho : o.op = .call { callee := .builtin .append, args := #[s, x], argTypes := #[t, t] }) (hT : SliceTy P t e E.n) (hb : Step w0 w)
    (hacc : Own E e w M w0.heap.size v xs) (hsrc : Src E w (fun b => M b ∨ v.ownBlock = some b) sv ys) (hlim : xs.length + ys.length ≤ lim) (hs : a.eval s = v) (hx : a.eval x = sv)
    (h : ∀ v' w', Own E e w' M w0.heap.size v' (xs ++ ys) → Step w0 w' → w.grownBy w' v.ownBlock → (v'.ownBlock = v.ownBlock ∨ v'.ownBlock = some w.heap.size) → K (a.put o.dst v') w') : o.wp P a w K Q := by
  obtain ⟨v', w', hrun, h2, h3, h4⟩ := run_append_acc (P := P) o.type hT hacc hsrc hlim hb.size
  unfold Oper.wp execOp
  simp only [ho, resolve, invoke, builtin, Sem.run_bind, Sem.run_pure, Result.andThen_ok, List.map_toArray, List.map_cons, List.map_nil, hs, hx, hrun]
  exact h v' w' h2 (hacc.grown hb h3) h3 h4
theorem wpList_append_acc {w0 : World} {ops : Array Oper} {rest : List Oper} {o : Oper} {a : Act} {Q : Exit → Act → World → Prop} (hgd : o.guard = none) (s x : Operand)
    (ho : o.op = .call { callee := .builtin .append, args := #[s, x], argTypes := #[t, t] }) (hT : SliceTy P t e E.n) (hb : Step w0 w)
    (hacc : Own E e w M w0.heap.size v xs) (hsrc : Src E w (fun b => M b ∨ v.ownBlock = some b) sv ys) (hlim : xs.length + ys.length ≤ lim) (hs : a.eval s = v) (hx : a.eval x = sv)
    (h : ∀ v' w', Own E e w' M w0.heap.size v' (xs ++ ys) → Step w0 w' → w.grownBy w' v.ownBlock → (v'.ownBlock = v.ownBlock ∨ v'.ownBlock = some w.heap.size) → wpList P ops Q rest (a.put o.dst v') w') : wpList P ops Q (o :: rest) a w :=
  wpList_plain hgd fun _ hK => wp_append_acc s x ho hT hb hacc hsrc hlim hs hx fun v' w' h1 h2 h3 h4 => hK _ _ (h v' w' h1 h2 h3 h4)
end
end Go.Gr

namespace Go.Gr
def I64 (x : Int) : Prop := -9223372036854775808 ≤ x ∧ x ≤ 9223372036854775807
structure DPair where
  key : List UInt8
  value : List UInt8
  deriving DecidableEq, Inhabited
end Go.Gr
