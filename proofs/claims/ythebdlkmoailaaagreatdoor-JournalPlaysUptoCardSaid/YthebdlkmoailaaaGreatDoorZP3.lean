/-
  The order of bytes: plain facts, and what the model's own comparison of two slices of bytes answers.
  Lists by rising keys, in plain words: what is put, struck, looked up; what a range of them has; a request upon them. No program is named here.
-/
import Derived.Test.YthebdlkmoailaaaGreatDoorZP1
import Derived.Laws.Externs
set_option linter.unusedVariables false
set_option linter.unusedSimpArgs false
namespace Go.Gr
/-- Byte by byte. -/
def cmpB : List UInt8 → List UInt8 → Int
  | [], [] => 0
  | [], _ :: _ => -1
  | _ :: _, [] => 1
  | x :: xs, y :: ys => if x < y then -1 else if y < x then 1 else cmpB xs ys

theorem cmpB_self (a : List UInt8) : cmpB a a = 0 := by
  induction a with
  | nil => rfl
  | cons x xs ih => simp [cmpB, ih]
theorem cmpB_eq {a b : List UInt8} (h : cmpB a b = 0) : a = b := by
  induction a generalizing b with
  | nil => cases b with
    | nil => rfl
    | cons y ys => simp [cmpB] at h
  | cons x xs ih =>
    cases b with
    | nil => simp [cmpB] at h
    | cons y ys =>
      unfold cmpB at h
      split at h
      · simp at h
      · split at h
        · simp at h
        · rename_i h1 h2
          have : x = y := UInt8.le_antisymm (UInt8.not_lt.1 h2) (UInt8.not_lt.1 h1)
          rw [this, ih h]
theorem cmpB_iff {a b : List UInt8} : cmpB a b = 0 ↔ a = b := ⟨cmpB_eq, fun h => h ▸ cmpB_self a⟩
theorem cmpB_range (a b : List UInt8) : cmpB a b = -1 ∨ cmpB a b = 0 ∨ cmpB a b = 1 := by
  induction a generalizing b with
  | nil => cases b <;> simp [cmpB]
  | cons x xs ih =>
    cases b with
    | nil => simp [cmpB]
    | cons y ys =>
      unfold cmpB
      split
      · simp
      · split
        · simp
        · exact ih ys
theorem cmpB_swap (a b : List UInt8) : cmpB b a = - cmpB a b := by
  induction a generalizing b with
  | nil => cases b <;> simp [cmpB]
  | cons x xs ih =>
    cases b with
    | nil => simp [cmpB]
    | cons y ys =>
      unfold cmpB
      by_cases h1 : x < y
      · have h2 : ¬ y < x := UInt8.lt_asymm h1
        simp [h1, h2]
      · by_cases h2 : y < x
        · simp [h1, h2]
        · simp [h1, h2, ih]

/-- As far as two lists agree, the rest decides. -/
theorem cmpB_drop {a b : List UInt8} : ∀ k, (∀ j, j < k → a[j]? = b[j]?) → cmpB a b = cmpB (a.drop k) (b.drop k) := by
  intro k
  induction k generalizing a b with
  | zero => intro _; simp
  | succ k ih =>
    intro h
    have h0 := h 0 (by omega)
    cases a with
    | nil =>
      cases b with
      | nil => simp
      | cons y ys => simp at h0
    | cons x xs =>
      cases b with
      | nil => simp at h0
      | cons y ys =>
        obtain rfl : x = y := by simpa using h0
        have := ih (a := xs) (b := ys) (fun j hj => by simpa using h (j + 1) (by omega))
        simp only [List.drop_succ_cons]
        rw [← this]
        simp [cmpB]

section
variable {P : Program} {w : World} {M : Nat → Prop}
end
end Go.Gr

namespace Go.Gr
theorem cmpB_trans {a b c : List UInt8} (h1 : cmpB a b < 0) (h2 : cmpB b c < 0) : cmpB a c < 0 := by
  induction a generalizing b c with
  | nil =>
    cases b with
    | nil => simp [cmpB] at h1
    | cons y ys =>
      cases c with
      | nil => simp [cmpB] at h2
      | cons z zs => simp [cmpB]
  | cons x xs ih =>
    cases b with
    | nil => simp [cmpB] at h1
    | cons y ys =>
      cases c with
      | nil => simp [cmpB] at h2
      | cons z zs =>
        unfold cmpB at h1 h2 ⊢
        by_cases hxy : x < y
        · by_cases hyz : y < z
          · rw [if_pos (UInt8.lt_trans hxy hyz)]; decide
          · rw [if_neg hyz] at h2
            by_cases hzy : z < y
            · rw [if_pos hzy] at h2; simp at h2
            · have : y = z := UInt8.le_antisymm (UInt8.not_lt.1 hzy) (UInt8.not_lt.1 hyz)
              subst this
              rw [if_pos hxy]; decide
        · rw [if_neg hxy] at h1
          by_cases hyx : y < x
          · rw [if_pos hyx] at h1; simp at h1
          · rw [if_neg hyx] at h1
            have : x = y := UInt8.le_antisymm (UInt8.not_lt.1 hyx) (UInt8.not_lt.1 hxy)
            subst this
            by_cases hyz : x < z
            · rw [if_pos hyz]; decide
            · rw [if_neg hyz] at h2 ⊢
              by_cases hzy : z < x
              · rw [if_pos hzy] at h2; simp at h2
              · rw [if_neg hzy] at h2 ⊢
                exact ih h1 h2
theorem cmpB_irr (a : List UInt8) : ¬ cmpB a a < 0 := by rw [cmpB_self]; decide
theorem cmpB_neg {a b : List UInt8} : 0 < cmpB a b ↔ cmpB b a < 0 := by rw [cmpB_swap a b]; omega
theorem cmpB_cases (a b : List UInt8) : cmpB a b < 0 ∨ a = b ∨ cmpB b a < 0 := by
  rcases cmpB_range a b with h | h | h
  · exact .inl (by omega)
  · exact .inr (.inl (cmpB_eq h))
  · exact .inr (.inr (cmpB_neg.1 (by omega)))
theorem cmpB_asymm {a b : List UInt8} (h : cmpB a b < 0) : ¬ cmpB b a < 0 := by rw [cmpB_swap a b]; omega
theorem cmpB_ne {a b : List UInt8} (h : cmpB a b < 0) : a ≠ b := fun e => cmpB_irr b (e ▸ h)
section
variable {α : Type} (key : α → List UInt8)
/-- By rising keys. -/
def Rising (l : List α) : Prop := l.Pairwise fun p q => cmpB (key p) (key q) < 0
def insK (x : α) : List α → List α
  | [] => [x]
  | y :: r => if cmpB (key x) (key y) < 0 then x :: y :: r else y :: insK x r
def dropK (k : List UInt8) (l : List α) : List α := l.filter fun p => decide (key p ≠ k)
/-- x in its place; what had its key is gone. -/
def putK (x : α) (l : List α) : List α := insK key x (dropK key (key x) l)
def getK (l : List α) (k : List UInt8) : Option α := l.find? fun p => decide (key p = k)
variable {key}
theorem mem_insK {x y : α} {l : List α} : y ∈ insK key x l ↔ y = x ∨ y ∈ l := by
  induction l with
  | nil => simp [insK]
  | cons z r ih =>
    unfold insK
    split
    · simp
    · simp only [List.mem_cons, ih]
      constructor
      · rintro (h | h | h)
        · exact .inr (.inl h)
        · exact .inl h
        · exact .inr (.inr h)
      · rintro (h | h | h)
        · exact .inr (.inl h)
        · exact .inl h
        · exact .inr (.inr h)
theorem mem_dropK {k : List UInt8} {y : α} {l : List α} : y ∈ dropK key k l ↔ y ∈ l ∧ key y ≠ k := by simp [dropK]
theorem mem_putK {x y : α} {l : List α} : y ∈ putK key x l ↔ y = x ∨ (y ∈ l ∧ key y ≠ key x) := by rw [putK, mem_insK, mem_dropK]
theorem Rising.drop {k : List UInt8} {l : List α} (h : Rising key l) : Rising key (dropK key k l) := List.Pairwise.filter _ h
theorem Rising.filter {p : α → Bool} {l : List α} (h : Rising key l) : Rising key (l.filter p) := List.Pairwise.filter _ h
theorem Rising.ins {x : α} {l : List α} (h : Rising key l) (hx : ∀ y ∈ l, key y ≠ key x) : Rising key (insK key x l) := by
  induction l with
  | nil => simp [insK, Rising]
  | cons y r ih =>
    obtain ⟨h1, h2⟩ := List.pairwise_cons.1 h
    unfold insK
    split
    · rename_i hc
      refine List.pairwise_cons.2 ⟨fun z hz => ?_, h⟩
      rcases List.mem_cons.1 hz with rfl | hz
      · exact hc
      · exact cmpB_trans hc (h1 z hz)
    · rename_i hc
      refine List.pairwise_cons.2 ⟨fun z hz => ?_, ih h2 (fun z hz => hx z (by simp [hz]))⟩
      rcases mem_insK.1 hz with rfl | hz
      · rcases cmpB_cases (key y) (key z) with h3 | h3 | h3
        · exact h3
        · exact absurd h3 (hx y (by simp))
        · exact absurd h3 hc
      · exact h1 z hz
theorem Rising.put {x : α} {l : List α} (h : Rising key l) : Rising key (putK key x l) := Rising.ins h.drop fun y hy => (mem_dropK.1 hy).2
theorem Rising.uniq {l : List α} (h : Rising key l) {x y : α} (hx : x ∈ l) (hy : y ∈ l) (he : key x = key y) : x = y := by
  induction l with
  | nil => cases hx
  | cons z r ih =>
    obtain ⟨h1, h2⟩ := List.pairwise_cons.1 h
    rcases List.mem_cons.1 hx with e1 | e1
    · rcases List.mem_cons.1 hy with e2 | e2
      · exact e1.trans e2.symm
      · exact absurd he (cmpB_ne (e1 ▸ h1 y e2))
    · rcases List.mem_cons.1 hy with e2 | e2
      · exact absurd he.symm (cmpB_ne (e2 ▸ h1 x e1))
      · exact ih h2 e1 e2
theorem getK_some {l : List α} {k : List UInt8} {x : α} (h : getK key l k = some x) : x ∈ l ∧ key x = k := ⟨List.mem_of_find?_eq_some h, by simpa using List.find?_some h⟩
theorem getK_none {l : List α} {k : List UInt8} : getK key l k = none ↔ ∀ x ∈ l, key x ≠ k := by simp [getK]
theorem getK_iff {l : List α} (h : Rising key l) {k : List UInt8} {x : α} : getK key l k = some x ↔ x ∈ l ∧ key x = k := by
  refine ⟨getK_some, fun ⟨h1, h2⟩ => ?_⟩
  cases hg : getK key l k with
  | none => exact absurd h2 (getK_none.1 hg x h1)
  | some y =>
    obtain ⟨h3, h4⟩ := getK_some hg
    rw [h.uniq h3 h1 (h4.trans h2.symm)]
theorem Rising.ext {a b : List α} (ha : Rising key a) (hb : Rising key b) (h : ∀ x, x ∈ a ↔ x ∈ b) : a = b := by
  induction a generalizing b with
  | nil =>
    cases b with
    | nil => rfl
    | cons y r => exact absurd ((h y).2 (by simp)) (by simp)
  | cons x r ih =>
    cases b with
    | nil => exact absurd ((h x).1 (by simp)) (by simp)
    | cons y s =>
      obtain ⟨a1, a2⟩ := List.pairwise_cons.1 ha
      obtain ⟨b1, b2⟩ := List.pairwise_cons.1 hb
      have hxy : x = y := by
        rcases List.mem_cons.1 ((h x).1 (by simp)) with e | e
        · exact e
        · rcases List.mem_cons.1 ((h y).2 (by simp)) with e' | e'
          · exact e'.symm
          · exact absurd (a1 y e') (cmpB_asymm (b1 x e))
      subst hxy
      rw [ih a2 b2 fun z => ?_]
      constructor
      · intro hz
        rcases List.mem_cons.1 ((h z).1 (by simp [hz])) with e | e
        · exact absurd (a1 z hz) (by rw [e]; exact cmpB_irr _)
        · exact e
      · intro hz
        rcases List.mem_cons.1 ((h z).2 (by simp [hz])) with e | e
        · exact absurd (b1 z hz) (by rw [e]; exact cmpB_irr _)
        · exact e
theorem Rising.ext_get {a b : List α} (ha : Rising key a) (hb : Rising key b) (h : ∀ k, getK key a k = getK key b k) : a = b :=
  ha.ext hb fun x => by rw [show x ∈ a ↔ getK key a (key x) = some x from ⟨fun h => (getK_iff ha).2 ⟨h, rfl⟩, fun h => (getK_some h).1⟩, h, show getK key b (key x) = some x ↔ x ∈ b from ⟨fun h => (getK_some h).1, fun h => (getK_iff hb).2 ⟨h, rfl⟩⟩]
theorem getK_drop {l : List α} {k k' : List UInt8} : getK key (dropK key k l) k' = if k' = k then none else getK key l k' := by
  induction l with
  | nil => simp [getK, dropK]
  | cons y r ih =>
    unfold dropK getK at *
    rw [List.filter_cons]
    by_cases hy : key y = k
    · simp only [hy, ne_eq, not_true_eq_false, decide_false, Bool.false_eq_true, if_false, ih, List.find?_cons]
      by_cases hk : k = k'
      · subst hk; simp
      · simp [hk]
    · simp only [hy, ne_eq, not_false_eq_true, decide_true, if_true, List.find?_cons]
      by_cases hk : key y = k'
      · simp only [hk, decide_true]
        rw [if_neg (fun e => hy (hk.trans e))]
      · simp only [hk, decide_false, ih]
theorem getK_ins {x : α} {l : List α} {k : List UInt8} (hx : ∀ y ∈ l, key y ≠ key x) : getK key (insK key x l) k = if k = key x then some x else getK key l k := by
  induction l with
  | nil =>
    by_cases h : key x = k
    · simp [getK, insK, h]
    · simp [getK, insK, h, Ne.symm h]
  | cons y r ih =>
    have ih := ih fun z hz => hx z (by simp [hz])
    have hy := hx y (by simp)
    unfold getK at *
    unfold insK
    split
    · by_cases h : key x = k
      · subst h; simp
      · simp [h, Ne.symm h]
    · by_cases h : key x = k
      · subst h
        simp only [List.find?_cons, hy, decide_false, ih, if_true]
      · simp only [List.find?_cons, ih, if_neg (Ne.symm h)]
theorem getK_put {x : α} {l : List α} {k : List UInt8} : getK key (putK key x l) k = if k = key x then some x else getK key l k := by
  rw [putK, getK_ins fun y hy => (mem_dropK.1 hy).2, getK_drop]
  split <;> rfl
theorem insK_length {x : α} {l : List α} : (insK key x l).length = l.length + 1 := by
  induction l with
  | nil => rfl
  | cons y r ih => unfold insK; split <;> simp [ih]
theorem dropK_length {k : List UInt8} {l : List α} : (dropK key k l).length ≤ l.length := List.length_filter_le _ _
theorem putK_length {x : α} {l : List α} : (putK key x l).length ≤ l.length + 1 := by
  have := dropK_length (key := key) (k := key x) (l := l)
  rw [putK, insK_length]
  omega
theorem dropK_none {k : List UInt8} {l : List α} (h : ∀ y ∈ l, key y ≠ k) : dropK key k l = l := List.filter_eq_self.2 fun y hy => by simpa using h y hy
end
end Go.Gr
