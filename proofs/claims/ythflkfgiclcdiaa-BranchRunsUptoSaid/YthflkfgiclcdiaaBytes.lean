/-
  The order of bytes: plain facts, and what the model's own comparison of two slices of bytes answers.
-/
import Derived.Test.YthflkfgiclcdiaaData
import Derived.Laws.Externs
namespace Go.Gr
/-- Byte by byte. -/
def cmpB : List UInt8 → List UInt8 → Int
  | [], [] => 0
  | [], _ :: _ => -1
  | _ :: _, [] => 1
  | x :: xs, y :: ys => if x < y then -1 else if y < x then 1 else cmpB xs ys

theorem cmpB_self (a : List UInt8) : cmpB a a = 0 := by
  induction a with
  | nil => rfl
  | cons x xs ih => simp [cmpB, ih]
theorem cmpB_eq {a b : List UInt8} (h : cmpB a b = 0) : a = b := by
  induction a generalizing b with
  | nil => cases b with
    | nil => rfl
    | cons y ys => simp [cmpB] at h
  | cons x xs ih =>
    cases b with
    | nil => simp [cmpB] at h
    | cons y ys =>
      unfold cmpB at h
      split at h
      · simp at h
      · split at h
        · simp at h
        · rename_i h1 h2
          have : x = y := UInt8.le_antisymm (UInt8.not_lt.1 h2) (UInt8.not_lt.1 h1)
          rw [this, ih h]
theorem cmpB_iff {a b : List UInt8} : cmpB a b = 0 ↔ a = b := ⟨cmpB_eq, fun h => h ▸ cmpB_self a⟩
theorem cmpB_range (a b : List UInt8) : cmpB a b = -1 ∨ cmpB a b = 0 ∨ cmpB a b = 1 := by
  induction a generalizing b with
  | nil => cases b <;> simp [cmpB]
  | cons x xs ih =>
    cases b with
    | nil => simp [cmpB]
    | cons y ys =>
      unfold cmpB
      split
      · simp
      · split
        · simp
        · exact ih ys
theorem cmpB_swap (a b : List UInt8) : cmpB b a = - cmpB a b := by
  induction a generalizing b with
  | nil => cases b <;> simp [cmpB]
  | cons x xs ih =>
    cases b with
    | nil => simp [cmpB]
    | cons y ys =>
      unfold cmpB
      by_cases h1 : x < y
      · have h2 : ¬ y < x := UInt8.lt_asymm h1
        simp [h1, h2]
      · by_cases h2 : y < x
        · simp [h1, h2]
        · simp [h1, h2, ih]

/-- As far as two lists agree, the rest decides. -/
theorem cmpB_drop {a b : List UInt8} : ∀ k, (∀ j, j < k → a[j]? = b[j]?) → cmpB a b = cmpB (a.drop k) (b.drop k) := by
  intro k
  induction k generalizing a b with
  | zero => intro _; simp
  | succ k ih =>
    intro h
    have h0 := h 0 (by omega)
    cases a with
    | nil =>
      cases b with
      | nil => simp
      | cons y ys => simp at h0
    | cons x xs =>
      cases b with
      | nil => simp at h0
      | cons y ys =>
        obtain rfl : x = y := by simpa using h0
        have := ih (a := xs) (b := ys) (fun j hj => by simpa using h (j + 1) (by omega))
        simp only [List.drop_succ_cons]
        rw [← this]
        simp [cmpB]

/-- The model's own comparison. -/
theorem cmp_bytes (a b : List UInt8) : Extern.BytealgCompare.cmp ⟨a.toArray⟩ ⟨b.toArray⟩ = cmpB a b := by
  have hs : ∀ l : List UInt8, (ByteArray.mk l.toArray).size = l.length := fun l => by simp [ByteArray.size]
  have hg : ∀ (l : List UInt8) (i : Nat), i < l.length → (ByteArray.mk l.toArray)[i]! = l[i]! := fun l i hi => by
    rw [getElem!_pos (ByteArray.mk l.toArray) i (by rw [hs]; exact hi), getElem!_pos l i hi]
    rfl
  unfold Extern.BytealgCompare.cmp
  rw [hs, hs]
  split
  · rename_i i hi
    obtain ⟨hne, as, bs, hl, hall⟩ := List.find?_eq_some_iff_append.1 hi
    have hlt : i < min a.length b.length := by
      have : i ∈ List.range (min a.length b.length) := by rw [hl]; simp
      simpa using this
    have has : ∀ j, j < i → j ∈ as := fun j hj => by
      have hlen : as.length = i := by
        have h1 : (List.range (min a.length b.length))[as.length]? = some i := by rw [hl]; simp
        rw [List.getElem?_eq_some_iff] at h1
        obtain ⟨h1, h2⟩ := h1
        simpa using h2
      have h2 : (List.range (min a.length b.length))[j]? = some j := by
        rw [List.getElem?_eq_getElem (by simp; omega)]; simp
      rw [hl, List.getElem?_append_left (by omega)] at h2
      exact List.mem_of_getElem? h2
    have hagree : ∀ j, j < i → a[j]? = b[j]? := fun j hj => by
      have := hall j (has j hj)
      have h1 : (ByteArray.mk a.toArray)[j]! = (ByteArray.mk b.toArray)[j]! := by simpa using this
      rw [hg a j (by omega), hg b j (by omega), getElem!_pos a j (by omega), getElem!_pos b j (by omega)] at h1
      rw [List.getElem?_eq_getElem (by omega), List.getElem?_eq_getElem (by omega), h1]
    rw [cmpB_drop i hagree]
    have ha : a.drop i = a[i] :: a.drop (i + 1) := List.drop_eq_getElem_cons (by omega)
    have hb : b.drop i = b[i] :: b.drop (i + 1) := List.drop_eq_getElem_cons (by omega)
    rw [ha, hb]
    have hne' : a[i] ≠ b[i] := by
      have h1 : (ByteArray.mk a.toArray)[i]! ≠ (ByteArray.mk b.toArray)[i]! := by simpa using hne
      rw [hg a i (by omega), hg b i (by omega), getElem!_pos a i (by omega), getElem!_pos b i (by omega)] at h1
      exact h1
    rw [hg a i (by omega), hg b i (by omega), getElem!_pos a i (by omega), getElem!_pos b i (by omega)]
    unfold cmpB
    by_cases h : a[i] < b[i]
    · simp [h]
    · have h' : b[i] < a[i] := UInt8.lt_of_le_of_ne (UInt8.not_lt.1 h) (Ne.symm hne')
      simp [h, h']
  · rename_i hn
    have hagree : ∀ j, j < min a.length b.length → a[j]? = b[j]? := fun j hj => by
      have := List.find?_eq_none.1 hn j (by simpa using hj)
      have h1 : (ByteArray.mk a.toArray)[j]! = (ByteArray.mk b.toArray)[j]! := by simpa using this
      rw [hg a j (by omega), hg b j (by omega), getElem!_pos a j (by omega), getElem!_pos b j (by omega)] at h1
      rw [List.getElem?_eq_getElem (by omega), List.getElem?_eq_getElem (by omega), h1]
    rw [cmpB_drop _ hagree]
    rcases Nat.lt_trichotomy a.length b.length with h | h | h
    · rw [Nat.min_eq_left (by omega), List.drop_length, if_pos h]
      have : b.drop a.length = b[a.length] :: b.drop (a.length + 1) := List.drop_eq_getElem_cons h
      rw [this]
      rfl
    · rw [h, Nat.min_self, if_neg (by omega), if_neg (by omega)]
      rw [List.drop_length, ← h, List.drop_length]
      rfl
    · rw [Nat.min_eq_right (by omega), List.drop_length, if_neg (by omega), if_pos h]
      have : a.drop b.length = a[b.length] :: a.drop (b.length + 1) := List.drop_eq_getElem_cons h
      rw [this]
      rfl

section
variable {P : Program} {w : World} {M : Nat → Prop}
theorem run_loadBytes (b : Nat) : ∀ (xs : List UInt8) (off : Nat) (acc : ByteArray), (∀ i (hi : i < xs.length), w.cell? ⟨b, off + i, none⟩ = some (.int .u8 (xs[i].toNat : Int))) →
    (Extern.Bytes.loadBytes ⟨b, off, none⟩ xs.length acc).run P w = .ok ⟨acc.data ++ xs.toArray⟩ w := by
  intro xs
  induction xs with
  | nil => intro off acc _; simp [Extern.Bytes.loadBytes]
  | cons x xs ih =>
    intro off acc h
    have h0 : w.cell? ⟨b, off, none⟩ = some (.int .u8 (x.toNat : Int)) := h 0 (by simp)
    have hx : (x.toNat : Int).toNat.toUInt8 = x := by simp
    have ha : (⟨b, off, none⟩ : Addr).add 1 = ⟨b, off + 1, none⟩ := rfl
    have := ih (off + 1) (acc.push x) (fun i hi => by
      have := h (i + 1) (by simpa using hi)
      rw [show off + 1 + i = off + (i + 1) by omega]
      simpa using this)
    simp only [List.length_cons, Extern.Bytes.loadBytes, load, Sem.run_bind, Sem.run, h0, Result.andThen, hx, ha]
    rw [this]
    congr 1
    simp
theorem run_bytesOf {v : Value} {xs : List UInt8} (h : Ty.bytes.rep w M [v] xs) : (Extern.Bytes.bytesOf v).run P w = .ok ⟨xs.toArray⟩ w := by
  obtain ⟨a, c, hv, _, _, _, hs⟩ := h
  obtain rfl : v = .slice a xs.length c := by simpa using hv
  rcases a with _ | a
  · have : xs = [] := by
      rcases xs with _ | ⟨x, xs⟩
      · rfl
      · obtain ⟨b, off, ha, _⟩ := hs (by simp)
        cases ha
    subst this
    rfl
  · rcases xs with _ | ⟨x, xs⟩
    · rfl
    · obtain ⟨b, off, ha, _, _, hc⟩ := hs (by simp)
      obtain rfl := Option.some.inj ha
      have := run_loadBytes (P := P) (w := w) b (x :: xs) off .empty (fun i hi => by
        obtain ⟨es, he, hce⟩ := hc i hi
        have he' : es = [.int .u8 ((x :: xs)[i].toNat : Int)] := he
        subst he'
        simpa [Ty.byte] using hce 0 _ rfl)
      simpa [Extern.Bytes.bytesOf] using this
theorem run_compare {u v : Value} {xs ys : List UInt8} (hx : Ty.bytes.rep w M [u] xs) {M' : Nat → Prop} (hy : Ty.bytes.rep w M' [v] ys) :
    (Extern.BytealgCompare.compare #[u, v]).run P w = .ok (.int .i64 (cmpB xs ys)) w := by
  show (do pure (goInt (Extern.BytealgCompare.cmp (← Extern.Bytes.bytesOf u) (← Extern.Bytes.bytesOf v)))).run P w = _
  simp only [Sem.run_bind, run_bytesOf hx, run_bytesOf hy, Result.andThen, Sem.run_pure, cmp_bytes]
  rfl
end
end Go.Gr
