/-
  Words for maps that a call has made: keys are ints, elements are structs, read by a 'Ty'. No program is named here.
  Words for maps that a call has made, more: an entry is struck. No program is named here.
-/
import Derived.Test.YthflkfgiclcdiaaZRow
import Derived.Maps.OwnSet
import Derived.Lib.SlKeysI
set_option linter.unusedVariables false
set_option linter.unusedSimpArgs false
namespace Go.Gr
open Go.Maps
set_option linter.unusedSimpArgs false
/-- An element as it stands. -/
abbrev rawElem : Value → Option (DataW Value × List MemPlace) := fun v => some (.held v, [])
/-- The datum of entries, by rising keys. -/
abbrev mapD (l : List (Int × Value)) : DataW Value := .map (l.map fun p => (Lit.int .i64 p.1, DataW.held p.2))
/-- Block b is a map with just these entries. -/
def MapI (P : Program) (k : TypeId) (w : World) (b : Nat) (l : List (Int × Value)) : Prop :=
  w.ownsMap P k rawElem b l.length (mapD l) ∧ l.Pairwise (fun p q => p.1 < q.1)
section
variable {P : Program} {k t e : TypeId} {w w' : World} {b : Nat} {l : List (Int × Value)} {s : Int}
theorem MapI.made (w : World) : MapI P k (w.alloc (.map #[] 0)) w.heap.size [] := ⟨World.ownsMap_made w P k rawElem, List.Pairwise.nil⟩
theorem MapI.empty (h : w.heap[b]? = some (.map #[] 0)) : MapI P k w b [] := by
  obtain ⟨⟨es, clock, h1, F, h2, h3⟩, hp⟩ := MapI.made (P := P) (k := k) w
  rw [heap_alloc_new] at h1
  simp only [Option.some.injEq, Obj.map.injEq] at h1
  obtain ⟨rfl, rfl⟩ := h1
  exact ⟨⟨_, _, h, F, h2, h3⟩, hp⟩
theorem MapI.lt (h : MapI P k w b l) : b < w.heap.size := h.1.lt
theorem MapI.same (h : MapI P k w b l) (hb : w'.heap[b]? = w.heap[b]?) : MapI P k w' b l := by
  obtain ⟨⟨es, clock, h1, F, h2, h3⟩, hp⟩ := h
  exact ⟨⟨es, clock, hb.trans h1, F, h2, h3⟩, hp⟩
theorem MapI.step (h : MapI P k w b l) (hb : Step w w') : MapI P k w' b l := h.same (hb.heap h.lt)
theorem MapI.grown {row : Option Nat} (h : MapI P k w b l) (hg : w.grownBy w' row) (hne : some b ≠ row) : MapI P k w' b l := h.same (hg.block b h.lt hne)
theorem insert_last (x : Lit × DataW Value) : ∀ (es : List (Lit × DataW Value)), (∀ y ∈ es, x.1.before y.1 = false) → DataW.insert x es = es ++ [x]
  | [], _ => rfl
  | y :: r, h => by
    unfold DataW.insert
    rw [h y (by simp), insert_last x r (fun z hz => h z (by simp [hz]))]
    rfl
/-- A key behind all that are there. -/
theorem put_last (h : ∀ p ∈ l, p.1 < s) (v : Value) : (mapD l).put (.int .i64 s) (.held v) = mapD (l ++ [(s, v)]) := by
  unfold mapD DataW.put
  have h1 : (l.map fun p => (Lit.int .i64 p.1, DataW.held p.2)).filter (fun p => !p.1.sameKey (.int .i64 s)) = l.map fun p => (Lit.int .i64 p.1, DataW.held p.2) := by
    rw [List.filter_eq_self]
    intro p hp
    obtain ⟨q, hq, rfl⟩ := List.mem_map.1 hp
    have := h q hq
    simp [Lit.sameKey]
    omega
  simp only [h1]
  rw [insert_last]
  · simp
  · intro y hy
    obtain ⟨q, hq, rfl⟩ := List.mem_map.1 hy
    have := h q hq
    simp [Lit.before]
    omega
theorem wf_i64 {s : Int} (h : -9223372036854775808 ≤ s ∧ s ≤ 9223372036854775807) : (Lit.int .i64 s).wf = true := by
  simp [Lit.wf, IntKind.min, IntKind.max, IntKind.signed, IntKind.bits]
  omega
theorem MapI.put_last (h : MapI P k w b l) (hk : P.underlying k = some (.int .i64)) (ht : P.underlying t = some (.map k e)) (hn : l.length < maxLen) (hs : -9223372036854775808 ≤ s ∧ s ≤ 9223372036854775807) (hl : ∀ p ∈ l, p.1 < s) (v : Value) :
    ∃ w', (Instr.mapUpdate t (.map (some b)) (.int .i64 s) v).run P w = .ok () w' ∧ MapI P k w' b (l ++ [(s, v)]) ∧ w.grownBy w' (some b) := by
  obtain ⟨w', hr, ho, hg⟩ := h.1.update (int_keyed hk) ht hn (keyOf_int_mk hk (wf_i64 hs)) (R := rawElem) (val := v) rfl
  refine ⟨w', hr, ⟨?_, ?_⟩, hg⟩
  · rw [Gr.put_last hl v] at ho
    simpa using ho
  · rw [List.pairwise_append]
    exact ⟨h.2, by simp, fun p hp q hq => by simp at hq; subst hq; exact hl p hp⟩
theorem atKey_mapD (z : DataW Value) : (mapD l).atKey (.int .i64 s) z = match l.find? (fun p => p.1 == s) with | some p => .held p.2 | none => z := by
  unfold mapD DataW.atKey
  simp only [List.find?_map]
  have : (fun p : Int × Value => (Lit.int .i64 p.1).sameKey (Lit.int .i64 s)) = fun p => p.1 == s := by
    funext p
    simp [Lit.sameKey]
    by_cases h : p.1 = s <;> simp [h]
  rw [show ((fun p : Lit × DataW Value => p.1.sameKey (Lit.int IntKind.i64 s)) ∘ fun p : Int × Value => (Lit.int IntKind.i64 p.1, DataW.held p.2)) = fun p => p.1 == s from this]
  cases l.find? (fun p => p.1 == s) <;> rfl
/-- What a look-up gives: the entry at the key, or the zero. -/
theorem MapI.look (h : MapI P k w b l) (hk : P.underlying k = some (.int .i64)) (ht : P.underlying t = some (.map k e)) {z : Value} (hz : (zeroValue e).run P w = .ok z w) (hs : -9223372036854775808 ≤ s ∧ s ≤ 9223372036854775807) (c : Bool) :
    ((∀ p ∈ l, p.1 ≠ s) ∧ (Instr.lookup t (.map (some b)) (.int .i64 s) c).run P w = .ok (if c then .tuple #[z, .bool false] else z) w) ∨
    (∃ v, (s, v) ∈ l ∧ (Instr.lookup t (.map (some b)) (.int .i64 s) c).run P w = .ok (if c then .tuple #[v, .bool true] else v) w) := by
  obtain ⟨⟨es, clock, hb, F, _, hD⟩, hp⟩ := h
  rcases Maps.fit_look c (int_keyed hk) ht hz hb F (keyOf_int_mk hk (wf_i64 hs)) with ⟨hrun, _, hat⟩ | ⟨e0, y, _, _, hrun, hRv, hat, _⟩
  · refine .inl ⟨fun p hpl hps => ?_, hrun⟩
    have h1 := hat (.lit (.bool true))
    rw [← hD, atKey_mapD] at h1
    cases hf : l.find? (fun p => p.1 == s) with
    | none => exact absurd (List.find?_eq_none.1 hf p hpl) (by simp [hps])
    | some q => rw [hf] at h1; cases h1
  · refine .inr ⟨e0.val, ?_, hrun⟩
    have h1 := hat (.lit (.bool true))
    simp only [rawElem, Option.some.injEq] at hRv
    subst hRv
    rw [← hD, atKey_mapD] at h1
    cases hf : l.find? (fun p => p.1 == s) with
    | none => rw [hf] at h1; cases h1
    | some q =>
      rw [hf] at h1
      have h2 := List.find?_some hf
      have h3 := List.mem_of_find?_eq_some hf
      simp only [DataW.held.injEq] at h1
      simp only [beq_iff_eq] at h2
      subst h2
      rw [← h1]
      exact h3
theorem MapI.look_at (h : MapI P k w b l) (hk : P.underlying k = some (.int .i64)) (ht : P.underlying t = some (.map k e)) {z v : Value} (hz : (zeroValue e).run P w = .ok z w) (hs : -9223372036854775808 ≤ s ∧ s ≤ 9223372036854775807) (c : Bool) (hv : (s, v) ∈ l) :
    (Instr.lookup t (.map (some b)) (.int .i64 s) c).run P w = .ok (if c then .tuple #[v, .bool true] else v) w := by
  rcases h.look hk ht hz hs c with ⟨hn, _⟩ | ⟨v', hv', hr⟩
  · exact absurd rfl (hn _ hv)
  · have : v' = v := by
      by_cases he : v' = v
      · exact he
      · have hp := List.pairwise_iff_getElem.1 h.2
        obtain ⟨i, hi, e1⟩ := List.getElem_of_mem hv'
        obtain ⟨j, hj, e2⟩ := List.getElem_of_mem hv
        rcases Nat.lt_trichotomy i j with hl | hl | hl
        · have := hp i j hi hj hl
          rw [e1, e2] at this
          simp at this
        · subst hl
          rw [e1] at e2
          exact (Prod.mk.inj e2).2
        · have := hp j i hj hi hl
          rw [e1, e2] at this
          simp at this
    rw [hr, this]
theorem MapI.len (h : MapI P k w b l) (ht : P.underlying t = some (.map k e)) (ty : TypeId) : (Builtin.len_ #[t] ty #[.map (some b)]).run P w = .ok (.int .i64 l.length) w := by
  have := h.1.len ht ty
  rw [this, Maps.size_eq, List.length_map]
theorem intKeys_mapD : intKeys (mapD l) = l.map (·.1) := by
  simp [intKeys, mapD, Go.intOf, Function.comp_def]
theorem sorted_keys {ss : List Int} (hp : l.Pairwise (fun p q => p.1 < q.1)) (h : ss.Perm (intKeys (mapD l))) : ss.mergeSort (fun x y => decide (x ≤ y)) = l.map (·.1) := by
  rw [intKeys_mapD] at h
  have := mergeSort_of_perm_i h
  rw [show (fun x y : Int => decide (x ≤ y)) = leI from rfl, this]
  refine List.mergeSort_of_pairwise ?_
  rw [List.pairwise_map]
  exact hp.imp (fun h => by simp [leI]; omega)
end
/-- Block b is a map whose entries read as xs (by rising keys). -/
def MapT {α : Type} (P : Program) (k : TypeId) (E : Ty α) (w : World) (M : Nat → Prop) (b : Nat) (xs : List (Int × α)) : Prop :=
  ∃ l, MapI P k w b l ∧ l.length = xs.length ∧ ∀ (i : Nat) (p : Int × Value) (x : Int × α), l[i]? = some p → xs[i]? = some x → p.1 = x.1 ∧ ∃ cs, p.2 = .agg cs ∧ E.rep w M cs.toList x.2
section
variable {α : Type} {E : Ty α} {P : Program} {k t e : TypeId} {w w' : World} {M M' : Nat → Prop} {b : Nat} {xs : List (Int × α)} {s : Int}
theorem MapT.made (w : World) : MapT P k E (w.alloc (.map #[] 0)) M w.heap.size [] := ⟨[], MapI.made w, rfl, fun i p x h => by simp at h⟩
theorem MapT.empty (h : w.heap[b]? = some (.map #[] 0)) : MapT P k E w M b [] := ⟨[], MapI.empty h, rfl, fun i p x h => by simp at h⟩
theorem MapT.lt (h : MapT P k E w M b xs) : b < w.heap.size := by obtain ⟨l, h, _⟩ := h; exact h.lt
theorem MapT.keep (h : MapT P k E w M b xs) (hb : w'.heap[b]? = w.heap[b]?) (hk : ∀ c, c < w.heap.size → ¬ M c → w'.heap[c]? = w.heap[c]? ∧ ¬ M' c) : MapT P k E w' M' b xs := by
  obtain ⟨l, h1, h2, h3⟩ := h
  refine ⟨l, h1.same hb, h2, fun i p x hp hx => ?_⟩
  obtain ⟨h4, cs, h5, h6⟩ := h3 i p x hp hx
  exact ⟨h4, cs, h5, E.keep h6 hk⟩
theorem MapT.step (h : MapT P k E w M b xs) (hb : Step w w') : MapT P k E w' M b xs := h.keep (hb.heap h.lt) fun c h1 h2 => ⟨hb.heap h1, h2⟩
theorem MapT.put_last {x : α} {cs : Array Value} (h : MapT P k E w M b xs) (hk : P.underlying k = some (.int .i64)) (ht : P.underlying t = some (.map k e)) (hn : xs.length < maxLen) (hs : -9223372036854775808 ≤ s ∧ s ≤ 9223372036854775807)
    (hl : ∀ p ∈ xs, p.1 < s) (hx : E.rep w M cs.toList x) (hM : M b) :
    ∃ w', (Instr.mapUpdate t (.map (some b)) (.int .i64 s) (.agg cs)).run P w = .ok () w' ∧ MapT P k E w' M b (xs ++ [(s, x)]) ∧ w.grownBy w' (some b) := by
  obtain ⟨l, h1, h2, h3⟩ := h
  obtain ⟨w', hr, hm, hg⟩ := h1.put_last hk ht (by omega) hs (fun p hp => by
    obtain ⟨i, hi, rfl⟩ := List.getElem_of_mem hp
    have hi' : i < xs.length := by omega
    have := (h3 i l[i] xs[i] (List.getElem?_eq_getElem hi) (List.getElem?_eq_getElem hi')).1
    rw [this]
    exact hl _ (List.getElem_mem hi')) (.agg cs)
  refine ⟨w', hr, ⟨_, hm, by simp [h2], fun i p y hp hy => ?_⟩, hg⟩
  have key : ∀ {cs : List Value} {x : α}, E.rep w M cs x → E.rep w' M cs x := fun h => E.kept h fun c h1 h2 => hg.block c h1 (fun e => h2 (by injection e with e; exact e ▸ hM))
  rcases Nat.lt_or_ge i l.length with hi | hi
  · rw [List.getElem?_append_left hi] at hp
    rw [List.getElem?_append_left (by omega)] at hy
    obtain ⟨h4, cs, h5, h6⟩ := h3 i p y hp hy
    exact ⟨h4, cs, h5, key h6⟩
  · rw [List.getElem?_append_right hi] at hp
    rw [List.getElem?_append_right (by omega)] at hy
    have e1 : i - l.length = 0 := by
      rcases hq : i - l.length with _ | m
      · rfl
      · rw [hq] at hp; simp at hp
    rw [e1] at hp
    rw [show i - xs.length = 0 by omega] at hy
    simp at hp hy
    subst hp hy
    exact ⟨rfl, cs, rfl, key hx⟩
theorem MapT.look (h : MapT P k E w M b xs) (hk : P.underlying k = some (.int .i64)) (ht : P.underlying t = some (.map k e)) {z : Value} (hz : (zeroValue e).run P w = .ok z w) (hs : -9223372036854775808 ≤ s ∧ s ≤ 9223372036854775807) (c : Bool) :
    ((∀ p ∈ xs, p.1 ≠ s) ∧ (Instr.lookup t (.map (some b)) (.int .i64 s) c).run P w = .ok (if c then .tuple #[z, .bool false] else z) w) ∨
    (∃ x cs, (s, x) ∈ xs ∧ E.rep w M cs.toList x ∧ (Instr.lookup t (.map (some b)) (.int .i64 s) c).run P w = .ok (if c then .tuple #[.agg cs, .bool true] else .agg cs) w) := by
  obtain ⟨l, h1, h2, h3⟩ := h
  rcases h1.look hk ht hz hs c with ⟨hn, hr⟩ | ⟨v, hv, hr⟩
  · refine .inl ⟨fun p hp => ?_, hr⟩
    obtain ⟨i, hi, rfl⟩ := List.getElem_of_mem hp
    have hi' : i < l.length := by omega
    rw [← (h3 i l[i] xs[i] (List.getElem?_eq_getElem hi') (List.getElem?_eq_getElem hi)).1]
    exact hn _ (List.getElem_mem hi')
  · obtain ⟨i, hi, he⟩ := List.getElem_of_mem hv
    have hi' : i < xs.length := by omega
    obtain ⟨h4, cs, h5, h6⟩ := h3 i l[i] xs[i] (List.getElem?_eq_getElem hi) (List.getElem?_eq_getElem hi')
    rw [he] at h4 h5
    simp only at h4 h5
    subst h5
    refine .inr ⟨xs[i].2, cs, ?_, h6, hr⟩
    rw [h4]
    exact List.getElem_mem hi'
theorem MapT.at (h : MapT P k E w M b xs) (hk : P.underlying k = some (.int .i64)) (ht : P.underlying t = some (.map k e)) {z : Value} (hz : (zeroValue e).run P w = .ok z w) (c : Bool) {i : Nat} (hi : i < xs.length) (hs : -9223372036854775808 ≤ xs[i].1 ∧ xs[i].1 ≤ 9223372036854775807) :
    ∃ cs, E.rep w M cs.toList xs[i].2 ∧ (Instr.lookup t (.map (some b)) (.int .i64 xs[i].1) c).run P w = .ok (if c then .tuple #[.agg cs, .bool true] else .agg cs) w := by
  obtain ⟨l, h1, h2, h3⟩ := h
  have hi' : i < l.length := by omega
  obtain ⟨h4, cs, h5, h6⟩ := h3 i l[i] xs[i] (List.getElem?_eq_getElem hi') (List.getElem?_eq_getElem hi)
  refine ⟨cs, h6, h1.look_at hk ht hz hs c ?_⟩
  rw [← h4, ← h5]
  exact List.getElem_mem hi'
theorem MapT.len (h : MapT P k E w M b xs) (ht : P.underlying t = some (.map k e)) (ty : TypeId) : (Builtin.len_ #[t] ty #[.map (some b)]).run P w = .ok (.int .i64 xs.length) w := by
  obtain ⟨l, h1, h2, _⟩ := h
  rw [h1.len ht ty, h2]
/-- Its keys, sorted. -/
theorem MapT.keys (h : MapT P k E w M b xs) : ∃ n D, w.ownsMap P k rawElem b n D ∧ Maps.size D = xs.length ∧ ∀ ss : List Int, ss.Perm (intKeys D) → ss.mergeSort (fun x y => decide (x ≤ y)) = xs.map (·.1) := by
  obtain ⟨l, h1, h2, h3⟩ := h
  refine ⟨_, _, h1.1, by rw [Maps.size_eq, List.length_map, h2], fun ss hs => ?_⟩
  rw [sorted_keys h1.2 hs]
  refine List.ext_getElem (by simp [h2]) fun i hi hi' => ?_
  simp at hi hi'
  simpa using (h3 i l[i] xs[i] (List.getElem?_eq_getElem hi) (List.getElem?_eq_getElem hi')).1
end
end Go.Gr
namespace Go.Gr
open Go.RowKit
/-- From w to w' only blocks of M have turned. -/
structure Turn (M : Nat → Prop) (w w' : World) : Prop where
  os : w'.os = w.os
  tape : w'.tape = w.tape
  output : w'.output = w.output
  size : w.heap.size ≤ w'.heap.size
  block : ∀ k, k < w.heap.size → ¬ M k → w'.heap[k]? = w.heap[k]?
theorem Turn.of {M : Nat → Prop} {w w' : World} (h : Step w w') : Turn M w w' := ⟨Below.os h, Below.tape h, Below.output h, Below.size h, fun _ h1 _ => Below.block h _ h1⟩
theorem Turn.refl (M : Nat → Prop) (w : World) : Turn M w w := Turn.of (Step.refl w)
theorem Turn.trans {M : Nat → Prop} {a b c : World} (h : Turn M a b) (k : Turn M b c) : Turn M a c :=
  ⟨k.os.trans h.os, k.tape.trans h.tape, k.output.trans h.output, Nat.le_trans h.size k.size, fun i h1 h2 => (k.block i (Nat.lt_of_lt_of_le h1 h.size) h2).trans (h.block i h1 h2)⟩
theorem Turn.then {M : Nat → Prop} {a b c : World} (h : Turn M a b) (k : Step b c) : Turn M a c := h.trans (Turn.of k)
theorem Turn.mono {M M' : Nat → Prop} {w w' : World} (h : Turn M w w') (hM : ∀ b, b < w.heap.size → M b → M' b) : Turn M' w w' := ⟨h.os, h.tape, h.output, h.size, fun b h1 h2 => h.block b h1 fun h3 => h2 (hM b h1 h3)⟩
theorem Turn.alloc {M : Nat → Prop} {w w' : World} (h : Turn M w w') (o : Obj) : Turn M w (w'.alloc o) := h.then ((Step.refl _).alloc o)
theorem Turn.drew {M : Nat → Prop} {w w' : World} (h : Turn M w w') : Turn M w w'.drew := h.then (Step.refl _).drew
theorem Turn.setCell {M : Nat → Prop} {w w' : World} (h : Turn M w w') {p : Addr} (hp : p.block < w.heap.size → M p.block) (u : Value) : Turn M w (w'.setCell p u) := by
  have hb := Below.setCell (B := 0) (Below.refl 0 w') (p := p) (Nat.zero_le _) u
  exact ⟨hb.os.trans h.os, hb.tape.trans h.tape, hb.output.trans h.output, Nat.le_trans h.size hb.size, fun b h1 h2 => (Below.heap_setCell w' p u b (fun e => h2 (e ▸ hp (e ▸ h1)))).trans (h.block b h1 h2)⟩
theorem Turn.grown {M : Nat → Prop} {w w' w2 : World} (h : Turn M w w') {row : Option Nat} (hg : w'.grownBy w2 row) (hr : ∀ k, row = some k → k < w.heap.size → M k) : Turn M w w2 := by
  have hb := Below.grown (B := 0) (Below.refl 0 w') hg (Nat.zero_le _) (fun _ _ => Nat.zero_le _)
  exact ⟨hb.os.trans h.os, hb.tape.trans h.tape, hb.output.trans h.output, Nat.le_trans h.size hb.size, fun b h1 h2 => (hg.block b (Nat.lt_of_lt_of_le h1 h.size) (fun e => h2 (hr b e.symm h1))).trans (h.block b h1 h2)⟩
theorem Turn.kept {M : Nat → Prop} {w w' : World} (h : Turn M w w') : Kept M w w' := h.block
theorem Turn.step {M : Nat → Prop} {w0 w w' : World} (hs : Step w0 w) (h : Turn M w w') (hM : ∀ b, M b → w0.heap.size ≤ b) : Step w0 w' :=
  Step.of ⟨h.os.trans (Below.os hs), h.tape.trans (Below.tape hs), h.output.trans (Below.output hs), Nat.le_trans hs.size h.size, fun b hb => (h.block b (Nat.lt_of_lt_of_le hb hs.size) (fun e => by have := hM b e; omega)).trans (hs.heap hb)⟩
theorem Turn.cell {M : Nat → Prop} {w w' : World} (h : Turn M w w') {b : Nat} (hb : b < w.heap.size) (hM : ¬ M b) (o : Nat) : w'.cell? ⟨b, o, none⟩ = w.cell? ⟨b, o, none⟩ := cell_eq (h.block b hb hM)
theorem wp_code {P : Program} {c : Code} {K : Exit → Act → World → Prop} {a : Act} {w : World} (F : World → Prop) (hF : F w) (h : ∀ w', F w' → Code.wp P c K a w') : Code.wp P c K a w := h w hF
theorem wp_mapUpdate_T {P : Program} {α : Type} {E : Ty α} {w : World} {M : Nat → Prop} {k t e : TypeId} {b : Nat} {xs : List (Int × α)} {s : Int} {y : α} {cs : Array Value} {o : Oper} {a : Act} {K : Act → World → Prop} {Q : Exit → Act → World → Prop}
    (m x v : Operand) (ho : o.op = Op.mapUpdate t m x v) (h : MapT P k E w M b xs) (hk : P.underlying k = some (.int .i64)) (ht : P.underlying t = some (.map k e)) (hn : xs.length < maxLen) (hs : -9223372036854775808 ≤ s ∧ s ≤ 9223372036854775807)
    (hl : ∀ p ∈ xs, p.1 < s) (hx : E.rep w M cs.toList y) (hM : M b) (hm : a.eval m = .map (some b)) (hxx : a.eval x = .int .i64 s) (hv : a.eval v = .agg cs)
    (hK : ∀ w', MapT P k E w' M b (xs ++ [(s, y)]) → w.grownBy w' (some b) → K (a.put o.dst undef) w') : o.wp P a w K Q := by
  obtain ⟨w', hrun, h1, h2⟩ := h.put_last hk ht hn hs hl hx hM
  unfold Oper.wp
  simp [execOp, ho, hm, hxx, hv, hrun, Result.andThen]
  exact hK w' h1 h2
end Go.Gr

namespace Go.Gr
open Go.Maps Go.RowKit
set_option linter.unusedSimpArgs false
theorem filter_pair {α β : Type} {f : α → Bool} {g : β → Bool} {R : α → β → Prop} : ∀ (l : List α) (xs : List β), l.length = xs.length → (∀ (i : Nat) (p : α) (x : β), l[i]? = some p → xs[i]? = some x → R p x ∧ f p = g x) →
    (l.filter f).length = (xs.filter g).length ∧ ∀ (i : Nat) (p : α) (x : β), (l.filter f)[i]? = some p → (xs.filter g)[i]? = some x → R p x
  | [], [], _, _ => ⟨rfl, fun i p x h => by simp at h⟩
  | [], _ :: _, h, _ => by simp at h
  | _ :: _, [], h, _ => by simp at h
  | a :: l, b :: xs, hl, h => by
    obtain ⟨h1, h2⟩ := filter_pair l xs (by simpa using hl) (fun i p x hp hx => h (i + 1) p x (by simpa using hp) (by simpa using hx))
    obtain ⟨h3, h4⟩ := h 0 a b rfl rfl
    rw [List.filter_cons, List.filter_cons, h4]
    by_cases hg : g b = true
    · rw [if_pos hg, if_pos hg]
      refine ⟨by simp [h1], fun i p x hp hx => ?_⟩
      rcases i with _ | i
      · simp at hp hx
        subst hp hx
        exact h3
      · exact h2 i p x (by simpa using hp) (by simpa using hx)
    · rw [if_neg hg, if_neg hg]
      exact ⟨h1, h2⟩
section
variable {P : Program} {k t e : TypeId} {w w' : World} {b : Nat} {l : List (Int × Value)} {s : Int}
theorem del_mapD : (mapD l).del (.int .i64 s) = mapD (l.filter fun p => p.1 != s) := by
  unfold mapD DataW.del
  simp only [List.filter_map]
  congr 2
  refine List.filter_congr fun p _ => ?_
  by_cases h : p.1 = s <;> simp [Lit.sameKey, bne, h]
theorem MapI.drop (h : MapI P k w b l) (hk : P.underlying k = some (.int .i64)) (ht : P.underlying t = some (.map k e)) (hs : -9223372036854775808 ≤ s ∧ s ≤ 9223372036854775807) (ty : TypeId) :
    ∃ w', (Builtin.delete_ #[t, k] ty #[.map (some b), .int .i64 s]).run P w = .ok (.tuple #[]) w' ∧ MapI P k w' b (l.filter fun p => p.1 != s) ∧ w.grownBy w' (some b) := by
  obtain ⟨w', hr, ho, hg⟩ := h.1.drop (int_keyed hk) ht (keyOf_int_mk hk (wf_i64 hs)) ty
  rw [del_mapD] at ho
  refine ⟨w', hr, ⟨?_, h.2.filter _⟩, hg.grown⟩
  obtain ⟨es, clock, hb, F, _, hD⟩ := ho
  refine ⟨es, clock, hb, F, ?_, hD⟩
  have h1 := length_read (P := P) (k := k) (R0 := rawElem) es
  have h2 : ((l.filter fun p => p.1 != s).map fun p => (Lit.int .i64 p.1, DataW.held p.2)) = (es.toList.map (WideElems.rg P k rawElem)).foldr DataW.insert [] := by
    unfold mapD at hD
    injection hD
  rw [← h2, List.length_map] at h1
  omega
end
section
variable {α : Type} {E : Ty α} {P : Program} {k t e : TypeId} {w w' : World} {M M' : Nat → Prop} {b : Nat} {xs : List (Int × α)} {s : Int}
theorem MapT.drop (h : MapT P k E w M b xs) (hk : P.underlying k = some (.int .i64)) (ht : P.underlying t = some (.map k e)) (hs : -9223372036854775808 ≤ s ∧ s ≤ 9223372036854775807) (hM : M b) (ty : TypeId) :
    ∃ w', (Builtin.delete_ #[t, k] ty #[.map (some b), .int .i64 s]).run P w = .ok (.tuple #[]) w' ∧ MapT P k E w' M b (xs.filter fun p => p.1 != s) ∧ w.grownBy w' (some b) := by
  obtain ⟨l, h1, h2, h3⟩ := h
  obtain ⟨w', hr, hm, hg⟩ := h1.drop hk ht hs ty
  obtain ⟨h4, h5⟩ := filter_pair (f := fun p : Int × Value => p.1 != s) (g := fun p : Int × α => p.1 != s) (R := fun p x => p.1 = x.1 ∧ ∃ cs, p.2 = .agg cs ∧ E.rep w M cs.toList x.2) l xs h2 (fun i p x hp hx => ⟨h3 i p x hp hx, by rw [(h3 i p x hp hx).1]⟩)
  refine ⟨w', hr, ⟨_, hm, h4, fun i p x hp hx => ?_⟩, hg⟩
  obtain ⟨h6, cs, h7, h8⟩ := h5 i p x hp hx
  exact ⟨h6, cs, h7, E.kept h8 fun c h1 h2 => hg.block c h1 (fun e => h2 (by injection e with e; exact e ▸ hM))⟩
theorem wpList_delete_T {ops : Array Oper} {rest : List Oper} {o : Oper} {a : Act} {Q : Exit → Act → World → Prop} (hg : o.guard = none) (m x : Operand) (hop : o.op = .call { callee := .builtin .delete, args := #[m, x], argTypes := #[t, k] })
    (h : MapT P k E w M b xs) (hk : P.underlying k = some (.int .i64)) (ht : P.underlying t = some (.map k e)) (hs : -9223372036854775808 ≤ s ∧ s ≤ 9223372036854775807) (hM : M b) (hm : a.eval m = .map (some b)) (hx : a.eval x = .int .i64 s)
    (hK : ∀ w', MapT P k E w' M b (xs.filter fun p => p.1 != s) → w.grownBy w' (some b) → wpList P ops Q rest (a.put o.dst (.tuple #[])) w') : wpList P ops Q (o :: rest) a w := by
  refine wpList_plain hg fun K' hK' => ?_
  obtain ⟨w', hrun, r1, r2⟩ := h.drop hk ht hs hM o.type
  unfold Oper.wp
  simp [execOp, hop, resolve, invoke, builtin, hm, hx, hrun, Result.andThen]
  exact hK' _ _ (hK w' r1 r2)
end
end Go.Gr
