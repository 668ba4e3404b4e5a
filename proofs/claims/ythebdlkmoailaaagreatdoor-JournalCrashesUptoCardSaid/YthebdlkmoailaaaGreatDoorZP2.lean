/-
  Words for maps that a call has made: keys are ints, elements are structs, read by a 'Ty'. No program is named here.
  Words for maps that a call has made, more: an entry is struck. No program is named here.
  Rows of bytes that lie apart: turned in place, appended to, with others beside them. No program is named here.
  A call's own row, as a source and as a slice.
-/
import Derived.Test.YthebdlkmoailaaaGreatDoorZRow
import Derived.Maps.OwnSet
import Derived.Lib.SlKeysI
set_option linter.unusedVariables false
set_option linter.unusedSimpArgs false
namespace Go.Gr
open Go.Maps
set_option linter.unusedSimpArgs false
/-- An element as it stands. -/
abbrev rawElem : Value → Option (DataW Value × List MemPlace) := fun v => some (.held v, [])
/-- The datum of entries, by rising keys. -/
abbrev mapD (l : List (Int × Value)) : DataW Value := .map (l.map fun p => (Lit.int .i64 p.1, DataW.held p.2))
/-- Block b is a map with just these entries. -/
def MapI (P : Program) (k : TypeId) (w : World) (b : Nat) (l : List (Int × Value)) : Prop :=
  w.ownsMap P k rawElem b l.length (mapD l) ∧ l.Pairwise (fun p q => p.1 < q.1)
section
variable {P : Program} {k t e : TypeId} {w w' : World} {b : Nat} {l : List (Int × Value)} {s : Int}
theorem MapI.made (w : World) : MapI P k (w.alloc (.map #[] 0)) w.heap.size [] := ⟨World.ownsMap_made w P k rawElem, List.Pairwise.nil⟩
theorem MapI.empty (h : w.heap[b]? = some (.map #[] 0)) : MapI P k w b [] := by
  obtain ⟨⟨es, clock, h1, F, h2, h3⟩, hp⟩ := MapI.made (P := P) (k := k) w
  rw [heap_alloc_new] at h1
  simp only [Option.some.injEq, Obj.map.injEq] at h1
  obtain ⟨rfl, rfl⟩ := h1
  exact ⟨⟨_, _, h, F, h2, h3⟩, hp⟩
theorem MapI.lt (h : MapI P k w b l) : b < w.heap.size := h.1.lt
theorem MapI.same (h : MapI P k w b l) (hb : w'.heap[b]? = w.heap[b]?) : MapI P k w' b l := by
  obtain ⟨⟨es, clock, h1, F, h2, h3⟩, hp⟩ := h
  exact ⟨⟨es, clock, hb.trans h1, F, h2, h3⟩, hp⟩
theorem MapI.step (h : MapI P k w b l) (hb : Step w w') : MapI P k w' b l := h.same (hb.heap h.lt)
theorem MapI.grown {row : Option Nat} (h : MapI P k w b l) (hg : w.grownBy w' row) (hne : some b ≠ row) : MapI P k w' b l := h.same (hg.block b h.lt hne)
theorem insert_last (x : Lit × DataW Value) : ∀ (es : List (Lit × DataW Value)), (∀ y ∈ es, x.1.before y.1 = false) → DataW.insert x es = es ++ [x]
  | [], _ => rfl
  | y :: r, h => by
    unfold DataW.insert
    rw [h y (by simp), insert_last x r (fun z hz => h z (by simp [hz]))]
    rfl
/-- A key behind all that are there. -/
theorem put_last (h : ∀ p ∈ l, p.1 < s) (v : Value) : (mapD l).put (.int .i64 s) (.held v) = mapD (l ++ [(s, v)]) := by
  unfold mapD DataW.put
  have h1 : (l.map fun p => (Lit.int .i64 p.1, DataW.held p.2)).filter (fun p => !p.1.sameKey (.int .i64 s)) = l.map fun p => (Lit.int .i64 p.1, DataW.held p.2) := by
    rw [List.filter_eq_self]
    intro p hp
    obtain ⟨q, hq, rfl⟩ := List.mem_map.1 hp
    have := h q hq
    simp [Lit.sameKey]
    omega
  simp only [h1]
  rw [insert_last]
  · simp
  · intro y hy
    obtain ⟨q, hq, rfl⟩ := List.mem_map.1 hy
    have := h q hq
    simp [Lit.before]
    omega
theorem wf_i64 {s : Int} (h : -9223372036854775808 ≤ s ∧ s ≤ 9223372036854775807) : (Lit.int .i64 s).wf = true := by
  simp [Lit.wf, IntKind.min, IntKind.max, IntKind.signed, IntKind.bits]
  omega
theorem MapI.put_last (h : MapI P k w b l) (hk : P.underlying k = some (.int .i64)) (ht : P.underlying t = some (.map k e)) (hn : l.length < maxLen) (hs : -9223372036854775808 ≤ s ∧ s ≤ 9223372036854775807) (hl : ∀ p ∈ l, p.1 < s) (v : Value) :
    ∃ w', (Instr.mapUpdate t (.map (some b)) (.int .i64 s) v).run P w = .ok () w' ∧ MapI P k w' b (l ++ [(s, v)]) ∧ w.grownBy w' (some b) := by
  obtain ⟨w', hr, ho, hg⟩ := h.1.update (int_keyed hk) ht hn (keyOf_int_mk hk (wf_i64 hs)) (R := rawElem) (val := v) rfl
  refine ⟨w', hr, ⟨?_, ?_⟩, hg⟩
  · rw [Gr.put_last hl v] at ho
    simpa using ho
  · rw [List.pairwise_append]
    exact ⟨h.2, by simp, fun p hp q hq => by simp at hq; subst hq; exact hl p hp⟩
theorem atKey_mapD (z : DataW Value) : (mapD l).atKey (.int .i64 s) z = match l.find? (fun p => p.1 == s) with | some p => .held p.2 | none => z := by
  unfold mapD DataW.atKey
  simp only [List.find?_map]
  have : (fun p : Int × Value => (Lit.int .i64 p.1).sameKey (Lit.int .i64 s)) = fun p => p.1 == s := by
    funext p
    simp [Lit.sameKey]
    by_cases h : p.1 = s <;> simp [h]
  rw [show ((fun p : Lit × DataW Value => p.1.sameKey (Lit.int IntKind.i64 s)) ∘ fun p : Int × Value => (Lit.int IntKind.i64 p.1, DataW.held p.2)) = fun p => p.1 == s from this]
  cases l.find? (fun p => p.1 == s) <;> rfl
/-- What a look-up gives: the entry at the key, or the zero. -/
theorem MapI.look (h : MapI P k w b l) (hk : P.underlying k = some (.int .i64)) (ht : P.underlying t = some (.map k e)) {z : Value} (hz : (zeroValue e).run P w = .ok z w) (hs : -9223372036854775808 ≤ s ∧ s ≤ 9223372036854775807) (c : Bool) :
    ((∀ p ∈ l, p.1 ≠ s) ∧ (Instr.lookup t (.map (some b)) (.int .i64 s) c).run P w = .ok (if c then .tuple #[z, .bool false] else z) w) ∨
    (∃ v, (s, v) ∈ l ∧ (Instr.lookup t (.map (some b)) (.int .i64 s) c).run P w = .ok (if c then .tuple #[v, .bool true] else v) w) := by
  obtain ⟨⟨es, clock, hb, F, _, hD⟩, hp⟩ := h
  rcases Maps.fit_look c (int_keyed hk) ht hz hb F (keyOf_int_mk hk (wf_i64 hs)) with ⟨hrun, _, hat⟩ | ⟨e0, y, _, _, hrun, hRv, hat, _⟩
  · refine .inl ⟨fun p hpl hps => ?_, hrun⟩
    have h1 := hat (.lit (.bool true))
    rw [← hD, atKey_mapD] at h1
    cases hf : l.find? (fun p => p.1 == s) with
    | none => exact absurd (List.find?_eq_none.1 hf p hpl) (by simp [hps])
    | some q => rw [hf] at h1; cases h1
  · refine .inr ⟨e0.val, ?_, hrun⟩
    have h1 := hat (.lit (.bool true))
    simp only [rawElem, Option.some.injEq] at hRv
    subst hRv
    rw [← hD, atKey_mapD] at h1
    cases hf : l.find? (fun p => p.1 == s) with
    | none => rw [hf] at h1; cases h1
    | some q =>
      rw [hf] at h1
      have h2 := List.find?_some hf
      have h3 := List.mem_of_find?_eq_some hf
      simp only [DataW.held.injEq] at h1
      simp only [beq_iff_eq] at h2
      subst h2
      rw [← h1]
      exact h3
theorem MapI.look_at (h : MapI P k w b l) (hk : P.underlying k = some (.int .i64)) (ht : P.underlying t = some (.map k e)) {z v : Value} (hz : (zeroValue e).run P w = .ok z w) (hs : -9223372036854775808 ≤ s ∧ s ≤ 9223372036854775807) (c : Bool) (hv : (s, v) ∈ l) :
    (Instr.lookup t (.map (some b)) (.int .i64 s) c).run P w = .ok (if c then .tuple #[v, .bool true] else v) w := by
  rcases h.look hk ht hz hs c with ⟨hn, _⟩ | ⟨v', hv', hr⟩
  · exact absurd rfl (hn _ hv)
  · have : v' = v := by
      by_cases he : v' = v
      · exact he
      · have hp := List.pairwise_iff_getElem.1 h.2
        obtain ⟨i, hi, e1⟩ := List.getElem_of_mem hv'
        obtain ⟨j, hj, e2⟩ := List.getElem_of_mem hv
        rcases Nat.lt_trichotomy i j with hl | hl | hl
        · have := hp i j hi hj hl
          rw [e1, e2] at this
          simp at this
        · subst hl
          rw [e1] at e2
          exact (Prod.mk.inj e2).2
        · have := hp j i hj hi hl
          rw [e1, e2] at this
          simp at this
    rw [hr, this]
theorem MapI.len (h : MapI P k w b l) (ht : P.underlying t = some (.map k e)) (ty : TypeId) : (Builtin.len_ #[t] ty #[.map (some b)]).run P w = .ok (.int .i64 l.length) w := by
  have := h.1.len ht ty
  rw [this, Maps.size_eq, List.length_map]
theorem intKeys_mapD : intKeys (mapD l) = l.map (·.1) := by
  simp [intKeys, mapD, Go.intOf, Function.comp_def]
theorem sorted_keys {ss : List Int} (hp : l.Pairwise (fun p q => p.1 < q.1)) (h : ss.Perm (intKeys (mapD l))) : ss.mergeSort (fun x y => decide (x ≤ y)) = l.map (·.1) := by
  rw [intKeys_mapD] at h
  have := mergeSort_of_perm_i h
  rw [show (fun x y : Int => decide (x ≤ y)) = leI from rfl, this]
  refine List.mergeSort_of_pairwise ?_
  rw [List.pairwise_map]
  exact hp.imp (fun h => by simp [leI]; omega)
end
/-- Block b is a map whose entries read as xs (by rising keys). -/
def MapT {α : Type} (P : Program) (k : TypeId) (E : Ty α) (w : World) (M : Nat → Prop) (b : Nat) (xs : List (Int × α)) : Prop :=
  ∃ l, MapI P k w b l ∧ l.length = xs.length ∧ ∀ (i : Nat) (p : Int × Value) (x : Int × α), l[i]? = some p → xs[i]? = some x → p.1 = x.1 ∧ ∃ cs, p.2 = .agg cs ∧ E.rep w M cs.toList x.2
section
variable {α : Type} {E : Ty α} {P : Program} {k t e : TypeId} {w w' : World} {M M' : Nat → Prop} {b : Nat} {xs : List (Int × α)} {s : Int}
theorem MapT.made (w : World) : MapT P k E (w.alloc (.map #[] 0)) M w.heap.size [] := ⟨[], MapI.made w, rfl, fun i p x h => by simp at h⟩
theorem MapT.empty (h : w.heap[b]? = some (.map #[] 0)) : MapT P k E w M b [] := ⟨[], MapI.empty h, rfl, fun i p x h => by simp at h⟩
theorem MapT.lt (h : MapT P k E w M b xs) : b < w.heap.size := by obtain ⟨l, h, _⟩ := h; exact h.lt
theorem MapT.keep (h : MapT P k E w M b xs) (hb : w'.heap[b]? = w.heap[b]?) (hk : ∀ c, c < w.heap.size → ¬ M c → w'.heap[c]? = w.heap[c]? ∧ ¬ M' c) : MapT P k E w' M' b xs := by
  obtain ⟨l, h1, h2, h3⟩ := h
  refine ⟨l, h1.same hb, h2, fun i p x hp hx => ?_⟩
  obtain ⟨h4, cs, h5, h6⟩ := h3 i p x hp hx
  exact ⟨h4, cs, h5, E.keep h6 hk⟩
theorem MapT.step (h : MapT P k E w M b xs) (hb : Step w w') : MapT P k E w' M b xs := h.keep (hb.heap h.lt) fun c h1 h2 => ⟨hb.heap h1, h2⟩
theorem MapT.put_last {x : α} {cs : Array Value} (h : MapT P k E w M b xs) (hk : P.underlying k = some (.int .i64)) (ht : P.underlying t = some (.map k e)) (hn : xs.length < maxLen) (hs : -9223372036854775808 ≤ s ∧ s ≤ 9223372036854775807)
    (hl : ∀ p ∈ xs, p.1 < s) (hx : E.rep w M cs.toList x) (hM : M b) :
    ∃ w', (Instr.mapUpdate t (.map (some b)) (.int .i64 s) (.agg cs)).run P w = .ok () w' ∧ MapT P k E w' M b (xs ++ [(s, x)]) ∧ w.grownBy w' (some b) := by
  obtain ⟨l, h1, h2, h3⟩ := h
  obtain ⟨w', hr, hm, hg⟩ := h1.put_last hk ht (by omega) hs (fun p hp => by
    obtain ⟨i, hi, rfl⟩ := List.getElem_of_mem hp
    have hi' : i < xs.length := by omega
    have := (h3 i l[i] xs[i] (List.getElem?_eq_getElem hi) (List.getElem?_eq_getElem hi')).1
    rw [this]
    exact hl _ (List.getElem_mem hi')) (.agg cs)
  refine ⟨w', hr, ⟨_, hm, by simp [h2], fun i p y hp hy => ?_⟩, hg⟩
  have key : ∀ {cs : List Value} {x : α}, E.rep w M cs x → E.rep w' M cs x := fun h => E.kept h fun c h1 h2 => hg.block c h1 (fun e => h2 (by injection e with e; exact e ▸ hM))
  rcases Nat.lt_or_ge i l.length with hi | hi
  · rw [List.getElem?_append_left hi] at hp
    rw [List.getElem?_append_left (by omega)] at hy
    obtain ⟨h4, cs, h5, h6⟩ := h3 i p y hp hy
    exact ⟨h4, cs, h5, key h6⟩
  · rw [List.getElem?_append_right hi] at hp
    rw [List.getElem?_append_right (by omega)] at hy
    have e1 : i - l.length = 0 := by
      rcases hq : i - l.length with _ | m
      · rfl
      · rw [hq] at hp; simp at hp
    rw [e1] at hp
    rw [show i - xs.length = 0 by omega] at hy
    simp at hp hy
    subst hp hy
    exact ⟨rfl, cs, rfl, key hx⟩
theorem MapT.look (h : MapT P k E w M b xs) (hk : P.underlying k = some (.int .i64)) (ht : P.underlying t = some (.map k e)) {z : Value} (hz : (zeroValue e).run P w = .ok z w) (hs : -9223372036854775808 ≤ s ∧ s ≤ 9223372036854775807) (c : Bool) :
    ((∀ p ∈ xs, p.1 ≠ s) ∧ (Instr.lookup t (.map (some b)) (.int .i64 s) c).run P w = .ok (if c then .tuple #[z, .bool false] else z) w) ∨
    (∃ x cs, (s, x) ∈ xs ∧ E.rep w M cs.toList x ∧ (Instr.lookup t (.map (some b)) (.int .i64 s) c).run P w = .ok (if c then .tuple #[.agg cs, .bool true] else .agg cs) w) := by
  obtain ⟨l, h1, h2, h3⟩ := h
  rcases h1.look hk ht hz hs c with ⟨hn, hr⟩ | ⟨v, hv, hr⟩
  · refine .inl ⟨fun p hp => ?_, hr⟩
    obtain ⟨i, hi, rfl⟩ := List.getElem_of_mem hp
    have hi' : i < l.length := by omega
    rw [← (h3 i l[i] xs[i] (List.getElem?_eq_getElem hi') (List.getElem?_eq_getElem hi)).1]
    exact hn _ (List.getElem_mem hi')
  · obtain ⟨i, hi, he⟩ := List.getElem_of_mem hv
    have hi' : i < xs.length := by omega
    obtain ⟨h4, cs, h5, h6⟩ := h3 i l[i] xs[i] (List.getElem?_eq_getElem hi) (List.getElem?_eq_getElem hi')
    rw [he] at h4 h5
    simp only at h4 h5
    subst h5
    refine .inr ⟨xs[i].2, cs, ?_, h6, hr⟩
    rw [h4]
    exact List.getElem_mem hi'
theorem MapT.at (h : MapT P k E w M b xs) (hk : P.underlying k = some (.int .i64)) (ht : P.underlying t = some (.map k e)) {z : Value} (hz : (zeroValue e).run P w = .ok z w) (c : Bool) {i : Nat} (hi : i < xs.length) (hs : -9223372036854775808 ≤ xs[i].1 ∧ xs[i].1 ≤ 9223372036854775807) :
    ∃ cs, E.rep w M cs.toList xs[i].2 ∧ (Instr.lookup t (.map (some b)) (.int .i64 xs[i].1) c).run P w = .ok (if c then .tuple #[.agg cs, .bool true] else .agg cs) w := by
  obtain ⟨l, h1, h2, h3⟩ := h
  have hi' : i < l.length := by omega
  obtain ⟨h4, cs, h5, h6⟩ := h3 i l[i] xs[i] (List.getElem?_eq_getElem hi') (List.getElem?_eq_getElem hi)
  refine ⟨cs, h6, h1.look_at hk ht hz hs c ?_⟩
  rw [← h4, ← h5]
  exact List.getElem_mem hi'
theorem MapT.len (h : MapT P k E w M b xs) (ht : P.underlying t = some (.map k e)) (ty : TypeId) : (Builtin.len_ #[t] ty #[.map (some b)]).run P w = .ok (.int .i64 xs.length) w := by
  obtain ⟨l, h1, h2, _⟩ := h
  rw [h1.len ht ty, h2]
/-- Its keys, sorted. -/
theorem MapT.keys (h : MapT P k E w M b xs) : ∃ n D, w.ownsMap P k rawElem b n D ∧ Maps.size D = xs.length ∧ ∀ ss : List Int, ss.Perm (intKeys D) → ss.mergeSort (fun x y => decide (x ≤ y)) = xs.map (·.1) := by
  obtain ⟨l, h1, h2, h3⟩ := h
  refine ⟨_, _, h1.1, by rw [Maps.size_eq, List.length_map, h2], fun ss hs => ?_⟩
  rw [sorted_keys h1.2 hs]
  refine List.ext_getElem (by simp [h2]) fun i hi hi' => ?_
  simp at hi hi'
  simpa using (h3 i l[i] xs[i] (List.getElem?_eq_getElem hi) (List.getElem?_eq_getElem hi')).1
end
end Go.Gr
namespace Go.Gr
open Go.RowKit
/-- From w to w' only blocks of M have turned. -/
structure Turn (M : Nat → Prop) (w w' : World) : Prop where
  os : w'.os = w.os
  tape : w'.tape = w.tape
  output : w'.output = w.output
  size : w.heap.size ≤ w'.heap.size
  block : ∀ k, k < w.heap.size → ¬ M k → w'.heap[k]? = w.heap[k]?
theorem Turn.of {M : Nat → Prop} {w w' : World} (h : Step w w') : Turn M w w' := ⟨Below.os h, Below.tape h, Below.output h, Below.size h, fun _ h1 _ => Below.block h _ h1⟩
theorem Turn.refl (M : Nat → Prop) (w : World) : Turn M w w := Turn.of (Step.refl w)
theorem Turn.trans {M : Nat → Prop} {a b c : World} (h : Turn M a b) (k : Turn M b c) : Turn M a c :=
  ⟨k.os.trans h.os, k.tape.trans h.tape, k.output.trans h.output, Nat.le_trans h.size k.size, fun i h1 h2 => (k.block i (Nat.lt_of_lt_of_le h1 h.size) h2).trans (h.block i h1 h2)⟩
theorem Turn.then {M : Nat → Prop} {a b c : World} (h : Turn M a b) (k : Step b c) : Turn M a c := h.trans (Turn.of k)
theorem Turn.mono {M M' : Nat → Prop} {w w' : World} (h : Turn M w w') (hM : ∀ b, b < w.heap.size → M b → M' b) : Turn M' w w' := ⟨h.os, h.tape, h.output, h.size, fun b h1 h2 => h.block b h1 fun h3 => h2 (hM b h1 h3)⟩
theorem Turn.alloc {M : Nat → Prop} {w w' : World} (h : Turn M w w') (o : Obj) : Turn M w (w'.alloc o) := h.then ((Step.refl _).alloc o)
theorem Turn.drew {M : Nat → Prop} {w w' : World} (h : Turn M w w') : Turn M w w'.drew := h.then (Step.refl _).drew
theorem Turn.setCell {M : Nat → Prop} {w w' : World} (h : Turn M w w') {p : Addr} (hp : p.block < w.heap.size → M p.block) (u : Value) : Turn M w (w'.setCell p u) := by
  have hb := Below.setCell (B := 0) (Below.refl 0 w') (p := p) (Nat.zero_le _) u
  exact ⟨hb.os.trans h.os, hb.tape.trans h.tape, hb.output.trans h.output, Nat.le_trans h.size hb.size, fun b h1 h2 => (Below.heap_setCell w' p u b (fun e => h2 (e ▸ hp (e ▸ h1)))).trans (h.block b h1 h2)⟩
theorem Turn.grown {M : Nat → Prop} {w w' w2 : World} (h : Turn M w w') {row : Option Nat} (hg : w'.grownBy w2 row) (hr : ∀ k, row = some k → k < w.heap.size → M k) : Turn M w w2 := by
  have hb := Below.grown (B := 0) (Below.refl 0 w') hg (Nat.zero_le _) (fun _ _ => Nat.zero_le _)
  exact ⟨hb.os.trans h.os, hb.tape.trans h.tape, hb.output.trans h.output, Nat.le_trans h.size hb.size, fun b h1 h2 => (hg.block b (Nat.lt_of_lt_of_le h1 h.size) (fun e => h2 (hr b e.symm h1))).trans (h.block b h1 h2)⟩
theorem Turn.kept {M : Nat → Prop} {w w' : World} (h : Turn M w w') : Kept M w w' := h.block
theorem Turn.step {M : Nat → Prop} {w0 w w' : World} (hs : Step w0 w) (h : Turn M w w') (hM : ∀ b, M b → w0.heap.size ≤ b) : Step w0 w' :=
  Step.of ⟨h.os.trans (Below.os hs), h.tape.trans (Below.tape hs), h.output.trans (Below.output hs), Nat.le_trans hs.size h.size, fun b hb => (h.block b (Nat.lt_of_lt_of_le hb hs.size) (fun e => by have := hM b e; omega)).trans (hs.heap hb)⟩
theorem Turn.cell {M : Nat → Prop} {w w' : World} (h : Turn M w w') {b : Nat} (hb : b < w.heap.size) (hM : ¬ M b) (o : Nat) : w'.cell? ⟨b, o, none⟩ = w.cell? ⟨b, o, none⟩ := cell_eq (h.block b hb hM)
theorem wp_code {P : Program} {c : Code} {K : Exit → Act → World → Prop} {a : Act} {w : World} (F : World → Prop) (hF : F w) (h : ∀ w', F w' → Code.wp P c K a w') : Code.wp P c K a w := h w hF
theorem wp_mapUpdate_T {P : Program} {α : Type} {E : Ty α} {w : World} {M : Nat → Prop} {k t e : TypeId} {b : Nat} {xs : List (Int × α)} {s : Int} {y : α} {cs : Array Value} {o : Oper} {a : Act} {K : Act → World → Prop} {Q : Exit → Act → World → Prop}
    (m x v : Operand) (ho : o.op = Op.mapUpdate t m x v) (h : MapT P k E w M b xs) (hk : P.underlying k = some (.int .i64)) (ht : P.underlying t = some (.map k e)) (hn : xs.length < maxLen) (hs : -9223372036854775808 ≤ s ∧ s ≤ 9223372036854775807)
    (hl : ∀ p ∈ xs, p.1 < s) (hx : E.rep w M cs.toList y) (hM : M b) (hm : a.eval m = .map (some b)) (hxx : a.eval x = .int .i64 s) (hv : a.eval v = .agg cs)
    (hK : ∀ w', MapT P k E w' M b (xs ++ [(s, y)]) → w.grownBy w' (some b) → K (a.put o.dst undef) w') : o.wp P a w K Q := by
  obtain ⟨w', hrun, h1, h2⟩ := h.put_last hk ht hn hs hl hx hM
  unfold Oper.wp
  simp [execOp, ho, hm, hxx, hv, hrun, Result.andThen]
  exact hK w' h1 h2
end Go.Gr

namespace Go.Gr
open Go.Maps Go.RowKit
set_option linter.unusedSimpArgs false
theorem filter_pair {α β : Type} {f : α → Bool} {g : β → Bool} {R : α → β → Prop} : ∀ (l : List α) (xs : List β), l.length = xs.length → (∀ (i : Nat) (p : α) (x : β), l[i]? = some p → xs[i]? = some x → R p x ∧ f p = g x) →
    (l.filter f).length = (xs.filter g).length ∧ ∀ (i : Nat) (p : α) (x : β), (l.filter f)[i]? = some p → (xs.filter g)[i]? = some x → R p x
  | [], [], _, _ => ⟨rfl, fun i p x h => by simp at h⟩
  | [], _ :: _, h, _ => by simp at h
  | _ :: _, [], h, _ => by simp at h
  | a :: l, b :: xs, hl, h => by
    obtain ⟨h1, h2⟩ := filter_pair l xs (by simpa using hl) (fun i p x hp hx => h (i + 1) p x (by simpa using hp) (by simpa using hx))
    obtain ⟨h3, h4⟩ := h 0 a b rfl rfl
    rw [List.filter_cons, List.filter_cons, h4]
    by_cases hg : g b = true
    · rw [if_pos hg, if_pos hg]
      refine ⟨by simp [h1], fun i p x hp hx => ?_⟩
      rcases i with _ | i
      · simp at hp hx
        subst hp hx
        exact h3
      · exact h2 i p x (by simpa using hp) (by simpa using hx)
    · rw [if_neg hg, if_neg hg]
      exact ⟨h1, h2⟩
section
variable {P : Program} {k t e : TypeId} {w w' : World} {b : Nat} {l : List (Int × Value)} {s : Int}
theorem del_mapD : (mapD l).del (.int .i64 s) = mapD (l.filter fun p => p.1 != s) := by
  unfold mapD DataW.del
  simp only [List.filter_map]
  congr 2
  refine List.filter_congr fun p _ => ?_
  by_cases h : p.1 = s <;> simp [Lit.sameKey, bne, h]
theorem MapI.drop (h : MapI P k w b l) (hk : P.underlying k = some (.int .i64)) (ht : P.underlying t = some (.map k e)) (hs : -9223372036854775808 ≤ s ∧ s ≤ 9223372036854775807) (ty : TypeId) :
    ∃ w', (Builtin.delete_ #[t, k] ty #[.map (some b), .int .i64 s]).run P w = .ok (.tuple #[]) w' ∧ MapI P k w' b (l.filter fun p => p.1 != s) ∧ w.grownBy w' (some b) := by
  obtain ⟨w', hr, ho, hg⟩ := h.1.drop (int_keyed hk) ht (keyOf_int_mk hk (wf_i64 hs)) ty
  rw [del_mapD] at ho
  refine ⟨w', hr, ⟨?_, h.2.filter _⟩, hg.grown⟩
  obtain ⟨es, clock, hb, F, _, hD⟩ := ho
  refine ⟨es, clock, hb, F, ?_, hD⟩
  have h1 := length_read (P := P) (k := k) (R0 := rawElem) es
  have h2 : ((l.filter fun p => p.1 != s).map fun p => (Lit.int .i64 p.1, DataW.held p.2)) = (es.toList.map (WideElems.rg P k rawElem)).foldr DataW.insert [] := by
    unfold mapD at hD
    injection hD
  rw [← h2, List.length_map] at h1
  omega
end
section
variable {α : Type} {E : Ty α} {P : Program} {k t e : TypeId} {w w' : World} {M M' : Nat → Prop} {b : Nat} {xs : List (Int × α)} {s : Int}
theorem MapT.drop (h : MapT P k E w M b xs) (hk : P.underlying k = some (.int .i64)) (ht : P.underlying t = some (.map k e)) (hs : -9223372036854775808 ≤ s ∧ s ≤ 9223372036854775807) (hM : M b) (ty : TypeId) :
    ∃ w', (Builtin.delete_ #[t, k] ty #[.map (some b), .int .i64 s]).run P w = .ok (.tuple #[]) w' ∧ MapT P k E w' M b (xs.filter fun p => p.1 != s) ∧ w.grownBy w' (some b) := by
  obtain ⟨l, h1, h2, h3⟩ := h
  obtain ⟨w', hr, hm, hg⟩ := h1.drop hk ht hs ty
  obtain ⟨h4, h5⟩ := filter_pair (f := fun p : Int × Value => p.1 != s) (g := fun p : Int × α => p.1 != s) (R := fun p x => p.1 = x.1 ∧ ∃ cs, p.2 = .agg cs ∧ E.rep w M cs.toList x.2) l xs h2 (fun i p x hp hx => ⟨h3 i p x hp hx, by rw [(h3 i p x hp hx).1]⟩)
  refine ⟨w', hr, ⟨_, hm, h4, fun i p x hp hx => ?_⟩, hg⟩
  obtain ⟨h6, cs, h7, h8⟩ := h5 i p x hp hx
  exact ⟨h6, cs, h7, E.kept h8 fun c h1 h2 => hg.block c h1 (fun e => h2 (by injection e with e; exact e ▸ hM))⟩
theorem wpList_delete_T {ops : Array Oper} {rest : List Oper} {o : Oper} {a : Act} {Q : Exit → Act → World → Prop} (hg : o.guard = none) (m x : Operand) (hop : o.op = .call { callee := .builtin .delete, args := #[m, x], argTypes := #[t, k] })
    (h : MapT P k E w M b xs) (hk : P.underlying k = some (.int .i64)) (ht : P.underlying t = some (.map k e)) (hs : -9223372036854775808 ≤ s ∧ s ≤ 9223372036854775807) (hM : M b) (hm : a.eval m = .map (some b)) (hx : a.eval x = .int .i64 s)
    (hK : ∀ w', MapT P k E w' M b (xs.filter fun p => p.1 != s) → w.grownBy w' (some b) → wpList P ops Q rest (a.put o.dst (.tuple #[])) w') : wpList P ops Q (o :: rest) a w := by
  refine wpList_plain hg fun K' hK' => ?_
  obtain ⟨w', hrun, r1, r2⟩ := h.drop hk ht hs hM o.type
  unfold Oper.wp
  simp [execOp, hop, resolve, invoke, builtin, hm, hx, hrun, Result.andThen]
  exact hK' _ _ (hK w' r1 r2)
end
end Go.Gr

namespace Go.Gr
open Go.RowKit
set_option linter.unusedSimpArgs false
/-- A byte as it stands in a cell. -/
abbrev bv (b : UInt8) : Value := .int .u8 (b.toNat : Int)
/-- A row of bytes that has its block for itself, from its first cell on. -/
def BR (e : TypeId) (w : World) (v : Value) (xs : List UInt8) : Prop := xs.length ≤ lim ∧ w.ownsRow 0 e 1 v xs.length (xs.map bv)
/-- A slice's value as it is. -/
def Ty.raw : Ty Value where
  n := 1
  rep := fun _ _ cs x => cs = [x] ∧ x.oneCell' = true
  len := fun h => by rw [h.1]; rfl
  one := fun h u hu => by rw [h.1] at hu; simp at hu; subst hu; exact h.2
  keep := fun h _ => h
theorem Ty.flat_raw : Ty.raw.Flat := fun h => h
section
variable {e : TypeId} {w w' : World} {M : Nat → Prop} {B : Nat} {v u : Value} {xs zs : List UInt8}
theorem BR.own (h : BR e w v xs) : Own Ty.byte e w M 0 v xs := by
  refine ⟨h.1, _, h.2, fun i hi => ?_⟩
  show grp _ 1 i = _
  unfold grp
  apply List.ext_getElem?
  intro j
  rw [List.getElem?_take, List.getElem?_drop]
  rcases j with _ | j
  · simp [hi]
  · simp
theorem BR.of (h : Own Ty.byte e w M B v xs) : BR e w v xs := by
  obtain ⟨hl, cells, ho, hr⟩ := h
  have hc : cells = xs.map bv := by
    have h1 : cells.length = xs.length := by have := ho.1; simpa [Ty.byte] using this
    refine List.ext_getElem (by simp [h1]) fun i hi hi' => ?_
    have h2 : grp cells 1 i = [bv xs[i]] := hr i (by omega)
    have h3 := (grp_getElem (cells := cells) (n := 1) (i := i) (j := 0) (u := bv xs[i]) (by rw [h2]; rfl)).1
    simp only [Nat.mul_one, Nat.add_zero] at h3
    rw [List.getElem?_eq_getElem hi] at h3
    simpa using h3
  subst hc
  refine ⟨hl, ho.1, ?_⟩
  rcases ho.2 with hn | ⟨g, cap, cur, rfl, _, rest⟩
  · exact .inl hn
  · exact .inr ⟨g, cap, cur, rfl, Nat.zero_le _, rest⟩
theorem BR.le (h : BR e w v xs) : xs.length ≤ lim := h.1
theorem BR.lt (h : BR e w v xs) {g : Nat} (hg : v.ownBlock = some g) : g < w.heap.size := (own_lt h.2 hg).2
theorem BR.kept (h : BR e w v xs) (hk : ∀ g, v.ownBlock = some g → w'.heap[g]? = w.heap[g]?) : BR e w' v xs := ⟨h.1, own_kept h.2 hk⟩
theorem BR.step (h : BR e w v xs) (hs : Step w w') : BR e w' v xs := h.kept fun _ hg => hs.heap (h.lt hg)
theorem BR.turn {M : Nat → Prop} (h : BR e w v xs) (hs : Turn M w w') (hM : ∀ g, v.ownBlock = some g → ¬ M g) : BR e w' v xs := h.kept fun g hg => hs.block g (h.lt hg) (hM g hg)
theorem BR.val (h : BR e w v xs) : ∃ a c, v = .slice a xs.length c := by
  rcases h.2.2 with ⟨hv, h0⟩ | ⟨g, cap, cur, hv, _⟩
  · exact ⟨none, 0, by rw [hv, h0]⟩
  · exact ⟨_, cap, hv⟩
theorem BR.one (h : BR e w v xs) : v.oneCell' = true := by
  obtain ⟨a, c, rfl⟩ := h.val
  rfl
theorem BR.rep (h : BR e w v xs) (hM : ∀ b, v.ownBlock = some b → ¬ M b) : Ty.bytes.rep w M [v] xs := Own.rep' h.own hM
theorem BR.at {a : Option Addr} {n c k : Nat} (h : BR e w (.slice a n c) xs) (hk : k < xs.length) :
    ∃ g, a = some ⟨g, 0, none⟩ ∧ g < w.heap.size ∧ w.cell? ⟨g, k, none⟩ = some (bv xs[k]) ∧ w.frozen? ⟨g, k, none⟩ = false := by
  rcases h.2.2 with ⟨hv, h0⟩ | ⟨g, cap, cur, hv, hb, hg, hnc, hcm, hcs, htake⟩
  · omega
  · obtain ⟨rfl, rfl, rfl⟩ : a = some ⟨g, 0, none⟩ ∧ n = xs.length ∧ c = cap := by simpa using hv
    refine ⟨g, rfl, (Array.getElem?_eq_some_iff.1 hg).1, ?_, frozen_of_row w g k cur e hg⟩
    rw [cell_of_row w g k cur e (0, 0) hg]
    have h1 : (xs.map bv)[k]? = some (bv xs[k]) := by simp [hk]
    rw [← htake, List.getElem?_take, if_pos (by omega)] at h1
    simpa using h1
theorem BR.store {g n c k : Nat} (h : BR e w (.slice (some ⟨g, 0, none⟩) n c) xs) (b : UInt8) : BR e (w.setCell ⟨g, k, none⟩ (bv b)) (.slice (some ⟨g, 0, none⟩) n c) (xs.set k b) := by
  have hn : n = xs.length := by
    obtain ⟨a, c', hv⟩ := h.val
    injection hv
  subst hn
  have := (h.2.stored k (bv b)).1
  refine ⟨by simpa using h.1, ?_⟩
  rw [List.length_set, List.map_set]
  exact this
/-- What is shorter of the same block. -/
theorem BR.pre {n c : Nat} (h : BR e w (.slice (some ⟨B, 0, none⟩) n c) xs) (hz : zs <+: xs) : BR e w (.slice (some ⟨B, 0, none⟩) zs.length c) zs := by
  obtain ⟨t, rfl⟩ := hz
  rcases h.2.2 with ⟨hv, h0⟩ | ⟨g, cap, cur, hv, hb, hg, hnc, hcm, hcs, htake⟩
  · cases hv
  · obtain ⟨rfl, rfl, rfl⟩ : B = g ∧ n = (zs ++ t).length ∧ c = cap := by simpa using hv
    simp only [List.length_append] at hnc htake
    refine ⟨by have := h.1; simp at this; omega, by simp, .inr ⟨B, c, cur, rfl, Nat.zero_le _, hg, by omega, hcm, hcs, ?_⟩⟩
    have := congrArg (List.take (zs.length * 1)) htake
    rw [List.take_take, List.map_append, List.take_left' (by simp)] at this
    rw [← this]
    congr 1
    omega
/-- Of two rows of one block the room is the same. -/
theorem BR.cap {g n n' c c' : Nat} (h : BR e w (.slice (some ⟨g, 0, none⟩) n c) xs) (h' : BR e w (.slice (some ⟨g, 0, none⟩) n' c') zs) : c = c' := by
  rcases h.2.2 with ⟨hv, _⟩ | ⟨g1, cap, cur, hv, _, hg, _, _, hcs, _⟩
  · cases hv
  rcases h'.2.2 with ⟨hv', _⟩ | ⟨g2, cap', cur', hv', _, hg', _, _, hcs', _⟩
  · cases hv'
  obtain ⟨rfl, _, rfl⟩ : g = g1 ∧ n = xs.length ∧ c = cap := by simpa using hv
  obtain ⟨rfl, _, rfl⟩ : g = g2 ∧ n' = zs.length ∧ c' = cap' := by simpa using hv'
  rw [hg] at hg'
  simp only [Option.some.injEq, Obj.cells.injEq] at hg'
  obtain ⟨rfl, _⟩ := hg'
  omega
theorem BR.form (h : BR e w v xs) {g : Nat} (hg : v.ownBlock = some g) : ∃ c, v = .slice (some ⟨g, 0, none⟩) xs.length c := by
  rcases h.2.2 with ⟨hv, _⟩ | ⟨g1, cap, cur, hv, _⟩
  · rw [hv] at hg; simp [Value.ownBlock] at hg
  · rw [hv] at hg
    obtain rfl : g1 = g := by simpa [Value.ownBlock] using hg
    exact ⟨cap, hv⟩
end
section
variable {P : Program} {e t : TypeId} {w : World} {v sv : Value} {xs ys : List UInt8}
/-- An append: what else stands in the row's block stays, as long as it is a beginning of what is there behind it. -/
theorem run_append_br (ty : TypeId) (hT : SliceTy P t e 1) (hacc : BR e w v xs) (hsrc : Src Ty.byte w (fun _ => False) sv ys) (hpos : 0 < ys.length) (hlim : xs.length + ys.length ≤ lim) :
    ∃ v' w', (Builtin.append_ #[t, t] ty #[v, sv]).run P w = .ok v' w' ∧ BR e w' v' (xs ++ ys) ∧ w.grownBy w' v.ownBlock ∧ (v'.ownBlock = v.ownBlock ∨ v'.ownBlock = some w.heap.size) ∧
      ∀ u zs, BR e w u zs → (∀ g, u.ownBlock = some g → v.ownBlock = some g → zs <+: xs ++ ys) → BR e w' u zs := by
  obtain ⟨v', w', hrun, h2, h3, h4⟩ := run_append_acc (P := P) (M := fun _ => False) ty (E := Ty.byte) hT (hacc.own (M := fun _ => False)) (by
    obtain ⟨a, c, h1, h2⟩ := hsrc
    refine ⟨a, c, h1, fun hn => ?_⟩
    obtain ⟨b, off, h3, h4⟩ := h2 hn
    exact ⟨b, off, h3, h4⟩) hlim (Nat.zero_le _)
  refine ⟨v', w', hrun, BR.of h2, h3, h4, fun u zs hu hz => ?_⟩
  by_cases hsame : ∃ g, u.ownBlock = some g ∧ v.ownBlock = some g
  · obtain ⟨g, hug, hvg⟩ := hsame
    have hzs := hz g hug hvg
    obtain ⟨cu, rfl⟩ := hu.form hug
    obtain ⟨cv, rfl⟩ := hacc.form hvg
    obtain rfl := hacc.cap hu
    obtain ⟨A, c, rfl, hs⟩ := hsrc
    obtain ⟨b, off, rfl, hc⟩ := hs hpos
    have hT' := hT
    obtain ⟨ht, i, z, hi, hz0, hsize, hzc, hp, hby⟩ := hT
    obtain ⟨news, hnl, hnc, hn1, hnr⟩ := all_cells Ty.byte ys hc
    have hadd : ∀ j u, news[j]? = some u → w.cell? ((⟨b, off, none⟩ : Addr).add j) = some u := fun j u hu => by
      have := hnc j u hu
      unfold Addr.add
      split
      · rename_i h0; subst h0; simpa using this
      · exact this
    by_cases hroom : xs.length + ys.length ≤ cv
    · obtain ⟨_, _, _, cur, hv, _, hg, hnc2, hcm, hcs, htake⟩ : ∃ (_ : True) (_ : True) (_ : True) (cur : Array Value), True ∧ True ∧ w.heap[g]? = some (.cells cur e (0, 0)) ∧ xs.length ≤ cv ∧ cv ≤ maxLen ∧ cur.size = cv * 1 ∧ cur.toList.take (xs.length * 1) = xs.map bv := by
        rcases hacc.2.2 with ⟨hv, _⟩ | ⟨g1, cap, cur, hv, _, rest⟩
        · cases hv
        · obtain ⟨rfl, rfl⟩ : g = g1 ∧ cv = cap := by simpa using hv
          exact ⟨trivial, trivial, trivial, cur, trivial, trivial, rest⟩
      have hr := run_append_room (P := P) w t ty e i ht hi g xs.length cv cur hg ⟨b, off, none⟩ ys.length c news (by rw [hnl, hsize]; rfl) hadd hn1 hroom (by rw [hsize, hnl, hcs]; simp [Ty.byte]; omega)
      rw [hr] at hrun
      obtain ⟨rfl, _⟩ : Value.slice (some ⟨g, 0, none⟩) (xs.length + ys.length) cv = v' ∧ True := by
        injection hrun with h5
        exact ⟨h5, trivial⟩
      exact (BR.of h2).pre hzs
    · have holds : ∀ j u, (xs.map bv)[j]? = some u → w.cell? ((⟨g, 0, none⟩ : Addr).add j) = some u := hacc.2.cells (g := g) rfl
      have hr := run_append_grow (P := P) w t ty e i z ht hi hz0 ⟨g, 0, none⟩ xs.length cv (xs.map bv) (by rw [hsize]; simp) holds ⟨b, off, none⟩ ys.length c news (by rw [hnl, hsize]; rfl) hadd (by omega) (by rw [lim_eq] at hlim; omega)
        (growslice_fits (by omega) (by rw [lim_eq] at hlim; have : (xs.length + ys.length) * i.bytes ≤ 68719476736 * 2048 := Nat.mul_le_mul hlim hby; omega))
      rw [hr] at hrun
      injection hrun with h5 h6
      subst h6
      exact hu.kept fun g' hg' => heap_alloc_old w.drew _ (hu.lt hg')
  · exact hu.kept fun g hg => h3.block g (hu.lt hg) (fun e => hsame ⟨g, hg, e.symm⟩)
theorem wp_append_br {o : Oper} {a : Act} {K : Act → World → Prop} {Q : Exit → Act → World → Prop} (s x : Operand)
    (ho : o.op = .call { callee := .builtin .append, args := #[s, x], argTypes := #[t, t] }) (hT : SliceTy P t e 1) (hacc : BR e w v xs) (hsrc : Src Ty.byte w (fun _ => False) sv ys) (hpos : 0 < ys.length) (hlim : xs.length + ys.length ≤ lim) (hs : a.eval s = v) (hx : a.eval x = sv)
    (h : ∀ v' w', BR e w' v' (xs ++ ys) → w.grownBy w' v.ownBlock → (v'.ownBlock = v.ownBlock ∨ v'.ownBlock = some w.heap.size) →
      (∀ u zs, BR e w u zs → (∀ g, u.ownBlock = some g → v.ownBlock = some g → zs <+: xs ++ ys) → BR e w' u zs) → K (a.put o.dst v') w') : o.wp P a w K Q := by
  obtain ⟨v', w', hrun, h2, h3, h4, h5⟩ := run_append_br (P := P) o.type hT hacc hsrc hpos hlim
  unfold Oper.wp execOp
  simp only [ho, resolve, invoke, builtin, Sem.run_bind, Sem.run_pure, Result.andThen_ok, List.map_toArray, List.map_cons, List.map_nil, hs, hx, hrun]
  exact h v' w' h2 h3 h4 h5
theorem wpList_append_br {ops : Array Oper} {rest : List Oper} {o : Oper} {a : Act} {Q : Exit → Act → World → Prop} (hgd : o.guard = none) (s x : Operand)
    (ho : o.op = .call { callee := .builtin .append, args := #[s, x], argTypes := #[t, t] }) (hT : SliceTy P t e 1) (hacc : BR e w v xs) (hsrc : Src Ty.byte w (fun _ => False) sv ys) (hpos : 0 < ys.length) (hlim : xs.length + ys.length ≤ lim) (hs : a.eval s = v) (hx : a.eval x = sv)
    (h : ∀ v' w', BR e w' v' (xs ++ ys) → w.grownBy w' v.ownBlock → (v'.ownBlock = v.ownBlock ∨ v'.ownBlock = some w.heap.size) →
      (∀ u zs, BR e w u zs → (∀ g, u.ownBlock = some g → v.ownBlock = some g → zs <+: xs ++ ys) → BR e w' u zs) → wpList P ops Q rest (a.put o.dst v') w') : wpList P ops Q (o :: rest) a w :=
  wpList_plain hgd fun _ hK => wp_append_br s x ho hT hacc hsrc hpos hlim hs hx fun v' w' h1 h2 h3 h4 => hK _ _ (h v' w' h1 h2 h3 h4)
end
end Go.Gr

namespace Go.Proofs.YthebdlkmoailaaaGreatDoor
open Go.RowKit Go.Gr Go.Maps
set_option linter.unusedSimpArgs false
set_option linter.unusedVariables false
/-- A row of the call's own may be appended to another. -/
theorem own_src {α : Type} {E : Ty α} {e : TypeId} {w : World} {M M' : Nat → Prop} {B : Nat} {v : Value} {xs : List α} (h : Gr.Own E e w M B v xs) (hM : ∀ b, M' b → M b) : Src E w M' v xs := by
  obtain ⟨hl, cells, ho, hr⟩ := h
  rcases ho.2 with ⟨rfl, h0⟩ | ⟨g, cap, cur, rfl, hb, hg, hnc, hcm, hcs, htake⟩
  · exact ⟨none, 0, by rw [h0], fun hn => by omega⟩
  · refine ⟨some ⟨g, 0, none⟩, cap, rfl, fun hn => ⟨g, 0, rfl, fun i hi => ⟨grp cells E.n i, E.less (hr i hi) (fun b _ hb => .inl (hM b hb)), fun j u hu => ?_⟩⟩⟩
    obtain ⟨h1, h2⟩ := grp_getElem hu
    rw [cell_of_row w g _ cur e (0, 0) hg]
    rw [← htake, List.getElem?_take] at h1
    split at h1
    · simpa using h1
    · cases h1
theorem own_slice {α : Type} {E : Ty α} {e : TypeId} {w : World} {M : Nat → Prop} {B : Nat} {v : Value} {xs : List α} (h : Gr.Own E e w M B v xs) : (Ty.slice E).rep w (fun _ => False) [v] xs :=
  (Gr.Own.less h (M' := fun _ => False) (fun _ _ h => h.elim)).rep' (fun _ _ h => h)
end Go.Proofs.YthebdlkmoailaaaGreatDoor
