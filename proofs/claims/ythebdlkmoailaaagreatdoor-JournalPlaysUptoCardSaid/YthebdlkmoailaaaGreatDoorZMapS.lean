/-
  Words for maps that a call has made: keys are strings, elements are read by a relation. No program is named here.
-/
import Derived.Test.YthebdlkmoailaaaGreatDoorZP2
import Derived.Test.YthebdlkmoailaaaGreatDoorZP3
import Derived.Maps.RangeWalk
import Derived.Sort.KeysCollected
import Derived.StringKeys
set_option linter.unusedVariables false
set_option linter.unusedSimpArgs false
namespace Go.Gr
open Go.Maps Go.RowKit
open Go.Proofs (encStr)
set_option linter.unusedSimpArgs false
set_option linter.unusedVariables false
theorem cmpB_before : ∀ a b : List UInt8, bytesBefore a b = decide (cmpB a b < 0)
  | [], [] => rfl
  | [], _ :: _ => rfl
  | _ :: _, [] => rfl
  | x :: xs, y :: ys => by
    unfold bytesBefore cmpB
    rw [cmpB_before xs ys]
    by_cases h : x < y
    · simp [h]
    · by_cases h2 : y < x
      · have hne : x ≠ y := fun e => by subst e; exact h h2
        simp [h, h2, hne]
      · have : x = y := UInt8.le_antisymm (UInt8.not_lt.1 h2) (UInt8.not_lt.1 h)
        subst this
        simp [h]
theorem cmpB_lt : ∀ a b : List UInt8, cmpB a b < 0 ↔ a < b
  | [], [] => by simp [cmpB]
  | [], _ :: _ => by simp [cmpB]
  | _ :: _, [] => by simp [cmpB]
  | x :: xs, y :: ys => by
    rw [List.cons_lt_cons_iff]
    unfold cmpB
    by_cases h : x < y
    · simp [h]
    · by_cases h2 : y < x
      · have hne : x ≠ y := fun e => by subst e; exact h h2
        simp [h, h2, hne]
      · have : x = y := UInt8.le_antisymm (UInt8.not_lt.1 h2) (UInt8.not_lt.1 h)
        subst this
        simp [h, cmpB_lt xs ys]
/-! ### lists by rising keys, under another name of the elements -/
section
variable {α β : Type} {key : α → List UInt8} {key' : β → List UInt8} {f : α → β}
theorem insK_map (hf : ∀ a, key' (f a) = key a) (x : α) (l : List α) : (insK key x l).map f = insK key' (f x) (l.map f) := by
  induction l with
  | nil => rfl
  | cons y r ih =>
    simp only [insK, List.map_cons, hf]
    split
    · rfl
    · rw [List.map_cons, ih]
theorem dropK_map (hf : ∀ a, key' (f a) = key a) (k : List UInt8) (l : List α) : (dropK key k l).map f = dropK key' k (l.map f) := by
  unfold dropK
  rw [List.filter_map]
  congr 1
  refine List.filter_congr fun p _ => ?_
  simp [hf]
theorem putK_map (hf : ∀ a, key' (f a) = key a) (x : α) (l : List α) : (putK key x l).map f = putK key' (f x) (l.map f) := by
  unfold putK
  rw [insK_map hf, dropK_map hf, hf]
theorem getK_map (hf : ∀ a, key' (f a) = key a) (l : List α) (k : List UInt8) : getK key' (l.map f) k = (getK key l k).map f := by
  unfold getK
  rw [List.find?_map]
  congr 2
  funext p
  simp [hf]
theorem rising_map (hf : ∀ a, key' (f a) = key a) {l : List α} : Rising key' (l.map f) ↔ Rising key l := by
  unfold Rising
  rw [List.pairwise_map]
  simp only [hf]
end
/-- The datum of entries, by rising keys. -/
abbrev mapDS (l : List (List UInt8 × Value)) : DataW Value := .map (l.map fun p => (Lit.string p.1, DataW.held p.2))
/-- Block b is a map with just these entries. -/
def MapS (P : Program) (k : TypeId) (w : World) (b : Nat) (l : List (List UInt8 × Value)) : Prop :=
  w.ownsMap P k rawElem b l.length (mapDS l) ∧ Rising Prod.fst l
section
variable {P : Program} {k t e : TypeId} {w w' : World} {b : Nat} {l : List (List UInt8 × Value)} {s : List UInt8}
theorem MapS.empty (h : w.heap[b]? = some (.map #[] 0)) : MapS P k w b [] := by
  obtain ⟨es, clock, h1, F, h2, h3⟩ := World.ownsMap_made w P k rawElem
  rw [heap_alloc_new] at h1
  simp only [Option.some.injEq, Obj.map.injEq] at h1
  obtain ⟨rfl, rfl⟩ := h1
  exact ⟨⟨_, _, h, F, h2, h3⟩, List.Pairwise.nil⟩
theorem MapS.lt (h : MapS P k w b l) : b < w.heap.size := h.1.lt
theorem MapS.same (h : MapS P k w b l) (hb : w'.heap[b]? = w.heap[b]?) : MapS P k w' b l := by
  obtain ⟨⟨es, clock, h1, F, h2, h3⟩, hp⟩ := h
  exact ⟨⟨es, clock, hb.trans h1, F, h2, h3⟩, hp⟩
theorem insert_mapS (x : List UInt8 × Value) : ∀ l : List (List UInt8 × Value), DataW.insert (Lit.string x.1, DataW.held x.2) (l.map fun p => (Lit.string p.1, DataW.held p.2)) = (insK Prod.fst x l).map fun p => (Lit.string p.1, DataW.held p.2)
  | [] => rfl
  | y :: r => by
    unfold insK
    rw [List.map_cons, DataW.insert, insert_mapS x r]
    show (if bytesBefore x.1 y.1 = true then _ else _) = _
    rw [cmpB_before]
    by_cases h : cmpB x.1 y.1 < 0
    · simp [h]
    · simp [h]
theorem filter_mapS (s : List UInt8) (l : List (List UInt8 × Value)) : (l.map fun p => (Lit.string p.1, DataW.held p.2)).filter (fun p => !p.1.sameKey (.string s)) = (dropK Prod.fst s l).map fun p => (Lit.string p.1, DataW.held p.2) := by
  unfold dropK
  rw [List.filter_map]
  congr 1
  refine List.filter_congr fun p _ => ?_
  by_cases h : p.1 = s <;> simp [Lit.sameKey, h]
theorem put_mapS (v : Value) : (mapDS l).put (.string s) (.held v) = mapDS (putK Prod.fst (s, v) l) := by
  unfold mapDS DataW.put putK
  simp only
  rw [filter_mapS]
  exact congrArg _ (insert_mapS (s, v) _)
theorem del_mapS : (mapDS l).del (.string s) = mapDS (dropK Prod.fst s l) := by
  unfold mapDS DataW.del
  simp only
  rw [filter_mapS]
theorem atKey_mapS (z : DataW Value) : (mapDS l).atKey (.string s) z = match getK Prod.fst l s with | some p => .held p.2 | none => z := by
  unfold mapDS DataW.atKey getK
  simp only [List.find?_map]
  have : ((fun p : Lit × DataW Value => p.1.sameKey (Lit.string s)) ∘ fun p : List UInt8 × Value => (Lit.string p.1, DataW.held p.2)) = fun p => decide (p.1 = s) := by
    funext p
    by_cases h : p.1 = s <;> simp [Lit.sameKey, h]
  rw [this]
  cases l.find? (fun p => decide (p.1 = s)) <;> rfl
theorem owns_len {n : Nat} (h : w.ownsMap P k rawElem b n (mapDS l)) : w.ownsMap P k rawElem b l.length (mapDS l) := by
  obtain ⟨es, clock, hb, F, _, hD⟩ := h
  refine ⟨es, clock, hb, F, ?_, hD⟩
  have h1 := length_read (P := P) (k := k) (R0 := rawElem) es
  have h2 : (l.map fun p => (Lit.string p.1, DataW.held p.2)) = (es.toList.map (WideElems.rg P k rawElem)).foldr DataW.insert [] := by
    unfold mapDS at hD
    injection hD
  rw [← h2, List.length_map] at h1
  omega
theorem keyOf_enc (hk : P.underlying k = some .string) (hs : s.length ≤ maxLen) : keyOf P k (encStr s) = some (.string s) := by
  have := Go.WideMaps.keyOf_string_mk (P := P) (k := k) hk (s := ⟨s.toArray⟩) (by simpa [ByteArray.size] using hs)
  simpa using this
theorem MapS.put (h : MapS P k w b l) (hk : P.underlying k = some .string) (ht : P.underlying t = some (.map k e)) (hn : l.length < maxLen) (hs : s.length ≤ maxLen) (v : Value) :
    ∃ w', (Instr.mapUpdate t (.map (some b)) (encStr s) v).run P w = .ok () w' ∧ MapS P k w' b (putK Prod.fst (s, v) l) ∧ w.grownBy w' (some b) := by
  obtain ⟨w', hr, ho, hg⟩ := h.1.update (string_keyed hk) ht hn (keyOf_enc hk hs) (R := rawElem) (val := v) rfl
  rw [put_mapS] at ho
  exact ⟨w', hr, ⟨owns_len ho, h.2.put⟩, hg⟩
theorem MapS.drop (h : MapS P k w b l) (hk : P.underlying k = some .string) (ht : P.underlying t = some (.map k e)) (hs : s.length ≤ maxLen) (ty : TypeId) :
    ∃ w', (Builtin.delete_ #[t, k] ty #[.map (some b), encStr s]).run P w = .ok (.tuple #[]) w' ∧ MapS P k w' b (dropK Prod.fst s l) ∧ w.grownBy w' (some b) := by
  obtain ⟨w', hr, ho, hg⟩ := h.1.drop (string_keyed hk) ht (keyOf_enc hk hs) ty
  rw [del_mapS] at ho
  exact ⟨w', hr, ⟨owns_len ho, h.2.drop⟩, hg.grown⟩
theorem MapS.look (h : MapS P k w b l) (hk : P.underlying k = some .string) (ht : P.underlying t = some (.map k e)) {z : Value} (hz : (zeroValue e).run P w = .ok z w) (hs : s.length ≤ maxLen) (c : Bool) :
    (getK Prod.fst l s = none ∧ (Instr.lookup t (.map (some b)) (encStr s) c).run P w = .ok (if c then .tuple #[z, .bool false] else z) w) ∨
    (∃ v, getK Prod.fst l s = some (s, v) ∧ (Instr.lookup t (.map (some b)) (encStr s) c).run P w = .ok (if c then .tuple #[v, .bool true] else v) w) := by
  obtain ⟨⟨es, clock, hb, F, _, hD⟩, hp⟩ := h
  rcases Maps.fit_look c (string_keyed hk) ht hz hb F (keyOf_enc hk hs) with ⟨hrun, _, hat⟩ | ⟨e0, y, _, _, hrun, hRv, hat, _⟩
  · refine .inl ⟨?_, hrun⟩
    have h1 := hat (.lit (.bool true))
    rw [← hD, atKey_mapS] at h1
    cases hf : getK Prod.fst l s with
    | none => rfl
    | some q => rw [hf] at h1; cases h1
  · refine .inr ⟨e0.val, ?_, hrun⟩
    have h1 := hat (.lit (.bool true))
    simp only [rawElem, Option.some.injEq] at hRv
    subst hRv
    rw [← hD, atKey_mapS] at h1
    cases hf : getK Prod.fst l s with
    | none => rw [hf] at h1; cases h1
    | some q =>
      rw [hf] at h1
      simp only [DataW.held.injEq] at h1
      obtain ⟨_, h2⟩ := getK_some hf
      obtain ⟨q1, q2⟩ := q
      simp only at h1 h2
      rw [h1, h2]
theorem MapS.len (h : MapS P k w b l) (ht : P.underlying t = some (.map k e)) (ty : TypeId) : (Builtin.len_ #[t] ty #[.map (some b)]).run P w = .ok (.int .i64 l.length) w := by
  have := h.1.len ht ty
  rw [this, Maps.size_eq, List.length_map]
theorem MapS.keys (h : MapS P k w b l) : strKeys (mapDS l) = l.map (·.1) := by
  show (l.map fun p => (Lit.string p.1, DataW.held p.2)).map (fun p => strOf p.1) = _
  rw [List.map_map]
  rfl
theorem MapS.sorted (h : MapS P k w b l) {ss : List (List UInt8)} (hs : ss.Perm (strKeys (mapDS l))) : ss.mergeSort leB = l.map (·.1) := by
  rw [mergeSort_of_perm hs, h.keys]
  refine List.mergeSort_of_pairwise ?_
  rw [List.pairwise_map]
  exact h.2.imp fun {a b} h => by
    have := (cmpB_lt a.1 b.1).1 h
    exact decide_eq_true (List.le_of_lt this)
end
/-! ### maps whose elements are read -/
/-- Block b is a map whose entries read as xs, by their keys. -/
def MapR {α : Type} (P : Program) (k : TypeId) (key : α → List UInt8) (R : World → (Nat → Prop) → Value → α → Prop) (w : World) (M : Nat → Prop) (b : Nat) (xs : List α) : Prop :=
  ∃ zs : List (Value × α), MapS P k w b (zs.map fun z => (key z.2, z.1)) ∧ (∀ z ∈ zs, R w M z.1 z.2) ∧ xs = zs.map (·.2)
/-- What reads stays readable as long as the blocks that it meets stay. -/
structure KeepR {α : Type} (R : World → (Nat → Prop) → Value → α → Prop) : Prop where
  keep : ∀ {w w' : World} {M M' : Nat → Prop} {v : Value} {x : α}, R w M v x → (∀ b, b < w.heap.size → ¬ M b → w'.heap[b]? = w.heap[b]? ∧ ¬ M' b) → R w' M' v x
section
variable {α : Type} {P : Program} {k t e : TypeId} {key : α → List UInt8} {R : World → (Nat → Prop) → Value → α → Prop} {w w' : World} {M M' : Nat → Prop} {b : Nat} {xs : List α} {s : List UInt8}
theorem MapR.empty (h : w.heap[b]? = some (.map #[] 0)) : MapR P k key R w M b [] := ⟨[], MapS.empty h, by simp, rfl⟩
theorem MapR.lt (h : MapR P k key R w M b xs) : b < w.heap.size := by obtain ⟨_, h, _⟩ := h; exact h.lt
theorem MapR.rising (h : MapR P k key R w M b xs) : Rising key xs := by
  obtain ⟨zs, h1, _, rfl⟩ := h
  rw [rising_map (key := fun z : Value × α => key z.2) (fun _ => rfl)]
  exact (rising_map (key := fun z : Value × α => key z.2) (key' := Prod.fst) (fun _ => rfl)).1 h1.2
theorem MapR.keep (hR : KeepR R) (h : MapR P k key R w M b xs) (hb : w'.heap[b]? = w.heap[b]?) (hk : ∀ c, c < w.heap.size → ¬ M c → w'.heap[c]? = w.heap[c]? ∧ ¬ M' c) : MapR P k key R w' M' b xs := by
  obtain ⟨zs, h1, h2, h3⟩ := h
  exact ⟨zs, h1.same hb, fun z hz => hR.keep (h2 z hz) hk, h3⟩
theorem MapR.step (hR : KeepR R) (h : MapR P k key R w M b xs) (hb : Step w w') : MapR P k key R w' M b xs := h.keep hR (hb.heap h.lt) fun c h1 h2 => ⟨hb.heap h1, h2⟩
theorem MapR.put (hR : KeepR R) {x : α} {v : Value} (h : MapR P k key R w M b xs) (hk : P.underlying k = some .string) (ht : P.underlying t = some (.map k e)) (hn : xs.length < maxLen) (hs : (key x).length ≤ maxLen) (hx : R w M v x) (hM : M b) :
    ∃ w', (Instr.mapUpdate t (.map (some b)) (encStr (key x)) v).run P w = .ok () w' ∧ MapR P k key R w' M b (putK key x xs) ∧ w.grownBy w' (some b) := by
  obtain ⟨zs, h1, h2, rfl⟩ := h
  obtain ⟨w', hr, hm, hg⟩ := h1.put hk ht (by simpa using hn) hs v
  have hkeep : ∀ z : Value × α, R w M z.1 z.2 → R w' M z.1 z.2 := fun z h => hR.keep h fun c h1 h2 => ⟨hg.block c h1 (fun e => h2 (by injection e with e; exact e ▸ hM)), h2⟩
  refine ⟨w', hr, ⟨putK (fun z => key z.2) (v, x) zs, ?_, fun z hz => ?_, ?_⟩, hg⟩
  · rw [putK_map (key := fun z : Value × α => key z.2) (key' := Prod.fst) (fun _ => rfl)]
    exact hm
  · rcases mem_putK.1 hz with rfl | ⟨hz, _⟩
    · exact hkeep _ hx
    · exact hkeep _ (h2 z hz)
  · rw [putK_map (key := fun z : Value × α => key z.2) (key' := key) (fun _ => rfl)]
theorem MapR.drop (hR : KeepR R) (h : MapR P k key R w M b xs) (hk : P.underlying k = some .string) (ht : P.underlying t = some (.map k e)) (hs : s.length ≤ maxLen) (hM : M b) (ty : TypeId) :
    ∃ w', (Builtin.delete_ #[t, k] ty #[.map (some b), encStr s]).run P w = .ok (.tuple #[]) w' ∧ MapR P k key R w' M b (dropK key s xs) ∧ w.grownBy w' (some b) := by
  obtain ⟨zs, h1, h2, rfl⟩ := h
  obtain ⟨w', hr, hm, hg⟩ := h1.drop hk ht hs ty
  refine ⟨w', hr, ⟨dropK (fun z => key z.2) s zs, ?_, fun z hz => ?_, ?_⟩, hg⟩
  · rw [dropK_map (key := fun z : Value × α => key z.2) (key' := Prod.fst) (fun _ => rfl)]
    exact hm
  · exact hR.keep (h2 z (mem_dropK.1 hz).1) fun c h1 h2 => ⟨hg.block c h1 (fun e => h2 (by injection e with e; exact e ▸ hM)), h2⟩
  · rw [dropK_map (key := fun z : Value × α => key z.2) (key' := key) (fun _ => rfl)]
theorem MapR.look (h : MapR P k key R w M b xs) (hk : P.underlying k = some .string) (ht : P.underlying t = some (.map k e)) {z : Value} (hz : (zeroValue e).run P w = .ok z w) (hs : s.length ≤ maxLen) (c : Bool) :
    (getK key xs s = none ∧ (Instr.lookup t (.map (some b)) (encStr s) c).run P w = .ok (if c then .tuple #[z, .bool false] else z) w) ∨
    (∃ x v, getK key xs s = some x ∧ R w M v x ∧ (Instr.lookup t (.map (some b)) (encStr s) c).run P w = .ok (if c then .tuple #[v, .bool true] else v) w) := by
  obtain ⟨zs, h1, h2, rfl⟩ := h
  have hg : getK key (zs.map (·.2)) s = (getK (fun z : Value × α => key z.2) zs s).map (·.2) := getK_map (fun _ => rfl) _ _
  have hg' : getK Prod.fst (zs.map fun z => (key z.2, z.1)) s = (getK (fun z : Value × α => key z.2) zs s).map (fun z => (key z.2, z.1)) := getK_map (fun _ => rfl) _ _
  rcases h1.look hk ht hz hs c with ⟨hn, hr⟩ | ⟨v, hv, hr⟩
  · rw [hg'] at hn
    exact .inl ⟨by rw [hg, Option.map_eq_none_iff.1 hn]; rfl, hr⟩
  · rw [hg'] at hv
    cases hf : getK (fun z : Value × α => key z.2) zs s with
    | none => rw [hf] at hv; cases hv
    | some z =>
      rw [hf] at hv
      simp only [Option.map_some, Option.some.injEq, Prod.mk.injEq] at hv
      exact .inr ⟨z.2, v, by rw [hg, hf]; rfl, hv.2 ▸ h2 z (getK_some hf).1, hr⟩
theorem MapR.len (h : MapR P k key R w M b xs) (ht : P.underlying t = some (.map k e)) (ty : TypeId) : (Builtin.len_ #[t] ty #[.map (some b)]).run P w = .ok (.int .i64 xs.length) w := by
  obtain ⟨zs, h1, _, rfl⟩ := h
  rw [h1.len ht ty]
  simp
/-- Its keys, sorted; its values at its keys. -/
theorem MapR.datum (h : MapR P k key R w M b xs) : ∃ D, w.ownsMap P k rawElem b xs.length D ∧ Maps.size D = xs.length ∧ (∀ ss : List (List UInt8), ss.Perm (strKeys D) → ss.mergeSort leB = xs.map key) ∧
    (∀ s, Maps.has D (.string s) = true ↔ ∃ x ∈ xs, key x = s) ∧ ∀ s v, (∀ zd, D.atKey (.string s) zd = .held v) → ∃ x ∈ xs, key x = s ∧ R w M v x := by
  obtain ⟨zs, h1, h2, rfl⟩ := h
  refine ⟨_, by simpa using h1.1, by rw [Maps.size_eq]; simp, fun ss hs => ?_, fun s => ?_, fun s v hv => ?_⟩
  · rw [h1.sorted hs]
    simp
  · rw [Maps.has_eq, List.any_eq_true]
    simp only [List.map_map, List.mem_map, Function.comp_apply]
    constructor
    · rintro ⟨p, ⟨z, hz, rfl⟩, hp⟩
      exact ⟨z.2, ⟨z, hz, rfl⟩, by simpa [Lit.sameKey] using hp⟩
    · rintro ⟨x, ⟨z, hz, rfl⟩, hx⟩
      exact ⟨_, ⟨z, hz, rfl⟩, by simpa [Lit.sameKey] using hx⟩
  · have h3 := hv (.lit (.bool true))
    rw [atKey_mapS] at h3
    have hg' : getK Prod.fst (zs.map fun z => (key z.2, z.1)) s = (getK (fun z : Value × α => key z.2) zs s).map (fun z => (key z.2, z.1)) := getK_map (fun _ => rfl) _ _
    rw [hg'] at h3
    cases hf : getK (fun z : Value × α => key z.2) zs s with
    | none => rw [hf] at h3; cases h3
    | some z =>
      rw [hf] at h3
      simp only [Option.map_some, DataW.held.injEq] at h3
      obtain ⟨h4, h5⟩ := getK_some hf
      exact ⟨z.2, List.mem_map.2 ⟨z, h4, rfl⟩, h5, h3 ▸ h2 z h4⟩
theorem wp_mapUpdate_R (hR : KeepR R) {x : α} {v : Value} {o : Oper} {a : Act} {K : Act → World → Prop} {Q : Exit → Act → World → Prop}
    (m y u : Operand) (ho : o.op = Op.mapUpdate t m y u) (h : MapR P k key R w M b xs) (hk : P.underlying k = some .string) (ht : P.underlying t = some (.map k e)) (hn : xs.length < maxLen) (hs : (key x).length ≤ maxLen) (hx : R w M v x) (hM : M b)
    (hm : a.eval m = .map (some b)) (hy : a.eval y = encStr (key x)) (hu : a.eval u = v)
    (hK : ∀ w', MapR P k key R w' M b (putK key x xs) → w.grownBy w' (some b) → K (a.put o.dst undef) w') : o.wp P a w K Q := by
  obtain ⟨w', hrun, h1, h2⟩ := h.put hR hk ht hn hs hx hM
  unfold Oper.wp
  simp [execOp, ho, hm, hy, hu, hrun, Result.andThen]
  exact hK w' h1 h2
theorem wpList_mapUpdate_R (hR : KeepR R) {ops : Array Oper} {rest : List Oper} {x : α} {v : Value} {o : Oper} {a : Act} {Q : Exit → Act → World → Prop} (hgd : o.guard = none)
    (m y u : Operand) (ho : o.op = Op.mapUpdate t m y u) (h : MapR P k key R w M b xs) (hk : P.underlying k = some .string) (ht : P.underlying t = some (.map k e)) (hn : xs.length < maxLen) (hs : (key x).length ≤ maxLen) (hx : R w M v x) (hM : M b)
    (hm : a.eval m = .map (some b)) (hy : a.eval y = encStr (key x)) (hu : a.eval u = v)
    (hK : ∀ w', MapR P k key R w' M b (putK key x xs) → w.grownBy w' (some b) → wpList P ops Q rest (a.put o.dst undef) w') : wpList P ops Q (o :: rest) a w :=
  wpList_plain hgd fun _ hK' => wp_mapUpdate_R hR m y u ho h hk ht hn hs hx hM hm hy hu fun w' h1 h2 => hK' _ _ (hK w' h1 h2)
theorem wpList_delete_R (hR : KeepR R) {ops : Array Oper} {rest : List Oper} {o : Oper} {a : Act} {Q : Exit → Act → World → Prop} (hg : o.guard = none) (m x : Operand) (hop : o.op = .call { callee := .builtin .delete, args := #[m, x], argTypes := #[t, k] })
    (h : MapR P k key R w M b xs) (hk : P.underlying k = some .string) (ht : P.underlying t = some (.map k e)) (hs : s.length ≤ maxLen) (hM : M b) (hm : a.eval m = .map (some b)) (hx : a.eval x = encStr s)
    (hK : ∀ w', MapR P k key R w' M b (dropK key s xs) → w.grownBy w' (some b) → wpList P ops Q rest (a.put o.dst (.tuple #[])) w') : wpList P ops Q (o :: rest) a w := by
  refine wpList_plain hg fun K' hK' => ?_
  obtain ⟨w', hrun, r1, r2⟩ := h.drop hR hk ht hs hM o.type
  unfold Oper.wp
  simp [execOp, hop, resolve, invoke, builtin, hm, hx, hrun, Result.andThen]
  exact hK' _ _ (hK w' r1 r2)
end
end Go.Gr
