/-
  A range over a map whose keys are strings and whose elements are read by a relation. No program is named here.
-/
import Derived.Test.YthebdlkmoailaaaGreatDoorZMapS
import Derived.Sort.MapsRangeIn
set_option linter.unusedVariables false
set_option linter.unusedSimpArgs false
namespace Go.Gr
open Go.Maps Go.RowKit
open Go.Proofs (encStr)
set_option linter.unusedSimpArgs false
set_option linter.unusedVariables false
/-- A range over the map b is under way (its block: r): the map's entries read as xs; 'left': whose keys are still to come. -/
def RangeR {α : Type} (P : Program) (k : TypeId) (key : α → List UInt8) (R : World → (Nat → Prop) → Value → α → Prop) (w : World) (M : Nat → Prop) (b r : Nat) (xs : List α) (left : List UInt8 → Bool) (cnt : Nat) : Prop :=
  ∃ (zs : List (Value × α)) (n : Nat) (lf : Lit → Bool), w.ranges P k rawElem b r n (mapDS (zs.map fun z => (key z.2, z.1))) lf cnt ∧ (∀ s, lf (.string s) = left s) ∧ MapS P k w b (zs.map fun z => (key z.2, z.1)) ∧ (∀ z ∈ zs, R w M z.1 z.2) ∧ xs = zs.map (·.2)
section
variable {α : Type} {P : Program} {k t e : TypeId} {key : α → List UInt8} {R : World → (Nat → Prop) → Value → α → Prop} {w w' : World} {M M' : Nat → Prop} {b r cnt : Nat} {xs : List α} {left : List UInt8 → Bool}
theorem RangeR.map (h : RangeR P k key R w M b r xs left cnt) : MapR P k key R w M b xs := by
  obtain ⟨zs, n, lf, _, _, h3, h4, h5⟩ := h
  exact ⟨zs, h3, h4, h5⟩
theorem RangeR.lt (h : RangeR P k key R w M b r xs left cnt) : r < w.heap.size ∧ b < w.heap.size ∧ r ≠ b := by
  obtain ⟨zs, n, lf, h1, _⟩ := h
  exact ⟨h1.lt, h1.owns.lt, h1.ne⟩
theorem RangeR.left_eq (h : RangeR P k key R w M b r xs left cnt) : w.rangeLeft b r = cnt := by
  obtain ⟨zs, n, lf, h1, _⟩ := h
  exact h1.left_eq
theorem RangeR.keep (hR : KeepR R) (h : RangeR P k key R w M b r xs left cnt) (hb : w'.heap[b]? = w.heap[b]?) (hr : w'.heap[r]? = w.heap[r]?) (hk : ∀ c, c < w.heap.size → ¬ M c → w'.heap[c]? = w.heap[c]? ∧ ¬ M' c) : RangeR P k key R w' M' b r xs left cnt := by
  obtain ⟨zs, n, lf, h1, h2, h3, h4, h5⟩ := h
  refine ⟨zs, n, lf, ?_, h2, h3.same hb, fun z hz => hR.keep (h4 z hz) hk, h5⟩
  obtain ⟨es, clock, since, seen, c0, q1, F, hs, hD, q2, rest⟩ := h1
  exact ⟨es, clock, since, seen, c0, hb.trans q1, F, hs, hD, hr.trans q2, rest⟩
theorem RangeR.step (hR : KeepR R) (h : RangeR P k key R w M b r xs left cnt) (hs : Step w w') : RangeR P k key R w' M b r xs left cnt :=
  h.keep hR (hs.heap h.lt.2.1) (hs.heap h.lt.1) fun c h1 h2 => ⟨hs.heap h1, h2⟩
theorem RangeR.congr {left' : List UInt8 → Bool} (h : RangeR P k key R w M b r xs left cnt) (hl : ∀ s, left s = left' s) : RangeR P k key R w M b r xs left' cnt := by
  obtain ⟨zs, n, lf, h1, h2, rest⟩ := h
  exact ⟨zs, n, lf, h1, fun s => (h2 s).trans (hl s), rest⟩
theorem wpList_range_R (hR : KeepR R) {ops : Array Oper} {rest : List Oper} {o : Oper} {a : Act} {Q : Exit → Act → World → Prop} (hg : o.guard = none) (m : Operand) (hop : o.op = Op.range t m) (hk : P.underlying k = some .string) (ht : P.underlying t = some (.map k e))
    (hm : a.eval m = .map (some b)) (h : MapR P k key R w M b xs)
    (hK : ∀ w' left, RangeR P k key R w' (fun c => M c ∨ c = w.heap.size) b w.heap.size xs left xs.length → (∀ x ∈ xs, left (key x) = true) → Step w w' → w'.heap.size = w.heap.size + 1 → wpList P ops Q rest (a.put o.dst (.pointer (some ⟨w.heap.size, 0, none⟩))) w') :
    wpList P ops Q (o :: rest) a w := by
  obtain ⟨zs, h1, h2, h3⟩ := h
  refine wpList_range_own w hg m t hop k e (string_keyed hk) ht rawElem b _ _ hm h1.1 fun w' hrg hgr hsz => ?_
  have hS : Step w w' := Step.of ⟨hgr.os, hgr.tape, hgr.output, hgr.size, fun i hi => hgr.block i hi (by simp)⟩
  have hsize : Maps.size (mapDS (zs.map fun z => (key z.2, z.1))) = xs.length := by rw [Maps.size_eq, h3]; simp
  rw [hsize] at hrg
  refine hK w' (fun s => Maps.has (mapDS (zs.map fun z => (key z.2, z.1))) (.string s)) ⟨zs, _, _, hrg, fun _ => rfl, h1.same (hS.heap h1.lt), fun z hz => hR.keep (h2 z hz) fun c h1 h2 => ⟨hS.heap h1, fun h => h.elim h2 (fun e => by omega)⟩, h3⟩ (fun x hx => ?_) hS hsz
  rw [h3, List.mem_map] at hx
  obtain ⟨z, hz, rfl⟩ := hx
  rw [Maps.has_eq, List.any_eq_true]
  simp only [List.map_map, List.mem_map, Function.comp_apply]
  exact ⟨_, ⟨z, hz, rfl⟩, by simp [Lit.sameKey]⟩
theorem wpList_next_R (hR : KeepR R) {ops : Array Oper} {rest : List Oper} {o : Oper} {a : Act} {Q : Exit → Act → World → Prop} (hg : o.guard = none) (it : Operand) (hop : o.op = Op.next it false) (hk : P.underlying k = some .string)
    (hit : a.eval it = .pointer (some ⟨r, 0, none⟩)) (h : RangeR P k key R w M b r xs left cnt) (hM : M r)
    (hDone : cnt = 0 → (∀ s, left s = false) → wpList P ops Q rest (a.put o.dst (.tuple #[.bool false])) w)
    (hMore : ∀ x v w' cnt', x ∈ xs → left (key x) = true → R w' M v x → RangeR P k key R w' M b r xs (fun s => left s && decide (s ≠ key x)) cnt' → cnt' < cnt → w.grownBy w' (some r) → w'.heap.size = w.heap.size →
      (Instr.entry (.pointer (some ⟨r, 0, none⟩))).run P w' = .ok (.tuple #[encStr (key x), v]) w' → wpList P ops Q rest (a.put o.dst (.tuple #[.bool true, encStr (key x), v])) w') :
    wpList P ops Q (o :: rest) a w := by
  obtain ⟨zs, n, lf, h1, h2, h3, h4, rfl⟩ := h
  refine wpList_plain hg fun K' hK' => ?_
  unfold Oper.wp
  have hne := h1.ne
  have hbl := h1.owns.lt
  rcases h1.next (string_keyed hk) o.type with ⟨h0, hl, hrun⟩ | ⟨kv, v, kl, y, w', cnt', hkey, hlk, hv, hat, hrun, hrg, hlt, hgr, hsz, hen⟩
  · simp [execOp, hop, hit, hrun, Result.andThen]
    exact hK' _ _ (hDone h0 fun s => (h2 s).symm.trans (hl _))
  · obtain ⟨sb, rfl⟩ := Maps.keyOf_string_inv hk hkey
    have hkl : ∃ s, kl = .string s ∧ (Value.string sb) = encStr s := by
      have := hkey
      simp [keyOf, hk, mapKey] at this
      refine ⟨sb.data.toList, ?_, by simp [encStr]⟩
      first | exact this.symm | exact this.2.symm | exact this.1.symm
    obtain ⟨s, rfl, hs⟩ := hkl
    rw [hs] at hkey hrun hen
    simp only [rawElem, Option.some.injEq] at hv
    subst hv
    have ha := hat (.lit (.bool true))
    rw [atKey_mapS] at ha
    have hg' : getK Prod.fst (zs.map fun z => (key z.2, z.1)) s = (getK (fun z : Value × α => key z.2) zs s).map (fun z => (key z.2, z.1)) := getK_map (fun _ => rfl) _ _
    rw [hg'] at ha
    cases hf : getK (fun z : Value × α => key z.2) zs s with
    | none => rw [hf] at ha; cases ha
    | some z =>
      rw [hf] at ha
      simp only [Option.map_some, DataW.held.injEq] at ha
      obtain ⟨hz, hzk⟩ := getK_some hf
      subst ha
      subst hzk
      have hblk : w'.heap[b]? = w.heap[b]? := hgr.block b hbl (fun e => hne (by injection e with e; exact e.symm))
      have hkp : ∀ q : Value × α, R w M q.1 q.2 → R w' M q.1 q.2 := fun q hq => hR.keep hq fun c h1 h2 => ⟨hgr.block c h1 (fun e => h2 (by injection e with e; exact e ▸ hM)), h2⟩
      simp [execOp, hop, hit, hrun, Result.andThen]
      refine hK' _ _ (hMore z.2 z.1 w' cnt' (List.mem_map.2 ⟨z, hz, rfl⟩) ((h2 _).symm.trans hlk) (hkp z (h4 z hz)) ⟨zs, n, _, hrg, fun s => ?_, h3.same hblk, fun q hq => hkp q (h4 q hq), rfl⟩ hlt hgr hsz hen)
      simp only [h2]
      congr 1
      by_cases hs2 : s = key z.2 <;> simp [Lit.sameKey, hs2]
end
end Go.Gr
