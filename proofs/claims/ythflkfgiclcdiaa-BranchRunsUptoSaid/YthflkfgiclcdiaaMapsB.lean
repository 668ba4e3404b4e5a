/-
  Words for maps that a call has made, more: an entry is struck. No program is named here.
-/
import Derived.Test.YthflkfgiclcdiaaMaps
namespace Go.Gr
open Go.Maps Go.RowKit
set_option linter.unusedSimpArgs false
theorem filter_pair {α β : Type} {f : α → Bool} {g : β → Bool} {R : α → β → Prop} : ∀ (l : List α) (xs : List β), l.length = xs.length → (∀ (i : Nat) (p : α) (x : β), l[i]? = some p → xs[i]? = some x → R p x ∧ f p = g x) →
    (l.filter f).length = (xs.filter g).length ∧ ∀ (i : Nat) (p : α) (x : β), (l.filter f)[i]? = some p → (xs.filter g)[i]? = some x → R p x
  | [], [], _, _ => ⟨rfl, fun i p x h => by simp at h⟩
  | [], _ :: _, h, _ => by simp at h
  | _ :: _, [], h, _ => by simp at h
  | a :: l, b :: xs, hl, h => by
    obtain ⟨h1, h2⟩ := filter_pair l xs (by simpa using hl) (fun i p x hp hx => h (i + 1) p x (by simpa using hp) (by simpa using hx))
    obtain ⟨h3, h4⟩ := h 0 a b rfl rfl
    rw [List.filter_cons, List.filter_cons, h4]
    by_cases hg : g b = true
    · rw [if_pos hg, if_pos hg]
      refine ⟨by simp [h1], fun i p x hp hx => ?_⟩
      rcases i with _ | i
      · simp at hp hx
        subst hp hx
        exact h3
      · exact h2 i p x (by simpa using hp) (by simpa using hx)
    · rw [if_neg hg, if_neg hg]
      exact ⟨h1, h2⟩
section
variable {P : Program} {k t e : TypeId} {w w' : World} {b : Nat} {l : List (Int × Value)} {s : Int}
theorem del_mapD : (mapD l).del (.int .i64 s) = mapD (l.filter fun p => p.1 != s) := by
  unfold mapD DataW.del
  simp only [List.filter_map]
  congr 2
  refine List.filter_congr fun p _ => ?_
  by_cases h : p.1 = s <;> simp [Lit.sameKey, bne, h]
theorem MapI.drop (h : MapI P k w b l) (hk : P.underlying k = some (.int .i64)) (ht : P.underlying t = some (.map k e)) (hs : -9223372036854775808 ≤ s ∧ s ≤ 9223372036854775807) (ty : TypeId) :
    ∃ w', (Builtin.delete_ #[t, k] ty #[.map (some b), .int .i64 s]).run P w = .ok (.tuple #[]) w' ∧ MapI P k w' b (l.filter fun p => p.1 != s) ∧ w.grownBy w' (some b) := by
  obtain ⟨w', hr, ho, hg⟩ := h.1.drop (int_keyed hk) ht (keyOf_int_mk hk (wf_i64 hs)) ty
  rw [del_mapD] at ho
  refine ⟨w', hr, ⟨?_, h.2.filter _⟩, hg.grown⟩
  obtain ⟨es, clock, hb, F, _, hD⟩ := ho
  refine ⟨es, clock, hb, F, ?_, hD⟩
  have h1 := length_read (P := P) (k := k) (R0 := rawElem) es
  have h2 : ((l.filter fun p => p.1 != s).map fun p => (Lit.int .i64 p.1, DataW.held p.2)) = (es.toList.map (WideElems.rg P k rawElem)).foldr DataW.insert [] := by
    unfold mapD at hD
    injection hD
  rw [← h2, List.length_map] at h1
  omega
end
section
variable {α : Type} {E : Ty α} {P : Program} {k t e : TypeId} {w w' : World} {M M' : Nat → Prop} {b : Nat} {xs : List (Int × α)} {s : Int}
theorem MapT.drop (h : MapT P k E w M b xs) (hk : P.underlying k = some (.int .i64)) (ht : P.underlying t = some (.map k e)) (hs : -9223372036854775808 ≤ s ∧ s ≤ 9223372036854775807) (hM : M b) (ty : TypeId) :
    ∃ w', (Builtin.delete_ #[t, k] ty #[.map (some b), .int .i64 s]).run P w = .ok (.tuple #[]) w' ∧ MapT P k E w' M b (xs.filter fun p => p.1 != s) ∧ w.grownBy w' (some b) := by
  obtain ⟨l, h1, h2, h3⟩ := h
  obtain ⟨w', hr, hm, hg⟩ := h1.drop hk ht hs ty
  obtain ⟨h4, h5⟩ := filter_pair (f := fun p : Int × Value => p.1 != s) (g := fun p : Int × α => p.1 != s) (R := fun p x => p.1 = x.1 ∧ ∃ cs, p.2 = .agg cs ∧ E.rep w M cs.toList x.2) l xs h2 (fun i p x hp hx => ⟨h3 i p x hp hx, by rw [(h3 i p x hp hx).1]⟩)
  refine ⟨w', hr, ⟨_, hm, h4, fun i p x hp hx => ?_⟩, hg⟩
  obtain ⟨h6, cs, h7, h8⟩ := h5 i p x hp hx
  exact ⟨h6, cs, h7, E.kept h8 fun c h1 h2 => hg.block c h1 (fun e => h2 (by injection e with e; exact e ▸ hM))⟩
theorem wpList_delete_T {ops : Array Oper} {rest : List Oper} {o : Oper} {a : Act} {Q : Exit → Act → World → Prop} (hg : o.guard = none) (m x : Operand) (hop : o.op = .call { callee := .builtin .delete, args := #[m, x], argTypes := #[t, k] })
    (h : MapT P k E w M b xs) (hk : P.underlying k = some (.int .i64)) (ht : P.underlying t = some (.map k e)) (hs : -9223372036854775808 ≤ s ∧ s ≤ 9223372036854775807) (hM : M b) (hm : a.eval m = .map (some b)) (hx : a.eval x = .int .i64 s)
    (hK : ∀ w', MapT P k E w' M b (xs.filter fun p => p.1 != s) → w.grownBy w' (some b) → wpList P ops Q rest (a.put o.dst (.tuple #[])) w') : wpList P ops Q (o :: rest) a w := by
  refine wpList_plain hg fun K' hK' => ?_
  obtain ⟨w', hrun, r1, r2⟩ := h.drop hk ht hs hM o.type
  unfold Oper.wp
  simp [execOp, hop, resolve, invoke, builtin, hm, hx, hrun, Result.andThen]
  exact hK' _ _ (hK w' r1 r2)
end
end Go.Gr
