/-
  Rows of bytes that lie apart: turned in place, appended to, with others beside them. No program is named here.
-/
import Derived.Test.YthflkfgiclcdiaaGreatMaps
namespace Go.Gr
open Go.RowKit
set_option linter.unusedSimpArgs false
/-- A byte as it stands in a cell. -/
abbrev bv (b : UInt8) : Value := .int .u8 (b.toNat : Int)
/-- A row of bytes that has its block for itself, from its first cell on. -/
def BR (e : TypeId) (w : World) (v : Value) (xs : List UInt8) : Prop := xs.length ≤ lim ∧ w.ownsRow 0 e 1 v xs.length (xs.map bv)
/-- A slice's value as it is. -/
def Ty.raw : Ty Value where
  n := 1
  rep := fun _ _ cs x => cs = [x] ∧ x.oneCell' = true
  len := fun h => by rw [h.1]; rfl
  one := fun h u hu => by rw [h.1] at hu; simp at hu; subst hu; exact h.2
  keep := fun h _ => h
theorem Ty.flat_raw : Ty.raw.Flat := fun h => h
section
variable {e : TypeId} {w w' : World} {M : Nat → Prop} {B : Nat} {v u : Value} {xs zs : List UInt8}
theorem BR.own (h : BR e w v xs) : Own Ty.byte e w M 0 v xs := by
  refine ⟨h.1, _, h.2, fun i hi => ?_⟩
  show grp _ 1 i = _
  unfold grp
  apply List.ext_getElem?
  intro j
  rw [List.getElem?_take, List.getElem?_drop]
  rcases j with _ | j
  · simp [hi]
  · simp
theorem BR.of (h : Own Ty.byte e w M B v xs) : BR e w v xs := by
  obtain ⟨hl, cells, ho, hr⟩ := h
  have hc : cells = xs.map bv := by
    have h1 : cells.length = xs.length := by have := ho.1; simpa [Ty.byte] using this
    refine List.ext_getElem (by simp [h1]) fun i hi hi' => ?_
    have h2 : grp cells 1 i = [bv xs[i]] := hr i (by omega)
    have h3 := (grp_getElem (cells := cells) (n := 1) (i := i) (j := 0) (u := bv xs[i]) (by rw [h2]; rfl)).1
    simp only [Nat.mul_one, Nat.add_zero] at h3
    rw [List.getElem?_eq_getElem hi] at h3
    simpa using h3
  subst hc
  refine ⟨hl, ho.1, ?_⟩
  rcases ho.2 with hn | ⟨g, cap, cur, rfl, _, rest⟩
  · exact .inl hn
  · exact .inr ⟨g, cap, cur, rfl, Nat.zero_le _, rest⟩
theorem BR.le (h : BR e w v xs) : xs.length ≤ lim := h.1
theorem BR.lt (h : BR e w v xs) {g : Nat} (hg : v.ownBlock = some g) : g < w.heap.size := (own_lt h.2 hg).2
theorem BR.kept (h : BR e w v xs) (hk : ∀ g, v.ownBlock = some g → w'.heap[g]? = w.heap[g]?) : BR e w' v xs := ⟨h.1, own_kept h.2 hk⟩
theorem BR.step (h : BR e w v xs) (hs : Step w w') : BR e w' v xs := h.kept fun _ hg => hs.heap (h.lt hg)
theorem BR.turn {M : Nat → Prop} (h : BR e w v xs) (hs : Turn M w w') (hM : ∀ g, v.ownBlock = some g → ¬ M g) : BR e w' v xs := h.kept fun g hg => hs.block g (h.lt hg) (hM g hg)
theorem BR.val (h : BR e w v xs) : ∃ a c, v = .slice a xs.length c := by
  rcases h.2.2 with ⟨hv, h0⟩ | ⟨g, cap, cur, hv, _⟩
  · exact ⟨none, 0, by rw [hv, h0]⟩
  · exact ⟨_, cap, hv⟩
theorem BR.one (h : BR e w v xs) : v.oneCell' = true := by
  obtain ⟨a, c, rfl⟩ := h.val
  rfl
theorem BR.rep (h : BR e w v xs) (hM : ∀ b, v.ownBlock = some b → ¬ M b) : Ty.bytes.rep w M [v] xs := Own.rep' h.own hM
theorem BR.at {a : Option Addr} {n c k : Nat} (h : BR e w (.slice a n c) xs) (hk : k < xs.length) :
    ∃ g, a = some ⟨g, 0, none⟩ ∧ g < w.heap.size ∧ w.cell? ⟨g, k, none⟩ = some (bv xs[k]) ∧ w.frozen? ⟨g, k, none⟩ = false := by
  rcases h.2.2 with ⟨hv, h0⟩ | ⟨g, cap, cur, hv, hb, hg, hnc, hcm, hcs, htake⟩
  · omega
  · obtain ⟨rfl, rfl, rfl⟩ : a = some ⟨g, 0, none⟩ ∧ n = xs.length ∧ c = cap := by simpa using hv
    refine ⟨g, rfl, (Array.getElem?_eq_some_iff.1 hg).1, ?_, frozen_of_row w g k cur e hg⟩
    rw [cell_of_row w g k cur e (0, 0) hg]
    have h1 : (xs.map bv)[k]? = some (bv xs[k]) := by simp [hk]
    rw [← htake, List.getElem?_take, if_pos (by omega)] at h1
    simpa using h1
theorem BR.store {g n c k : Nat} (h : BR e w (.slice (some ⟨g, 0, none⟩) n c) xs) (b : UInt8) : BR e (w.setCell ⟨g, k, none⟩ (bv b)) (.slice (some ⟨g, 0, none⟩) n c) (xs.set k b) := by
  have hn : n = xs.length := by
    obtain ⟨a, c', hv⟩ := h.val
    injection hv
  subst hn
  have := (h.2.stored k (bv b)).1
  refine ⟨by simpa using h.1, ?_⟩
  rw [List.length_set, List.map_set]
  exact this
/-- What is shorter of the same block. -/
theorem BR.pre {n c : Nat} (h : BR e w (.slice (some ⟨B, 0, none⟩) n c) xs) (hz : zs <+: xs) : BR e w (.slice (some ⟨B, 0, none⟩) zs.length c) zs := by
  obtain ⟨t, rfl⟩ := hz
  rcases h.2.2 with ⟨hv, h0⟩ | ⟨g, cap, cur, hv, hb, hg, hnc, hcm, hcs, htake⟩
  · cases hv
  · obtain ⟨rfl, rfl, rfl⟩ : B = g ∧ n = (zs ++ t).length ∧ c = cap := by simpa using hv
    simp only [List.length_append] at hnc htake
    refine ⟨by have := h.1; simp at this; omega, by simp, .inr ⟨B, c, cur, rfl, Nat.zero_le _, hg, by omega, hcm, hcs, ?_⟩⟩
    have := congrArg (List.take (zs.length * 1)) htake
    rw [List.take_take, List.map_append, List.take_left' (by simp)] at this
    rw [← this]
    congr 1
    omega
/-- Of two rows of one block the room is the same. -/
theorem BR.cap {g n n' c c' : Nat} (h : BR e w (.slice (some ⟨g, 0, none⟩) n c) xs) (h' : BR e w (.slice (some ⟨g, 0, none⟩) n' c') zs) : c = c' := by
  rcases h.2.2 with ⟨hv, _⟩ | ⟨g1, cap, cur, hv, _, hg, _, _, hcs, _⟩
  · cases hv
  rcases h'.2.2 with ⟨hv', _⟩ | ⟨g2, cap', cur', hv', _, hg', _, _, hcs', _⟩
  · cases hv'
  obtain ⟨rfl, _, rfl⟩ : g = g1 ∧ n = xs.length ∧ c = cap := by simpa using hv
  obtain ⟨rfl, _, rfl⟩ : g = g2 ∧ n' = zs.length ∧ c' = cap' := by simpa using hv'
  rw [hg] at hg'
  simp only [Option.some.injEq, Obj.cells.injEq] at hg'
  obtain ⟨rfl, _⟩ := hg'
  omega
theorem BR.form (h : BR e w v xs) {g : Nat} (hg : v.ownBlock = some g) : ∃ c, v = .slice (some ⟨g, 0, none⟩) xs.length c := by
  rcases h.2.2 with ⟨hv, _⟩ | ⟨g1, cap, cur, hv, _⟩
  · rw [hv] at hg; simp [Value.ownBlock] at hg
  · rw [hv] at hg
    obtain rfl : g1 = g := by simpa [Value.ownBlock] using hg
    exact ⟨cap, hv⟩
end
section
variable {P : Program} {e t : TypeId} {w : World} {v sv : Value} {xs ys : List UInt8}
/-- An append: what else stands in the row's block stays, as long as it is a beginning of what is there behind it. -/
theorem run_append_br (ty : TypeId) (hT : SliceTy P t e 1) (hacc : BR e w v xs) (hsrc : Src Ty.byte w (fun _ => False) sv ys) (hpos : 0 < ys.length) (hlim : xs.length + ys.length ≤ lim) :
    ∃ v' w', (Builtin.append_ #[t, t] ty #[v, sv]).run P w = .ok v' w' ∧ BR e w' v' (xs ++ ys) ∧ w.grownBy w' v.ownBlock ∧ (v'.ownBlock = v.ownBlock ∨ v'.ownBlock = some w.heap.size) ∧
      ∀ u zs, BR e w u zs → (∀ g, u.ownBlock = some g → v.ownBlock = some g → zs <+: xs ++ ys) → BR e w' u zs := by
  obtain ⟨v', w', hrun, h2, h3, h4⟩ := run_append_acc (P := P) (M := fun _ => False) ty (E := Ty.byte) hT (hacc.own (M := fun _ => False)) (by
    obtain ⟨a, c, h1, h2⟩ := hsrc
    refine ⟨a, c, h1, fun hn => ?_⟩
    obtain ⟨b, off, h3, h4⟩ := h2 hn
    exact ⟨b, off, h3, h4⟩) hlim (Nat.zero_le _)
  refine ⟨v', w', hrun, BR.of h2, h3, h4, fun u zs hu hz => ?_⟩
  by_cases hsame : ∃ g, u.ownBlock = some g ∧ v.ownBlock = some g
  · obtain ⟨g, hug, hvg⟩ := hsame
    have hzs := hz g hug hvg
    obtain ⟨cu, rfl⟩ := hu.form hug
    obtain ⟨cv, rfl⟩ := hacc.form hvg
    obtain rfl := hacc.cap hu
    obtain ⟨A, c, rfl, hs⟩ := hsrc
    obtain ⟨b, off, rfl, hc⟩ := hs hpos
    have hT' := hT
    obtain ⟨ht, i, z, hi, hz0, hsize, hzc, hp, hby⟩ := hT
    obtain ⟨news, hnl, hnc, hn1, hnr⟩ := all_cells Ty.byte ys hc
    have hadd : ∀ j u, news[j]? = some u → w.cell? ((⟨b, off, none⟩ : Addr).add j) = some u := fun j u hu => by
      have := hnc j u hu
      unfold Addr.add
      split
      · rename_i h0; subst h0; simpa using this
      · exact this
    by_cases hroom : xs.length + ys.length ≤ cv
    · obtain ⟨_, _, _, cur, hv, _, hg, hnc2, hcm, hcs, htake⟩ : ∃ (_ : True) (_ : True) (_ : True) (cur : Array Value), True ∧ True ∧ w.heap[g]? = some (.cells cur e (0, 0)) ∧ xs.length ≤ cv ∧ cv ≤ maxLen ∧ cur.size = cv * 1 ∧ cur.toList.take (xs.length * 1) = xs.map bv := by
        rcases hacc.2.2 with ⟨hv, _⟩ | ⟨g1, cap, cur, hv, _, rest⟩
        · cases hv
        · obtain ⟨rfl, rfl⟩ : g = g1 ∧ cv = cap := by simpa using hv
          exact ⟨trivial, trivial, trivial, cur, trivial, trivial, rest⟩
      have hr := run_append_room (P := P) w t ty e i ht hi g xs.length cv cur hg ⟨b, off, none⟩ ys.length c news (by rw [hnl, hsize]; rfl) hadd hn1 hroom (by rw [hsize, hnl, hcs]; simp [Ty.byte]; omega)
      rw [hr] at hrun
      obtain ⟨rfl, _⟩ : Value.slice (some ⟨g, 0, none⟩) (xs.length + ys.length) cv = v' ∧ True := by
        injection hrun with h5
        exact ⟨h5, trivial⟩
      exact (BR.of h2).pre hzs
    · have holds : ∀ j u, (xs.map bv)[j]? = some u → w.cell? ((⟨g, 0, none⟩ : Addr).add j) = some u := hacc.2.cells (g := g) rfl
      have hr := run_append_grow (P := P) w t ty e i z ht hi hz0 ⟨g, 0, none⟩ xs.length cv (xs.map bv) (by rw [hsize]; simp) holds ⟨b, off, none⟩ ys.length c news (by rw [hnl, hsize]; rfl) hadd (by omega) (by rw [lim_eq] at hlim; omega)
        (growslice_fits (by omega) (by rw [lim_eq] at hlim; have : (xs.length + ys.length) * i.bytes ≤ 68719476736 * 2048 := Nat.mul_le_mul hlim hby; omega))
      rw [hr] at hrun
      injection hrun with h5 h6
      subst h6
      exact hu.kept fun g' hg' => heap_alloc_old w.drew _ (hu.lt hg')
  · exact hu.kept fun g hg => h3.block g (hu.lt hg) (fun e => hsame ⟨g, hg, e.symm⟩)
theorem wp_append_br {o : Oper} {a : Act} {K : Act → World → Prop} {Q : Exit → Act → World → Prop} (s x : Operand)
    (ho : o.op = .call { callee := .builtin .append, args := #[s, x], argTypes := #[t, t] }) (hT : SliceTy P t e 1) (hacc : BR e w v xs) (hsrc : Src Ty.byte w (fun _ => False) sv ys) (hpos : 0 < ys.length) (hlim : xs.length + ys.length ≤ lim) (hs : a.eval s = v) (hx : a.eval x = sv)
    (h : ∀ v' w', BR e w' v' (xs ++ ys) → w.grownBy w' v.ownBlock → (v'.ownBlock = v.ownBlock ∨ v'.ownBlock = some w.heap.size) →
      (∀ u zs, BR e w u zs → (∀ g, u.ownBlock = some g → v.ownBlock = some g → zs <+: xs ++ ys) → BR e w' u zs) → K (a.put o.dst v') w') : o.wp P a w K Q := by
  obtain ⟨v', w', hrun, h2, h3, h4, h5⟩ := run_append_br (P := P) o.type hT hacc hsrc hpos hlim
  unfold Oper.wp execOp
  simp only [ho, resolve, invoke, builtin, Sem.run_bind, Sem.run_pure, Result.andThen_ok, List.map_toArray, List.map_cons, List.map_nil, hs, hx, hrun]
  exact h v' w' h2 h3 h4 h5
theorem wpList_append_br {ops : Array Oper} {rest : List Oper} {o : Oper} {a : Act} {Q : Exit → Act → World → Prop} (hgd : o.guard = none) (s x : Operand)
    (ho : o.op = .call { callee := .builtin .append, args := #[s, x], argTypes := #[t, t] }) (hT : SliceTy P t e 1) (hacc : BR e w v xs) (hsrc : Src Ty.byte w (fun _ => False) sv ys) (hpos : 0 < ys.length) (hlim : xs.length + ys.length ≤ lim) (hs : a.eval s = v) (hx : a.eval x = sv)
    (h : ∀ v' w', BR e w' v' (xs ++ ys) → w.grownBy w' v.ownBlock → (v'.ownBlock = v.ownBlock ∨ v'.ownBlock = some w.heap.size) →
      (∀ u zs, BR e w u zs → (∀ g, u.ownBlock = some g → v.ownBlock = some g → zs <+: xs ++ ys) → BR e w' u zs) → wpList P ops Q rest (a.put o.dst v') w') : wpList P ops Q (o :: rest) a w :=
  wpList_plain hgd fun _ hK => wp_append_br s x ho hT hacc hsrc hpos hlim hs hx fun v' w' h1 h2 h3 h4 => hK _ _ (h v' w' h1 h2 h3 h4)
end
end Go.Gr
