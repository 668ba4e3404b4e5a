/-
  A region of many orders, in which a cell is loaded and later stored: what is to hold of the world has to hold only up to one operation ('c', the first of the stores), behind which nothing waits for it any more. No program is named here.
-/
import Derived.Deep.RegionHeld
set_option linter.unusedVariables false
set_option linter.unusedSimpArgs false
namespace Go
section
variable {P : Program} {ops : Array Oper} {Q : Exit → Act → World → Prop} {md : Region.Mode} {S : World → Prop} {c : Nat}

/-- Whatever order is picked from here on; S holds behind each operation till c comes up. -/
def wpAnyC (P : Program) (md : Region.Mode) (ops : Array Oper) (Q : Exit → Act → World → Prop) (S : World → Prop) (c : Nat) : Nat → Array Bool → Act → World → Prop
  | 0, listed, a, w => Region.ready md ops listed = [] ∧ Q .normal a w
  | fuel + 1, listed, a, w =>
    (Region.ready md ops listed = [] → Q .normal a w) ∧
    ∀ i ∈ Region.ready md ops listed, wpOp P ops Q i (fun a' w' => (i = c → wpAny P md ops Q fuel (listed.setIfInBounds i true) a' w') ∧ (i ≠ c → S w' ∧ wpAnyC P md ops Q S c fuel (listed.setIfInBounds i true) a' w')) a w
theorem wpAny_of_cut : ∀ (fuel : Nat) (listed : Array Bool) (a : Act) (w : World), wpAnyC P md ops Q S c fuel listed a w → wpAny P md ops Q fuel listed a w
  | 0, _, _, _, h => h
  | fuel + 1, _, _, _, h => ⟨h.1, fun i hi => wpOp_mono (fun a' w' h' => by
      by_cases hc : i = c
      · exact h'.1 hc
      · exact wpAny_of_cut fuel _ a' w' (h'.2 hc).2) (h.2 i hi)⟩

/-- Each of ch, c among them, is yet to come and waits for i or for another of ch. -/
def waitsFor (md : Region.Mode) (ops : Array Oper) (listed : Array Bool) (ch : List Nat) (c i : Nat) : Bool :=
  ch.contains c && ch.all fun m => (listed.getD m true == false) && (match ops[m]? with
    | some o => o.after.any (fun e => Region.binds md e && (e.on == i || ch.contains e.on))
    | none => false)
theorem waitsFor_spec {listed : Array Bool} {ch : List Nat} {i : Nat} (h : waitsFor md ops listed ch c i = true) : c ∈ ch ∧ ∀ m ∈ ch, listed.getD m true = false ∧ ∀ o, ops[m]? = some o → ∃ e ∈ o.after, Region.binds md e = true ∧ (e.on = i ∨ e.on ∈ ch) := by
  unfold waitsFor at h
  rw [Bool.and_eq_true, List.all_eq_true] at h
  refine ⟨by simpa using h.1, fun m hm => ?_⟩
  have h2 := h.2 m hm
  rw [Bool.and_eq_true, beq_iff_eq] at h2
  refine ⟨h2.1, fun o ho => ?_⟩
  have h3 := h2.2
  rw [ho] at h3
  obtain ⟨j, hj, he⟩ := Array.any_eq_true.1 h3
  rw [Bool.and_eq_true, Bool.or_eq_true, beq_iff_eq] at he
  exact ⟨_, Array.getElem_mem hj, he.1, he.2.imp id (by simpa using ·)⟩

theorem wpAnyC_first {i : Nat} {oi : Oper} {v : Value} (hi : ops[i]? = some oi) (hsel : ∀ (j : Nat) (o : Oper) cs b, ops[j]? = some o → o.op ≠ .select cs b)
    (hQ : ∀ c a w, Q (.panic c) (a.put oi.dst v) w → Q (.panic c) a w) (hic : i ≠ c) {ch : List Nat} (hcc : c ∈ ch) (hch : ∀ m ∈ ch, ∀ o, ops[m]? = some o → ∃ e ∈ o.after, Region.binds md e = true ∧ (e.on = i ∨ e.on ∈ ch)) :
    ∀ (fuel : Nat) (listed : Array Bool) (a : Act) (w : World), (∀ m ∈ ch, listed.getD m true = false) →
      (∀ j oj, ops[j]? = some oj → j ≠ i → listed.getD j true = false → (∀ e ∈ oj.after, Region.binds md e = true → e.on ≠ i) → oi.apart ops oj = true) →
      i ∈ Region.ready md ops listed → YieldsIf P ops S oi v a → S w →
      wpAnyC P md ops Q S c fuel (listed.setIfInBounds i true) (a.put oi.dst v) w → wpAnyC P md ops Q S c (fuel + 1) listed a w := by
  intro fuel
  induction fuel with
  | zero =>
    intro listed a w _ _ hr hy hS H
    refine ⟨fun h => (by rw [h] at hr; cases hr), fun j hj => ?_⟩
    by_cases hji : j = i
    · subst hji
      exact hy.wpOp hi hS ⟨fun h => absurd h hic, fun _ => ⟨hS, H⟩⟩
    · have := ready_mono hj hji
      rw [H.1] at this
      cases this
  | succ fuel ih =>
    intro listed a w hun0 hfree hr hy hS H
    refine ⟨fun h => (by rw [h] at hr; cases hr), fun j hj => ?_⟩
    by_cases hji : j = i
    · subst hji
      exact hy.wpOp hi hS ⟨fun h => absurd h hic, fun _ => ⟨hS, H⟩⟩
    · have h1 := H.2 j (ready_mono hj hji)
      obtain ⟨hjun, oj, hoj, hall⟩ := mem_ready.1 hj
      have hnot : ∀ e ∈ oj.after, Region.binds md e = true → e.on ≠ i := fun e he hb heq => by
        have h1 := hall e he hb
        have h0 := (mem_ready.1 hr).1
        rw [heq] at h1
        rcases Nat.lt_or_ge i listed.size with h' | h'
        · simp [h'] at h0 h1; rw [h0] at h1; cases h1
        · simp [Array.getElem?_eq_none h'] at h1
      have hjch : j ∉ ch := fun hm => by
        obtain ⟨e, he, hb, hon⟩ := hch j hm oj hoj
        rcases hon with hon | hon
        · exact hnot e he hb hon
        · have h3 := hall e he hb
          have h4 := hun0 _ hon
          rcases Nat.lt_or_ge e.on listed.size with h' | h'
          · simp [h'] at h3 h4
            rw [h4] at h3
            cases h3
          · simp [Array.getElem?_eq_none h'] at h4
      have hjc : j ≠ c := fun e => hjch (e ▸ hcc)
      have hun1 : ∀ m ∈ ch, (listed.setIfInBounds j true).getD m true = false := fun m hm => by
        rw [getD_set_ne true (fun (e : j = m) => hjch (e ▸ hm))]
        exact hun0 m hm
      have h2 := wpOp_putIf hoj (hfree j oj hoj hji hjun hnot) (fun cs b => hsel i oi cs b hi) (fun cs b => hsel j oj cs b hoj) hQ hy h1
      have hfree' : ∀ k ok, ops[k]? = some ok → k ≠ i → (listed.setIfInBounds j true).getD k true = false →
          (∀ e ∈ ok.after, Region.binds md e = true → e.on ≠ i) → oi.apart ops ok = true := fun k ok hk hki hun hno => by
        refine hfree k ok hk hki ?_ hno
        by_cases hjk : j = k
        · subst hjk; exact hjun
        · rw [getD_set_ne true hjk] at hun; exact hun
      refine wpOp_mono (fun a' w' h3 => ⟨fun h => absurd h hjc, fun _ => ⟨(h3.2.2 hjc).1, ih (listed.setIfInBounds j true) a' w' hun1 hfree' (ready_mono hr (Ne.symm hji)) h3.1 (h3.2.2 hjc).1 ?_⟩⟩) h2
      rw [Array.setIfInBounds_comm _ _ hji]
      exact (h3.2.2 hjc).2

theorem wpAnyC_take {i : Nat} {oi : Oper} {v : Value} {fuel : Nat} {listed : Array Bool} {a : Act} {w : World} (hi : ops[i]? = some oi)
    (hs : Region.noSelect ops = true) (hf : Region.free md ops listed i = true) (hr : (Region.ready md ops listed).contains i = true) (hic : i ≠ c) (ch : List Nat) (hwc : waitsFor md ops listed ch c i = true)
    (hQ : ∀ c a w, Q (.panic c) (a.put oi.dst v) w → Q (.panic c) a w) (hy : YieldsIf P ops S oi v a) (hS : S w)
    (h : wpAnyC P md ops Q S c fuel (listed.setIfInBounds i true) (a.put oi.dst v) w) : wpAnyC P md ops Q S c (fuel + 1) listed a w :=
  wpAnyC_first hi (Region.noSelect_spec hs) hQ hic (waitsFor_spec hwc).1 (fun m hm => ((waitsFor_spec hwc).2 m hm).2) fuel listed a w (fun m hm => ((waitsFor_spec hwc).2 m hm).1) (Region.free_spec hi hf) (by simpa using hr) hy hS h

def AllReadyC (P : Program) (md : Region.Mode) (ops : Array Oper) (Q : Exit → Act → World → Prop) (S : World → Prop) (c : Nat) (fuel : Nat) (listed : Array Bool) (a : Act) (w : World) (rs : List Nat) : Prop :=
  ∀ i ∈ rs, wpOp P ops Q i (fun a' w' => (i = c → wpAny P md ops Q fuel (listed.setIfInBounds i true) a' w') ∧ (i ≠ c → S w' ∧ wpAnyC P md ops Q S c fuel (listed.setIfInBounds i true) a' w')) a w
theorem AllReadyC.nil {fuel : Nat} {listed : Array Bool} {a : Act} {w : World} : AllReadyC P md ops Q S c fuel listed a w [] := fun _ h => by cases h
theorem AllReadyC.cons {fuel : Nat} {listed : Array Bool} {a : Act} {w : World} {i : Nat} {o : Oper} {rs : List Nat} (ho : ops[i]? = some o) (hic : i ≠ c)
    (h : ∀ K' : Act → World → Prop, Shut (∀ a w, S w → (S w → wpAnyC P md ops Q S c fuel (listed.setIfInBounds i true) a w) → K' a w) → if Region.wanted o (yielded ops a.tmps) = true then Oper.wp P o a w K' Q else K' (a.put o.dst undef) w)
    (hs : AllReadyC P md ops Q S c fuel listed a w rs) : AllReadyC P md ops Q S c fuel listed a w (i :: rs) := fun j hj => by
  rcases List.mem_cons.1 hj with rfl | hj
  · exact wpOp_step ho (fun K' hK => h K' (fun a w hS hW => hK a w ⟨fun e => absurd e hic, fun _ => ⟨hS, hW hS⟩⟩))
  · exact hs j hj
/-- c comes up, alone: from here on S need not hold. -/
theorem AllReadyC.cut {fuel : Nat} {listed : Array Bool} {a : Act} {w : World} {o : Oper} (ho : ops[c]? = some o)
    (h : ∀ K' : Act → World → Prop, Shut (∀ a w, True → (True → wpAnyH P md ops Q (fun _ => True) fuel (listed.setIfInBounds c true) a w) → K' a w) → if Region.wanted o (yielded ops a.tmps) = true then Oper.wp P o a w K' Q else K' (a.put o.dst undef) w) :
    AllReadyC P md ops Q S c fuel listed a w [c] := fun j hj => by
  obtain rfl : j = c := by simpa using hj
  exact wpOp_step ho (fun K' hK => h K' (fun a w hS hW => hK a w ⟨fun _ => wpAny_of_held _ _ _ _ (hW hS), fun e => absurd rfl e⟩))
theorem wpAnyC_ready {rs : List Nat} {fuel : Nat} {listed : Array Bool} {a : Act} {w : World} (hr : Region.ready md ops listed = rs) (hne : rs ≠ [])
    (h : AllReadyC P md ops Q S c fuel listed a w rs) : wpAnyC P md ops Q S c (fuel + 1) listed a w := ⟨fun h0 => absurd (hr ▸ h0) hne, hr ▸ h⟩
theorem wp_region_cut {id : Nat} (c : Nat) {a : Act} {w : World} (hm : P.follows .mixedOrders = true) (hS : S w.drew)
    (h : S w.drew → wpAnyC P .any ops Q S c ops.size (Array.replicate ops.size false) a w.drew) : (Code.region id ops true).wp P Q a w :=
  wp_region_any hm (wpAny_of_cut _ _ _ _ (h hS))
/-! Short forms: what a step asks for is shown by default. -/
theorem gtA {α : Type _} {l : List α} {i : Nat} (h : i < l.toArray.size) : l.toArray[i] = l[i]'(by simpa using h) := List.getElem_toArray ..
theorem gtB {α : Type _} {a : α} {l : List α} {i : Nat} {h : i + 1 < (a :: l).length} : (a :: l)[i + 1] = l[i]'(Nat.lt_of_succ_lt_succ h) := List.getElem_cons_succ ..
theorem gtC {α : Type _} {a : α} {l : List α} {h : 0 < (a :: l).length} : (a :: l)[0] = a := List.getElem_cons_zero ..
theorem gtD {α : Type _} {l : List α} {i : Nat} {a : α} : l.toArray.setIfInBounds i a = (l.set i a).toArray := List.setIfInBounds_toArray ..
theorem gtE {α : Type _} {a b : α} {l : List α} : (a :: l).set 0 b = b :: l := List.set_cons_zero ..
theorem gtF {α : Type _} {a b : α} {l : List α} {i : Nat} : (a :: l).set (i + 1) b = a :: l.set i b := List.set_cons_succ ..
theorem tkH (i : Nat) {oi : Oper} {v : Value} {fuel : Nat} {listed : Array Bool} {a : Act} {w : World}
    (h : wpAnyH P md ops Q S fuel (listed.setIfInBounds i true) (a.put oi.dst v) w)
    (hi : ops[i]? = some oi := by rfl) (hs : Region.noSelect ops = true := by kernel_rfl) (hf : Region.free md ops listed i = true := by kernel_rfl) (hr : (Region.ready md ops listed).contains i = true := by kernel_rfl)
    (hQ : ∀ c a w, Q (.panic c) (a.put oi.dst v) w → Q (.panic c) a w := by exact fun _ _ _ h => h)
    (hwt : Region.wanted oi (yielded ops a.tmps) = true := by rfl) (hy : ∀ w, S w → (execOp a.eval oi).run P w = .ok (.value v) w := by (intro w hSw; (try dsimp only at hSw); go_simp; (try with_reducible rfl))) (hS : S w := by assumption) :
    wpAnyH P md ops Q S (fuel + 1) listed a w := wpAnyH_take hi hs hf hr hQ (Or.inl ⟨hwt, hy⟩) hS h
theorem tkC (i : Nat) (ch : List Nat) {oi : Oper} {v : Value} {fuel : Nat} {listed : Array Bool} {a : Act} {w : World}
    (h : wpAnyC P md ops Q S c fuel (listed.setIfInBounds i true) (a.put oi.dst v) w)
    (hi : ops[i]? = some oi := by rfl) (hs : Region.noSelect ops = true := by kernel_rfl) (hf : Region.free md ops listed i = true := by kernel_rfl) (hr : (Region.ready md ops listed).contains i = true := by kernel_rfl)
    (hic : i ≠ c := by decide) (hwc : waitsFor md ops listed ch c i = true := by kernel_rfl)
    (hQ : ∀ c a w, Q (.panic c) (a.put oi.dst v) w → Q (.panic c) a w := by exact fun _ _ _ h => h)
    (hwt : Region.wanted oi (yielded ops a.tmps) = true := by rfl) (hy : ∀ w, S w → (execOp a.eval oi).run P w = .ok (.value v) w := by (intro w hSw; (try dsimp only at hSw); go_simp; (try with_reducible rfl))) (hS : S w := by assumption) :
    wpAnyC P md ops Q S c (fuel + 1) listed a w := wpAnyC_take hi hs hf hr hic ch hwc hQ (Or.inl ⟨hwt, hy⟩) hS h
theorem rdH {rs : List Nat} {fuel : Nat} {listed : Array Bool} {a : Act} {w : World} (h : AllReadyH P md ops Q S fuel listed a w rs) (hr : Region.ready md ops listed = rs := by kernel_rfl) (hne : rs ≠ [] := by simp) : wpAnyH P md ops Q S (fuel + 1) listed a w := wpAnyH_ready hr hne h
theorem rdC {rs : List Nat} {fuel : Nat} {listed : Array Bool} {a : Act} {w : World} (h : AllReadyC P md ops Q S c fuel listed a w rs) (hr : Region.ready md ops listed = rs := by kernel_rfl) (hne : rs ≠ [] := by simp) : wpAnyC P md ops Q S c (fuel + 1) listed a w := wpAnyC_ready hr hne h
end
end Go
