/-
  From the claims' readings (DataW) to our words for data ('Ty'): what an argument that is read at all reads as; arguments that are kept read again.
-/
import Derived.Test.YthebdlkmoailaaaGreatDoorRows
import Derived.Test.YthebdlkmoailaaaGreatDoorZP1
import Derived.Test.YthebdlkmoailaaaGreatDoorZP3
import Derived.WalkKit
import Derived.ProofKit
import Derived.OpenShut
import Derived.JoinedCond
import Derived.ReadAgain
import Derived.Deep.Slices
set_option linter.unusedVariables false
set_option linter.unusedSimpArgs false
namespace Go.Proofs.YthebdlkmoailaaaGreatDoor.Frame
open Go.ChangeShapes Go.WideShapes Go.ChangeAt Go.RowKit Go.Gr
set_option linter.unusedSimpArgs false
set_option linter.unusedVariables false

theorem bulk_part {H : Type} {d : DataW H} {l : List (DataW H)} (h : d ∈ l) : Rows.uptoBulk d ≤ Rows.uptoBulkAll l := by
  induction l with
  | nil => cases h
  | cons x r ih =>
    simp only [Rows.uptoBulkAll]
    cases List.mem_cons.1 h with
    | inl e => subst e; omega
    | inr e => have := ih e; omega
theorem bulk_one {H : Type} (d : DataW H) : 1 ≤ Rows.uptoBulk d := by
  cases d with
  | lit l => cases l <;> simp [Rows.uptoBulk]
  | nil => simp [Rows.uptoBulk]
  | ptr d => simp [Rows.uptoBulk]
  | slice elems spare => simp [Rows.uptoBulk]
  | agg parts => simp [Rows.uptoBulk]
  | iface t d => simp [Rows.uptoBulk]
  | map entries => simp [Rows.uptoBulk]
  | held h => simp [Rows.uptoBulk]
theorem bulk_length {H : Type} (l : List (DataW H)) : l.length ≤ Rows.uptoBulkAll l := by
  induction l with
  | nil => simp [Rows.uptoBulkAll]
  | cons x r ih => have := bulk_one x; simp only [Rows.uptoBulkAll, List.length_cons]; omega
/-- Whatever reads as a datum of small bulk reads as one of ours. -/
def Conv {α : Type} (P : Program) (E : Ty α) (t : TypeId) : Prop :=
  ∀ (H : Type) (enc : TypeId × Value → H) (w : World) (base : Nat) (spare : Nat → Bool) (held : Bool) (fuel : Nat) (cs : List Value) (x : DataW H × List MemPlace),
    Rows.uptoBulk x.1 ≤ 1048576 → DataW.trod enc P w base spare held fuel t cs = some x → ∃ y, E.rep w (fun _ => False) cs y
section
variable {P : Program} {t e : TypeId}
theorem conv_int (ht : P.underlying t = some (.int .i64)) : Conv P Ty.int t := by
  intro H enc w base spare held fuel cs x _ h
  obtain ⟨n, rfl, rfl, hw⟩ := DataW.trod_int ht h
  refine ⟨n, rfl, ?_⟩
  simp [Lit.wf, IntKind.min, IntKind.max, IntKind.signed, IntKind.bits] at hw
  omega
theorem conv_u64 (ht : P.underlying t = some (.int .u64)) : Conv P Ty.u64 t := by
  intro H enc w base spare held fuel cs x _ h
  obtain ⟨n, rfl, rfl, hw⟩ := DataW.trod_int ht h
  simp [Lit.wf, IntKind.min, IntKind.max, IntKind.signed, IntKind.bits] at hw
  refine ⟨n.toNat, ?_, by omega⟩
  rw [Int.toNat_of_nonneg hw.1]
theorem conv_byte (ht : P.underlying t = some (.int .u8)) : Conv P Ty.byte t := by
  intro H enc w base spare held fuel cs x _ h
  obtain ⟨n, rfl, rfl, hw⟩ := DataW.trod_int ht h
  simp [Lit.wf, IntKind.min, IntKind.max, IntKind.signed, IntKind.bits] at hw
  refine ⟨UInt8.ofNat n.toNat, ?_⟩
  show [Value.int .u8 n] = [Value.int .u8 ((UInt8.ofNat n.toNat).toNat : Int)]
  have : ((UInt8.ofNat n.toNat).toNat : Int) = n := by
    rw [UInt8.toNat_ofNat']
    omega
  rw [this]
theorem list_choose {α : Type} {p : Nat → α → Prop} : ∀ n, (∀ i, i < n → ∃ x, p i x) → ∃ ys : List α, ys.length = n ∧ ∀ i (hi : i < ys.length), p i ys[i]
  | 0, _ => ⟨[], rfl, fun i hi => absurd hi (by simp)⟩
  | n + 1, h => by
    obtain ⟨ys, hl, hy⟩ := list_choose n (fun i hi => h i (by omega))
    obtain ⟨z, hz⟩ := h n (by omega)
    refine ⟨ys ++ [z], by simp [hl], fun i hi => ?_⟩
    rcases Nat.lt_or_ge i ys.length with h1 | h1
    · rw [List.getElem_append_left h1]
      exact hy i h1
    · have : i = ys.length := by simp at hi; omega
      subst this
      rw [List.getElem_append_right (Nat.le_refl _)]
      simp only [Nat.sub_self, List.getElem_cons_zero]
      rw [hl]
      exact hz
theorem conv_slice {α : Type} {E : Ty α} (ht : P.underlying t = some (.slice e)) (hn : P.cellsOf e = E.n) (hpos : 0 < E.n) (hE : Conv P E e) : Conv P (Ty.slice E) t := by
  intro H enc w base spare held fuel cs x hb h
  rcases Deep.open_slice ht h with ⟨rfl, rfl⟩ | ⟨a, len, cap, m, n, D, Pl, rfl, _, hl, hm, hmm, rfl, hx⟩
  · exact ⟨[], none, 0, rfl, Nat.le_refl _, by simp [maxLen], by simp [lim], fun h => absurd h (by simp)⟩
  · have hlm : len ≤ m := by rw [hmm]; split <;> omega
    simp only [Rows.uptoBulk] at hb
    have hlen : len ≤ 1048576 := by
      have := bulk_length ((List.range len).map D)
      rw [List.length_map, List.length_range] at this
      omega
    obtain ⟨ys, hyl, hy⟩ := list_choose (p := fun i y => ∃ es, E.rep w (fun _ => False) es y ∧ w.cells? base (a.add (i * E.n)) E.n = some es) len (fun i hi => by
      obtain ⟨cs', h1, h2⟩ := hx i (by omega)
      have hbi : Rows.uptoBulk (D i) ≤ 1048576 := by
        have := bulk_part (d := D i) (l := (List.range len).map D) (List.mem_map.2 ⟨i, List.mem_range.2 hi, rfl⟩)
        omega
      obtain ⟨y, hy⟩ := hE H enc w base spare held n cs' (D i, Pl i) hbi h2
      rw [hn] at h1
      exact ⟨y, cs', hy, h1⟩)
    refine ⟨ys, some a, cap, by rw [hyl], by omega, hm, by rw [hyl, lim_eq]; omega, fun hp => ?_⟩
    obtain ⟨b, off, spot⟩ := a
    have hspot : spot = none := by
      obtain ⟨es, hr, hc⟩ := hy 0 hp
      obtain ⟨_, hel, hcell⟩ := World.cells?_some hc
      have h0 := hcell 0 hpos
      rw [List.getElem?_eq_getElem (by omega)] at h0
      simp only [Nat.zero_mul] at h0
      have h1 : ((⟨b, off, spot⟩ : Addr).add 0).add 0 = ⟨b, off, spot⟩ := by simp [Addr.add]
      rw [h1] at h0
      unfold World.cell? at h0
      split at h0
      · split at h0
        · cases h0
        · rename_i hs
          cases spot
          · rfl
          · simp at hs
      · cases h0
    subst hspot
    have hbl : b < w.heap.size := by
      obtain ⟨es, hr, hc⟩ := hy 0 hp
      obtain ⟨_, hel, hcell⟩ := World.cells?_some hc
      have h0 := hcell 0 hpos
      rw [List.getElem?_eq_getElem (by omega)] at h0
      simp only [Nat.zero_mul] at h0
      have h1 : ((⟨b, off, none⟩ : Addr).add 0).add 0 = ⟨b, off, none⟩ := by simp [Addr.add]
      rw [h1] at h0
      exact lt_of_cell h0
    refine ⟨b, off, rfl, hbl, fun h => h, fun i hi => ?_⟩
    obtain ⟨es, hr, hc⟩ := hy i hi
    refine ⟨es, hr, fun j u hu => ?_⟩
    obtain ⟨_, hel, hcell⟩ := World.cells?_some hc
    have hj : j < E.n := by
      rw [← hel]
      exact (List.getElem?_eq_some_iff.1 hu).1
    have h0 := hcell j hj
    have h1 : ((⟨b, off, none⟩ : Addr).add (i * E.n)).add j = ⟨b, off + i * E.n + j, none⟩ := by
      unfold Addr.add
      by_cases h2 : i * E.n = 0 <;> by_cases h3 : j = 0 <;> simp [h2, h3]
    rw [h1, hu] at h0
    exact h0
end
/-- Arguments that are kept read again. -/
theorem trodAll_carry {H : Type} {enc : TypeId × Value → H} {P : Program} {w w' : World} {base : Nat} {spare : Nat → Bool} {held : Bool} : ∀ {ts : List TypeId} {vs : List Value} {ds : List (DataW H)} {ps : List MemPlace},
    DataW.TrodAll enc P w base spare held ts vs ds ps → (∀ p ∈ ps, w.sameAt w' p) → DataW.TrodAll enc P w' base spare held ts vs ds ps
  | [], [], [], _, h, _ => h
  | _ :: _, _ :: _, _ :: _, _, ⟨p, q, ⟨n, h1⟩, h2, e⟩, hs => ⟨p, q, ⟨n, DataW.trod_carry n _ _ _ h1 (fun x hx => hs x (by rw [e]; exact List.mem_append_left _ hx))⟩, trodAll_carry h2 (fun x hx => hs x (by rw [e]; exact List.mem_append_right _ hx)), e⟩
theorem same_below {w w' : World} (h : Below w.heap.size w w') {p : MemPlace} (hp : p.block < w.heap.size) : w.sameAt w' p := by
  cases p with
  | cell b off => exact cell_eq (h.block b hp)
  | map b => exact h.block b hp
/-- A law's end: true, and all arguments as they were. -/
theorem law_post {H : Type} {enc : TypeId × Value → H} {f : Func} {s : ChangeSpec} {W W' : World} {args : Array Value} {ds : List (DataW H)} {before : List MemPlace} (K : Kids Tryz.prog (· < Tryz.prog.types.size)) (hz : ∀ t e, t < Tryz.prog.types.size → Tryz.prog.underlying t = some (.slice e) → 0 < Tryz.prog.cellsOf e)
    (hvars : s.vars = []) (hrt : f.resultTypes = #[4]) (hps : ∀ t ∈ f.params.toList, t < Tryz.prog.types.size) (hW : DataW.Whole enc Tryz.prog f.params.toList s.vars false W args.toList ds [] before)
    (hfn : s.fn H (ds ++ []) = { results := [.lit (.bool true)], args := ds }) (hb : Below W.heap.size W W') :
    s.post enc Tryz.prog f false true false false W args (.bool true) W' := by
  have hW' := hW
  obtain ⟨p, q, hA, hV, rfl, _, _⟩ := hW
  have hlt := hW'.lt
  rw [hvars] at hV
  obtain ⟨_, rfl⟩ := trodVars_none hV
  rw [List.append_nil] at hlt hW'
  refine ⟨ds, [], p, [], p, [], hW', ?_, ?_, ?_, hb.frame _, fun h => by cases h⟩
  · rw [hfn, hrt]
    exact trodAll_mk1 (shut_bool Tryz.underlying4 true)
  · rw [hfn]
    exact DataW.TrodAll.respare K hz hps (trodAll_carry hA (fun x hx => same_below hb (hlt x hx))) (fun x hx => decide_eq_true (hlt x hx))
  · rw [hfn, hvars]
    rfl
end Go.Proofs.YthebdlkmoailaaaGreatDoor.Frame
