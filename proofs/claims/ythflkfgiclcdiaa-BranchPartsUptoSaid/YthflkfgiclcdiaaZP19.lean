/-
  From the claims' readings (DataW) to our words for data ('Ty'): what an argument that is read at all reads as; arguments that are kept read again.
  The program's structs, out of the claims' readings.
-/
import Derived.Test.YthflkfgiclcdiaaRows
import Derived.Test.YthflkfgiclcdiaaZP1
import Derived.Test.YthflkfgiclcdiaaZP2
import Derived.WalkKit
import Derived.ProofKit
import Derived.OpenShut
import Derived.JoinedCond
import Derived.ReadAgain
import Derived.Deep.Slices
set_option linter.unusedVariables false
set_option linter.unusedSimpArgs false
namespace Go.Proofs.Ythflkfgiclcdiaa.Frame
open Go.ChangeShapes Go.WideShapes Go.ChangeAt Go.RowKit Go.Gr
set_option linter.unusedSimpArgs false
set_option linter.unusedVariables false

theorem bulk_part {H : Type} {d : DataW H} {l : List (DataW H)} (h : d ∈ l) : Rows.uptoBulk d ≤ Rows.uptoBulkAll l := by
  induction l with
  | nil => cases h
  | cons x r ih =>
    simp only [Rows.uptoBulkAll]
    cases List.mem_cons.1 h with
    | inl e => subst e; omega
    | inr e => have := ih e; omega
theorem bulk_one {H : Type} (d : DataW H) : 1 ≤ Rows.uptoBulk d := by
  cases d with
  | lit l => cases l <;> simp [Rows.uptoBulk]
  | nil => simp [Rows.uptoBulk]
  | ptr d => simp [Rows.uptoBulk]
  | slice elems spare => simp [Rows.uptoBulk]
  | agg parts => simp [Rows.uptoBulk]
  | iface t d => simp [Rows.uptoBulk]
  | map entries => simp [Rows.uptoBulk]
  | held h => simp [Rows.uptoBulk]
theorem bulk_length {H : Type} (l : List (DataW H)) : l.length ≤ Rows.uptoBulkAll l := by
  induction l with
  | nil => simp [Rows.uptoBulkAll]
  | cons x r ih => have := bulk_one x; simp only [Rows.uptoBulkAll, List.length_cons]; omega
/-- Whatever reads as a datum of small bulk reads as one of ours. -/
def Conv {α : Type} (P : Program) (E : Ty α) (t : TypeId) : Prop :=
  ∀ (H : Type) (enc : TypeId × Value → H) (w : World) (base : Nat) (spare : Nat → Bool) (held : Bool) (fuel : Nat) (cs : List Value) (x : DataW H × List MemPlace),
    Rows.uptoBulk x.1 ≤ 1048576 → DataW.trod enc P w base spare held fuel t cs = some x → ∃ y, E.rep w (fun _ => False) cs y
section
variable {P : Program} {t e : TypeId}
theorem conv_int (ht : P.underlying t = some (.int .i64)) : Conv P Ty.int t := by
  intro H enc w base spare held fuel cs x _ h
  obtain ⟨n, rfl, rfl, hw⟩ := DataW.trod_int ht h
  refine ⟨n, rfl, ?_⟩
  simp [Lit.wf, IntKind.min, IntKind.max, IntKind.signed, IntKind.bits] at hw
  omega
theorem conv_u64 (ht : P.underlying t = some (.int .u64)) : Conv P Ty.u64 t := by
  intro H enc w base spare held fuel cs x _ h
  obtain ⟨n, rfl, rfl, hw⟩ := DataW.trod_int ht h
  simp [Lit.wf, IntKind.min, IntKind.max, IntKind.signed, IntKind.bits] at hw
  refine ⟨n.toNat, ?_, by omega⟩
  rw [Int.toNat_of_nonneg hw.1]
theorem conv_byte (ht : P.underlying t = some (.int .u8)) : Conv P Ty.byte t := by
  intro H enc w base spare held fuel cs x _ h
  obtain ⟨n, rfl, rfl, hw⟩ := DataW.trod_int ht h
  simp [Lit.wf, IntKind.min, IntKind.max, IntKind.signed, IntKind.bits] at hw
  refine ⟨UInt8.ofNat n.toNat, ?_⟩
  show [Value.int .u8 n] = [Value.int .u8 ((UInt8.ofNat n.toNat).toNat : Int)]
  have : ((UInt8.ofNat n.toNat).toNat : Int) = n := by
    rw [UInt8.toNat_ofNat']
    omega
  rw [this]
theorem conv_bool (ht : P.underlying t = some .bool) : Conv P Ty.bool t := by
  intro H enc w base spare held fuel cs x _ h
  obtain ⟨b, rfl, rfl⟩ := DataW.trod_bool ht h
  exact ⟨b, rfl⟩
theorem list_choose {α : Type} {p : Nat → α → Prop} : ∀ n, (∀ i, i < n → ∃ x, p i x) → ∃ ys : List α, ys.length = n ∧ ∀ i (hi : i < ys.length), p i ys[i]
  | 0, _ => ⟨[], rfl, fun i hi => absurd hi (by simp)⟩
  | n + 1, h => by
    obtain ⟨ys, hl, hy⟩ := list_choose n (fun i hi => h i (by omega))
    obtain ⟨z, hz⟩ := h n (by omega)
    refine ⟨ys ++ [z], by simp [hl], fun i hi => ?_⟩
    rcases Nat.lt_or_ge i ys.length with h1 | h1
    · rw [List.getElem_append_left h1]
      exact hy i h1
    · have : i = ys.length := by simp at hi; omega
      subst this
      rw [List.getElem_append_right (Nat.le_refl _)]
      simp only [Nat.sub_self, List.getElem_cons_zero]
      rw [hl]
      exact hz
theorem conv_slice {α : Type} {E : Ty α} (ht : P.underlying t = some (.slice e)) (hn : P.cellsOf e = E.n) (hpos : 0 < E.n) (hE : Conv P E e) : Conv P (Ty.slice E) t := by
  intro H enc w base spare held fuel cs x hb h
  rcases Deep.open_slice ht h with ⟨rfl, rfl⟩ | ⟨a, len, cap, m, n, D, Pl, rfl, _, hl, hm, hmm, rfl, hx⟩
  · exact ⟨[], none, 0, rfl, Nat.le_refl _, by simp [maxLen], by simp [lim], fun h => absurd h (by simp)⟩
  · have hlm : len ≤ m := by rw [hmm]; split <;> omega
    simp only [Rows.uptoBulk] at hb
    have hlen : len ≤ 1048576 := by
      have := bulk_length ((List.range len).map D)
      rw [List.length_map, List.length_range] at this
      omega
    obtain ⟨ys, hyl, hy⟩ := list_choose (p := fun i y => ∃ es, E.rep w (fun _ => False) es y ∧ w.cells? base (a.add (i * E.n)) E.n = some es) len (fun i hi => by
      obtain ⟨cs', h1, h2⟩ := hx i (by omega)
      have hbi : Rows.uptoBulk (D i) ≤ 1048576 := by
        have := bulk_part (d := D i) (l := (List.range len).map D) (List.mem_map.2 ⟨i, List.mem_range.2 hi, rfl⟩)
        omega
      obtain ⟨y, hy⟩ := hE H enc w base spare held n cs' (D i, Pl i) hbi h2
      rw [hn] at h1
      exact ⟨y, cs', hy, h1⟩)
    refine ⟨ys, some a, cap, by rw [hyl], by omega, hm, by rw [hyl, lim_eq]; omega, fun hp => ?_⟩
    obtain ⟨b, off, spot⟩ := a
    have hspot : spot = none := by
      obtain ⟨es, hr, hc⟩ := hy 0 hp
      obtain ⟨_, hel, hcell⟩ := World.cells?_some hc
      have h0 := hcell 0 hpos
      rw [List.getElem?_eq_getElem (by omega)] at h0
      simp only [Nat.zero_mul] at h0
      have h1 : ((⟨b, off, spot⟩ : Addr).add 0).add 0 = ⟨b, off, spot⟩ := by simp [Addr.add]
      rw [h1] at h0
      unfold World.cell? at h0
      split at h0
      · split at h0
        · cases h0
        · rename_i hs
          cases spot
          · rfl
          · simp at hs
      · cases h0
    subst hspot
    have hbl : b < w.heap.size := by
      obtain ⟨es, hr, hc⟩ := hy 0 hp
      obtain ⟨_, hel, hcell⟩ := World.cells?_some hc
      have h0 := hcell 0 hpos
      rw [List.getElem?_eq_getElem (by omega)] at h0
      simp only [Nat.zero_mul] at h0
      have h1 : ((⟨b, off, none⟩ : Addr).add 0).add 0 = ⟨b, off, none⟩ := by simp [Addr.add]
      rw [h1] at h0
      exact lt_of_cell h0
    refine ⟨b, off, rfl, hbl, fun h => h, fun i hi => ?_⟩
    obtain ⟨es, hr, hc⟩ := hy i hi
    refine ⟨es, hr, fun j u hu => ?_⟩
    obtain ⟨_, hel, hcell⟩ := World.cells?_some hc
    have hj : j < E.n := by
      rw [← hel]
      exact (List.getElem?_eq_some_iff.1 hu).1
    have h0 := hcell j hj
    have h1 : ((⟨b, off, none⟩ : Addr).add (i * E.n)).add j = ⟨b, off + i * E.n + j, none⟩ := by
      unfold Addr.add
      by_cases h2 : i * E.n = 0 <;> by_cases h3 : j = 0 <;> simp [h2, h3]
    rw [h1, hu] at h0
    exact h0
end
/-- Arguments that are kept read again. -/
theorem trodAll_carry {H : Type} {enc : TypeId × Value → H} {P : Program} {w w' : World} {base : Nat} {spare : Nat → Bool} {held : Bool} : ∀ {ts : List TypeId} {vs : List Value} {ds : List (DataW H)} {ps : List MemPlace},
    DataW.TrodAll enc P w base spare held ts vs ds ps → (∀ p ∈ ps, w.sameAt w' p) → DataW.TrodAll enc P w' base spare held ts vs ds ps
  | [], [], [], _, h, _ => h
  | _ :: _, _ :: _, _ :: _, _, ⟨p, q, ⟨n, h1⟩, h2, e⟩, hs => ⟨p, q, ⟨n, DataW.trod_carry n _ _ _ h1 (fun x hx => hs x (by rw [e]; exact List.mem_append_left _ hx))⟩, trodAll_carry h2 (fun x hx => hs x (by rw [e]; exact List.mem_append_right _ hx)), e⟩
theorem same_below {w w' : World} (h : Below w.heap.size w w') {p : MemPlace} (hp : p.block < w.heap.size) : w.sameAt w' p := by
  cases p with
  | cell b off => exact cell_eq (h.block b hp)
  | map b => exact h.block b hp
/-- A law's end: true, and all arguments as they were. -/
theorem law_post {H : Type} {enc : TypeId × Value → H} {f : Func} {s : ChangeSpec} {W W' : World} {args : Array Value} {ds : List (DataW H)} {before : List MemPlace} (K : Kids Try.prog (· < Try.prog.types.size)) (hz : ∀ t e, t < Try.prog.types.size → Try.prog.underlying t = some (.slice e) → 0 < Try.prog.cellsOf e)
    (hvars : s.vars = []) (hrt : f.resultTypes = #[4]) (hps : ∀ t ∈ f.params.toList, t < Try.prog.types.size) (hW : DataW.Whole enc Try.prog f.params.toList s.vars false W args.toList ds [] before)
    (hfn : s.fn H (ds ++ []) = { results := [.lit (.bool true)], args := ds }) (hb : Below W.heap.size W W') :
    s.post enc Try.prog f false true false false W args (.bool true) W' := by
  have hW' := hW
  obtain ⟨p, q, hA, hV, rfl, _, _⟩ := hW
  have hlt := hW'.lt
  rw [hvars] at hV
  obtain ⟨_, rfl⟩ := trodVars_none hV
  rw [List.append_nil] at hlt hW'
  refine ⟨ds, [], p, [], p, [], hW', ?_, ?_, ?_, hb.frame _, fun h => by cases h⟩
  · rw [hfn, hrt]
    exact trodAll_mk1 (shut_bool Try.underlying4 true)
  · rw [hfn]
    exact DataW.TrodAll.respare K hz hps (trodAll_carry hA (fun x hx => same_below hb (hlt x hx))) (fun x hx => decide_eq_true (hlt x hx))
  · rw [hfn, hvars]
    rfl
end Go.Proofs.Ythflkfgiclcdiaa.Frame

namespace Go.Proofs.Ythflkfgiclcdiaa.Frame
open Go.ChangeShapes Go.WideShapes Go.ChangeAt Go.RowKit Go.Gr
set_option linter.unusedSimpArgs false
set_option linter.unusedVariables false
theorem conv_bytes : Conv Try.prog Ty.bytes 42 := conv_slice Try.underlying42 (by kernel_rfl) (by decide) (conv_byte Try.underlying5)
theorem conv_list : Conv Try.prog (Ty.slice Ty.bytes) 22 := conv_slice Try.underlying22 (by kernel_rfl) (by decide) conv_bytes
set_option maxRecDepth 100000 in
theorem conv_Txn : Conv Try.prog tTxn 31 := by
  intro H enc w base spare held fuel cs x hb h
  obtain ⟨xs, n, _, rfl, hl, hlen, hf⟩ := DataW.trod_struct Try.underlying31 h
  have hl2 : cs.length = 3 := hl.trans (by kernel_rfl)
  have hlen2 : xs.length = 3 := hlen
  clear hl hlen h
  obtain ⟨c0, cs_1, rfl⟩ : ∃ a r, cs = a :: r := List.exists_cons_of_length_pos (by omega)
  have hl2_1 : cs_1.length = 2 := by simpa using hl2
  clear hl2
  obtain ⟨c1, cs_2, rfl⟩ : ∃ a r, cs_1 = a :: r := List.exists_cons_of_length_pos (by omega)
  have hl2_2 : cs_2.length = 1 := by simpa using hl2_1
  clear hl2_1
  obtain ⟨c2, cs_3, rfl⟩ : ∃ a r, cs_2 = a :: r := List.exists_cons_of_length_pos (by omega)
  have hl2_3 : cs_3.length = 0 := by simpa using hl2_2
  clear hl2_2
  obtain rfl : cs_3 = [] := List.length_eq_zero_iff.1 hl2_3
  obtain ⟨y0, xs_1, rfl⟩ : ∃ a r, xs = a :: r := List.exists_cons_of_length_pos (by omega)
  have hlen2_1 : xs_1.length = 2 := by simpa using hlen2
  clear hlen2
  obtain ⟨y1, xs_2, rfl⟩ : ∃ a r, xs_1 = a :: r := List.exists_cons_of_length_pos (by omega)
  have hlen2_2 : xs_2.length = 1 := by simpa using hlen2_1
  clear hlen2_1
  obtain ⟨y2, xs_3, rfl⟩ : ∃ a r, xs_2 = a :: r := List.exists_cons_of_length_pos (by omega)
  have hlen2_3 : xs_3.length = 0 := by simpa using hlen2_2
  clear hlen2_2
  obtain rfl : xs_3 = [] := List.length_eq_zero_iff.1 hlen2_3
  simp only [Rows.uptoBulk, Rows.uptoBulkAll, List.map_cons, List.map_nil] at hb
  have k0 : Try.prog.cellsOf 29 = 1 := by kernel_rfl
  have h0 := hf 0 _ rfl
  simp only [k0, List.drop_succ_cons, List.drop_zero, List.take_succ_cons, List.take_zero, List.getElem?_cons_succ, List.getElem?_cons_zero] at h0
  obtain ⟨z0, r0⟩ := (conv_u64 Try.underlying29) H enc w base spare held n _ _ (by omega) h0
  obtain ⟨e0, b0⟩ := r0
  obtain rfl := (List.cons.inj e0).1
  have k1 : Try.prog.cellsOf 29 = 1 := by kernel_rfl
  have h1 := hf 1 _ rfl
  simp only [k1, List.drop_succ_cons, List.drop_zero, List.take_succ_cons, List.take_zero, List.getElem?_cons_succ, List.getElem?_cons_zero] at h1
  obtain ⟨z1, r1⟩ := (conv_u64 Try.underlying29) H enc w base spare held n _ _ (by omega) h1
  obtain ⟨e1, b1⟩ := r1
  obtain rfl := (List.cons.inj e1).1
  have k2 : Try.prog.cellsOf 29 = 1 := by kernel_rfl
  have h2 := hf 2 _ rfl
  simp only [k2, List.drop_succ_cons, List.drop_zero, List.take_succ_cons, List.take_zero, List.getElem?_cons_succ, List.getElem?_cons_zero] at h2
  obtain ⟨z2, r2⟩ := (conv_u64 Try.underlying29) H enc w base spare held n _ _ (by omega) h2
  obtain ⟨e2, b2⟩ := r2
  obtain rfl := (List.cons.inj e2).1
  exact ⟨⟨z0, z1, z2⟩, rfl, b0, b1, b2⟩
set_option maxRecDepth 100000 in
theorem conv_Pair : Conv Try.prog tPair 95 := by
  intro H enc w base spare held fuel cs x hb h
  obtain ⟨xs, n, _, rfl, hl, hlen, hf⟩ := DataW.trod_struct Try.underlying95 h
  have hl2 : cs.length = 2 := hl.trans (by kernel_rfl)
  have hlen2 : xs.length = 2 := hlen
  clear hl hlen h
  obtain ⟨c0, cs_1, rfl⟩ : ∃ a r, cs = a :: r := List.exists_cons_of_length_pos (by omega)
  have hl2_1 : cs_1.length = 1 := by simpa using hl2
  clear hl2
  obtain ⟨c1, cs_2, rfl⟩ : ∃ a r, cs_1 = a :: r := List.exists_cons_of_length_pos (by omega)
  have hl2_2 : cs_2.length = 0 := by simpa using hl2_1
  clear hl2_1
  obtain rfl : cs_2 = [] := List.length_eq_zero_iff.1 hl2_2
  obtain ⟨y0, xs_1, rfl⟩ : ∃ a r, xs = a :: r := List.exists_cons_of_length_pos (by omega)
  have hlen2_1 : xs_1.length = 1 := by simpa using hlen2
  clear hlen2
  obtain ⟨y1, xs_2, rfl⟩ : ∃ a r, xs_1 = a :: r := List.exists_cons_of_length_pos (by omega)
  have hlen2_2 : xs_2.length = 0 := by simpa using hlen2_1
  clear hlen2_1
  obtain rfl : xs_2 = [] := List.length_eq_zero_iff.1 hlen2_2
  simp only [Rows.uptoBulk, Rows.uptoBulkAll, List.map_cons, List.map_nil] at hb
  have k0 : Try.prog.cellsOf 42 = 1 := by kernel_rfl
  have h0 := hf 0 _ rfl
  simp only [k0, List.drop_succ_cons, List.drop_zero, List.take_succ_cons, List.take_zero, List.getElem?_cons_succ, List.getElem?_cons_zero] at h0
  obtain ⟨z0, r0⟩ := (conv_bytes) H enc w base spare held n _ _ (by omega) h0
  have k1 : Try.prog.cellsOf 42 = 1 := by kernel_rfl
  have h1 := hf 1 _ rfl
  simp only [k1, List.drop_succ_cons, List.drop_zero, List.take_succ_cons, List.take_zero, List.getElem?_cons_succ, List.getElem?_cons_zero] at h1
  obtain ⟨z1, r1⟩ := (conv_bytes) H enc w base spare held n _ _ (by omega) h1
  exact ⟨⟨z0, z1⟩, _, _, rfl, r0, r1⟩
set_option maxRecDepth 100000 in
theorem conv_Write : Conv Try.prog tWrite 74 := by
  intro H enc w base spare held fuel cs x hb h
  obtain ⟨xs, n, _, rfl, hl, hlen, hf⟩ := DataW.trod_struct Try.underlying74 h
  have hl2 : cs.length = 3 := hl.trans (by kernel_rfl)
  have hlen2 : xs.length = 3 := hlen
  clear hl hlen h
  obtain ⟨c0, cs_1, rfl⟩ : ∃ a r, cs = a :: r := List.exists_cons_of_length_pos (by omega)
  have hl2_1 : cs_1.length = 2 := by simpa using hl2
  clear hl2
  obtain ⟨c1, cs_2, rfl⟩ : ∃ a r, cs_1 = a :: r := List.exists_cons_of_length_pos (by omega)
  have hl2_2 : cs_2.length = 1 := by simpa using hl2_1
  clear hl2_1
  obtain ⟨c2, cs_3, rfl⟩ : ∃ a r, cs_2 = a :: r := List.exists_cons_of_length_pos (by omega)
  have hl2_3 : cs_3.length = 0 := by simpa using hl2_2
  clear hl2_2
  obtain rfl : cs_3 = [] := List.length_eq_zero_iff.1 hl2_3
  obtain ⟨y0, xs_1, rfl⟩ : ∃ a r, xs = a :: r := List.exists_cons_of_length_pos (by omega)
  have hlen2_1 : xs_1.length = 2 := by simpa using hlen2
  clear hlen2
  obtain ⟨y1, xs_2, rfl⟩ : ∃ a r, xs_1 = a :: r := List.exists_cons_of_length_pos (by omega)
  have hlen2_2 : xs_2.length = 1 := by simpa using hlen2_1
  clear hlen2_1
  obtain ⟨y2, xs_3, rfl⟩ : ∃ a r, xs_2 = a :: r := List.exists_cons_of_length_pos (by omega)
  have hlen2_3 : xs_3.length = 0 := by simpa using hlen2_2
  clear hlen2_2
  obtain rfl : xs_3 = [] := List.length_eq_zero_iff.1 hlen2_3
  simp only [Rows.uptoBulk, Rows.uptoBulkAll, List.map_cons, List.map_nil] at hb
  have k0 : Try.prog.cellsOf 42 = 1 := by kernel_rfl
  have h0 := hf 0 _ rfl
  simp only [k0, List.drop_succ_cons, List.drop_zero, List.take_succ_cons, List.take_zero, List.getElem?_cons_succ, List.getElem?_cons_zero] at h0
  obtain ⟨z0, r0⟩ := (conv_bytes) H enc w base spare held n _ _ (by omega) h0
  have k1 : Try.prog.cellsOf 42 = 1 := by kernel_rfl
  have h1 := hf 1 _ rfl
  simp only [k1, List.drop_succ_cons, List.drop_zero, List.take_succ_cons, List.take_zero, List.getElem?_cons_succ, List.getElem?_cons_zero] at h1
  obtain ⟨z1, r1⟩ := (conv_bytes) H enc w base spare held n _ _ (by omega) h1
  have k2 : Try.prog.cellsOf 4 = 1 := by kernel_rfl
  have h2 := hf 2 _ rfl
  simp only [k2, List.drop_succ_cons, List.drop_zero, List.take_succ_cons, List.take_zero, List.getElem?_cons_succ, List.getElem?_cons_zero] at h2
  obtain ⟨z2, r2⟩ := (conv_bool Try.underlying4) H enc w base spare held n _ _ (by omega) h2
  have e2 : [c2] = [Value.bool z2] := r2
  obtain rfl := (List.cons.inj e2).1
  exact ⟨⟨z0, z1, z2⟩, _, _, rfl, r0, r1⟩
set_option maxRecDepth 100000 in
theorem conv_Op : Conv Try.prog tOp 72 := by
  intro H enc w base spare held fuel cs x hb h
  obtain ⟨xs, n, _, rfl, hl, hlen, hf⟩ := DataW.trod_struct Try.underlying72 h
  have hl2 : cs.length = 4 := hl.trans (by kernel_rfl)
  have hlen2 : xs.length = 4 := hlen
  clear hl hlen h
  obtain ⟨c0, cs_1, rfl⟩ : ∃ a r, cs = a :: r := List.exists_cons_of_length_pos (by omega)
  have hl2_1 : cs_1.length = 3 := by simpa using hl2
  clear hl2
  obtain ⟨c1, cs_2, rfl⟩ : ∃ a r, cs_1 = a :: r := List.exists_cons_of_length_pos (by omega)
  have hl2_2 : cs_2.length = 2 := by simpa using hl2_1
  clear hl2_1
  obtain ⟨c2, cs_3, rfl⟩ : ∃ a r, cs_2 = a :: r := List.exists_cons_of_length_pos (by omega)
  have hl2_3 : cs_3.length = 1 := by simpa using hl2_2
  clear hl2_2
  obtain ⟨c3, cs_4, rfl⟩ : ∃ a r, cs_3 = a :: r := List.exists_cons_of_length_pos (by omega)
  have hl2_4 : cs_4.length = 0 := by simpa using hl2_3
  clear hl2_3
  obtain rfl : cs_4 = [] := List.length_eq_zero_iff.1 hl2_4
  obtain ⟨y0, xs_1, rfl⟩ : ∃ a r, xs = a :: r := List.exists_cons_of_length_pos (by omega)
  have hlen2_1 : xs_1.length = 3 := by simpa using hlen2
  clear hlen2
  obtain ⟨y1, xs_2, rfl⟩ : ∃ a r, xs_1 = a :: r := List.exists_cons_of_length_pos (by omega)
  have hlen2_2 : xs_2.length = 2 := by simpa using hlen2_1
  clear hlen2_1
  obtain ⟨y2, xs_3, rfl⟩ : ∃ a r, xs_2 = a :: r := List.exists_cons_of_length_pos (by omega)
  have hlen2_3 : xs_3.length = 1 := by simpa using hlen2_2
  clear hlen2_2
  obtain ⟨y3, xs_4, rfl⟩ : ∃ a r, xs_3 = a :: r := List.exists_cons_of_length_pos (by omega)
  have hlen2_4 : xs_4.length = 0 := by simpa using hlen2_3
  clear hlen2_3
  obtain rfl : xs_4 = [] := List.length_eq_zero_iff.1 hlen2_4
  simp only [Rows.uptoBulk, Rows.uptoBulkAll, List.map_cons, List.map_nil] at hb
  have k0 : Try.prog.cellsOf 3 = 1 := by kernel_rfl
  have h0 := hf 0 _ rfl
  simp only [k0, List.drop_succ_cons, List.drop_zero, List.take_succ_cons, List.take_zero, List.getElem?_cons_succ, List.getElem?_cons_zero] at h0
  obtain ⟨z0, r0⟩ := (conv_int Try.underlying3) H enc w base spare held n _ _ (by omega) h0
  obtain ⟨e0, b0⟩ := r0
  obtain rfl := (List.cons.inj e0).1
  have k1 : Try.prog.cellsOf 42 = 1 := by kernel_rfl
  have h1 := hf 1 _ rfl
  simp only [k1, List.drop_succ_cons, List.drop_zero, List.take_succ_cons, List.take_zero, List.getElem?_cons_succ, List.getElem?_cons_zero] at h1
  obtain ⟨z1, r1⟩ := (conv_bytes) H enc w base spare held n _ _ (by omega) h1
  have k2 : Try.prog.cellsOf 42 = 1 := by kernel_rfl
  have h2 := hf 2 _ rfl
  simp only [k2, List.drop_succ_cons, List.drop_zero, List.take_succ_cons, List.take_zero, List.getElem?_cons_succ, List.getElem?_cons_zero] at h2
  obtain ⟨z2, r2⟩ := (conv_bytes) H enc w base spare held n _ _ (by omega) h2
  have k3 : Try.prog.cellsOf 3 = 1 := by kernel_rfl
  have h3 := hf 3 _ rfl
  simp only [k3, List.drop_succ_cons, List.drop_zero, List.take_succ_cons, List.take_zero, List.getElem?_cons_succ, List.getElem?_cons_zero] at h3
  obtain ⟨z3, r3⟩ := (conv_int Try.underlying3) H enc w base spare held n _ _ (by omega) h3
  obtain ⟨e3, b3⟩ := r3
  obtain rfl := (List.cons.inj e3).1
  exact ⟨⟨z0, z1, z2, z3⟩, _, _, rfl, b0, r1, r2, b3⟩
theorem conv_pairs : Conv Try.prog (Ty.slice tPair) 59 := conv_slice Try.underlying59 (by kernel_rfl) (by decide) conv_Pair
theorem conv_rows : Conv Try.prog (Ty.slice (Ty.slice tPair)) 38 := conv_slice Try.underlying38 (by kernel_rfl) (by decide) conv_pairs
theorem conv_writes : Conv Try.prog (Ty.slice tWrite) 39 := conv_slice Try.underlying39 (by kernel_rfl) (by decide) conv_Write
theorem conv_ops : Conv Try.prog (Ty.slice tOp) 23 := conv_slice Try.underlying23 (by kernel_rfl) (by decide) conv_Op
set_option maxRecDepth 100000 in
theorem conv_Outcome12 : Conv Try.prog tOutcome 47 := by
  intro H enc w base spare held fuel cs x hb h
  obtain ⟨xs, n, _, rfl, hl, hlen, hf⟩ := DataW.trod_struct Try.underlying47 h
  have hl2 : cs.length = 4 := hl.trans (by kernel_rfl)
  have hlen2 : xs.length = 4 := hlen
  clear hl hlen h
  obtain ⟨c0, cs_1, rfl⟩ : ∃ a r, cs = a :: r := List.exists_cons_of_length_pos (by omega)
  have hl2_1 : cs_1.length = 3 := by simpa using hl2
  clear hl2
  obtain ⟨c1, cs_2, rfl⟩ : ∃ a r, cs_1 = a :: r := List.exists_cons_of_length_pos (by omega)
  have hl2_2 : cs_2.length = 2 := by simpa using hl2_1
  clear hl2_1
  obtain ⟨c2, cs_3, rfl⟩ : ∃ a r, cs_2 = a :: r := List.exists_cons_of_length_pos (by omega)
  have hl2_3 : cs_3.length = 1 := by simpa using hl2_2
  clear hl2_2
  obtain ⟨c3, cs_4, rfl⟩ : ∃ a r, cs_3 = a :: r := List.exists_cons_of_length_pos (by omega)
  have hl2_4 : cs_4.length = 0 := by simpa using hl2_3
  clear hl2_3
  obtain rfl : cs_4 = [] := List.length_eq_zero_iff.1 hl2_4
  obtain ⟨y0, xs_1, rfl⟩ : ∃ a r, xs = a :: r := List.exists_cons_of_length_pos (by omega)
  have hlen2_1 : xs_1.length = 3 := by simpa using hlen2
  clear hlen2
  obtain ⟨y1, xs_2, rfl⟩ : ∃ a r, xs_1 = a :: r := List.exists_cons_of_length_pos (by omega)
  have hlen2_2 : xs_2.length = 2 := by simpa using hlen2_1
  clear hlen2_1
  obtain ⟨y2, xs_3, rfl⟩ : ∃ a r, xs_2 = a :: r := List.exists_cons_of_length_pos (by omega)
  have hlen2_3 : xs_3.length = 1 := by simpa using hlen2_2
  clear hlen2_2
  obtain ⟨y3, xs_4, rfl⟩ : ∃ a r, xs_3 = a :: r := List.exists_cons_of_length_pos (by omega)
  have hlen2_4 : xs_4.length = 0 := by simpa using hlen2_3
  clear hlen2_3
  obtain rfl : xs_4 = [] := List.length_eq_zero_iff.1 hlen2_4
  simp only [Rows.uptoBulk, Rows.uptoBulkAll, List.map_cons, List.map_nil] at hb
  have k0 : Try.prog.cellsOf 3 = 1 := by kernel_rfl
  have h0 := hf 0 _ rfl
  simp only [k0, List.drop_succ_cons, List.drop_zero, List.take_succ_cons, List.take_zero, List.getElem?_cons_succ, List.getElem?_cons_zero] at h0
  obtain ⟨z0, r0⟩ := (conv_int Try.underlying3) H enc w base spare held n _ _ (by omega) h0
  obtain ⟨e0, b0⟩ := r0
  obtain rfl := (List.cons.inj e0).1
  have k1 : Try.prog.cellsOf 3 = 1 := by kernel_rfl
  have h1 := hf 1 _ rfl
  simp only [k1, List.drop_succ_cons, List.drop_zero, List.take_succ_cons, List.take_zero, List.getElem?_cons_succ, List.getElem?_cons_zero] at h1
  obtain ⟨z1, r1⟩ := (conv_int Try.underlying3) H enc w base spare held n _ _ (by omega) h1
  obtain ⟨e1, b1⟩ := r1
  obtain rfl := (List.cons.inj e1).1
  have k2 : Try.prog.cellsOf 38 = 1 := by kernel_rfl
  have h2 := hf 2 _ rfl
  simp only [k2, List.drop_succ_cons, List.drop_zero, List.take_succ_cons, List.take_zero, List.getElem?_cons_succ, List.getElem?_cons_zero] at h2
  obtain ⟨z2, r2⟩ := (conv_rows) H enc w base spare held n _ _ (by omega) h2
  have k3 : Try.prog.cellsOf 39 = 1 := by kernel_rfl
  have h3 := hf 3 _ rfl
  simp only [k3, List.drop_succ_cons, List.drop_zero, List.take_succ_cons, List.take_zero, List.getElem?_cons_succ, List.getElem?_cons_zero] at h3
  obtain ⟨z3, r3⟩ := (conv_writes) H enc w base spare held n _ _ (by omega) h3
  exact ⟨⟨z0, z1, z2, z3⟩, _, _, rfl, b0, b1, r2, r3⟩
set_option maxRecDepth 100000 in
theorem conv_Answer17 : Conv Try.prog tAnswer 49 := by
  intro H enc w base spare held fuel cs x hb h
  obtain ⟨xs, n, _, rfl, hl, hlen, hf⟩ := DataW.trod_struct Try.underlying49 h
  have hl2 : cs.length = 15 := hl.trans (by kernel_rfl)
  have hlen2 : xs.length = 10 := hlen
  clear hl hlen h
  obtain ⟨c0, cs_1, rfl⟩ : ∃ a r, cs = a :: r := List.exists_cons_of_length_pos (by omega)
  have hl2_1 : cs_1.length = 14 := by simpa using hl2
  clear hl2
  obtain ⟨c1, cs_2, rfl⟩ : ∃ a r, cs_1 = a :: r := List.exists_cons_of_length_pos (by omega)
  have hl2_2 : cs_2.length = 13 := by simpa using hl2_1
  clear hl2_1
  obtain ⟨c2, cs_3, rfl⟩ : ∃ a r, cs_2 = a :: r := List.exists_cons_of_length_pos (by omega)
  have hl2_3 : cs_3.length = 12 := by simpa using hl2_2
  clear hl2_2
  obtain ⟨c3, cs_4, rfl⟩ : ∃ a r, cs_3 = a :: r := List.exists_cons_of_length_pos (by omega)
  have hl2_4 : cs_4.length = 11 := by simpa using hl2_3
  clear hl2_3
  obtain ⟨c4, cs_5, rfl⟩ : ∃ a r, cs_4 = a :: r := List.exists_cons_of_length_pos (by omega)
  have hl2_5 : cs_5.length = 10 := by simpa using hl2_4
  clear hl2_4
  obtain ⟨c5, cs_6, rfl⟩ : ∃ a r, cs_5 = a :: r := List.exists_cons_of_length_pos (by omega)
  have hl2_6 : cs_6.length = 9 := by simpa using hl2_5
  clear hl2_5
  obtain ⟨c6, cs_7, rfl⟩ : ∃ a r, cs_6 = a :: r := List.exists_cons_of_length_pos (by omega)
  have hl2_7 : cs_7.length = 8 := by simpa using hl2_6
  clear hl2_6
  obtain ⟨c7, cs_8, rfl⟩ : ∃ a r, cs_7 = a :: r := List.exists_cons_of_length_pos (by omega)
  have hl2_8 : cs_8.length = 7 := by simpa using hl2_7
  clear hl2_7
  obtain ⟨c8, cs_9, rfl⟩ : ∃ a r, cs_8 = a :: r := List.exists_cons_of_length_pos (by omega)
  have hl2_9 : cs_9.length = 6 := by simpa using hl2_8
  clear hl2_8
  obtain ⟨c9, cs_10, rfl⟩ : ∃ a r, cs_9 = a :: r := List.exists_cons_of_length_pos (by omega)
  have hl2_10 : cs_10.length = 5 := by simpa using hl2_9
  clear hl2_9
  obtain ⟨c10, cs_11, rfl⟩ : ∃ a r, cs_10 = a :: r := List.exists_cons_of_length_pos (by omega)
  have hl2_11 : cs_11.length = 4 := by simpa using hl2_10
  clear hl2_10
  obtain ⟨c11, cs_12, rfl⟩ : ∃ a r, cs_11 = a :: r := List.exists_cons_of_length_pos (by omega)
  have hl2_12 : cs_12.length = 3 := by simpa using hl2_11
  clear hl2_11
  obtain ⟨c12, cs_13, rfl⟩ : ∃ a r, cs_12 = a :: r := List.exists_cons_of_length_pos (by omega)
  have hl2_13 : cs_13.length = 2 := by simpa using hl2_12
  clear hl2_12
  obtain ⟨c13, cs_14, rfl⟩ : ∃ a r, cs_13 = a :: r := List.exists_cons_of_length_pos (by omega)
  have hl2_14 : cs_14.length = 1 := by simpa using hl2_13
  clear hl2_13
  obtain ⟨c14, cs_15, rfl⟩ : ∃ a r, cs_14 = a :: r := List.exists_cons_of_length_pos (by omega)
  have hl2_15 : cs_15.length = 0 := by simpa using hl2_14
  clear hl2_14
  obtain rfl : cs_15 = [] := List.length_eq_zero_iff.1 hl2_15
  obtain ⟨y0, xs_1, rfl⟩ : ∃ a r, xs = a :: r := List.exists_cons_of_length_pos (by omega)
  have hlen2_1 : xs_1.length = 9 := by simpa using hlen2
  clear hlen2
  obtain ⟨y1, xs_2, rfl⟩ : ∃ a r, xs_1 = a :: r := List.exists_cons_of_length_pos (by omega)
  have hlen2_2 : xs_2.length = 8 := by simpa using hlen2_1
  clear hlen2_1
  obtain ⟨y2, xs_3, rfl⟩ : ∃ a r, xs_2 = a :: r := List.exists_cons_of_length_pos (by omega)
  have hlen2_3 : xs_3.length = 7 := by simpa using hlen2_2
  clear hlen2_2
  obtain ⟨y3, xs_4, rfl⟩ : ∃ a r, xs_3 = a :: r := List.exists_cons_of_length_pos (by omega)
  have hlen2_4 : xs_4.length = 6 := by simpa using hlen2_3
  clear hlen2_3
  obtain ⟨y4, xs_5, rfl⟩ : ∃ a r, xs_4 = a :: r := List.exists_cons_of_length_pos (by omega)
  have hlen2_5 : xs_5.length = 5 := by simpa using hlen2_4
  clear hlen2_4
  obtain ⟨y5, xs_6, rfl⟩ : ∃ a r, xs_5 = a :: r := List.exists_cons_of_length_pos (by omega)
  have hlen2_6 : xs_6.length = 4 := by simpa using hlen2_5
  clear hlen2_5
  obtain ⟨y6, xs_7, rfl⟩ : ∃ a r, xs_6 = a :: r := List.exists_cons_of_length_pos (by omega)
  have hlen2_7 : xs_7.length = 3 := by simpa using hlen2_6
  clear hlen2_6
  obtain ⟨y7, xs_8, rfl⟩ : ∃ a r, xs_7 = a :: r := List.exists_cons_of_length_pos (by omega)
  have hlen2_8 : xs_8.length = 2 := by simpa using hlen2_7
  clear hlen2_7
  obtain ⟨y8, xs_9, rfl⟩ : ∃ a r, xs_8 = a :: r := List.exists_cons_of_length_pos (by omega)
  have hlen2_9 : xs_9.length = 1 := by simpa using hlen2_8
  clear hlen2_8
  obtain ⟨y9, xs_10, rfl⟩ : ∃ a r, xs_9 = a :: r := List.exists_cons_of_length_pos (by omega)
  have hlen2_10 : xs_10.length = 0 := by simpa using hlen2_9
  clear hlen2_9
  obtain rfl : xs_10 = [] := List.length_eq_zero_iff.1 hlen2_10
  simp only [Rows.uptoBulk, Rows.uptoBulkAll, List.map_cons, List.map_nil] at hb
  have k0 : Try.prog.cellsOf 3 = 1 := by kernel_rfl
  have h0 := hf 0 _ rfl
  simp only [k0, List.drop_succ_cons, List.drop_zero, List.take_succ_cons, List.take_zero, List.getElem?_cons_succ, List.getElem?_cons_zero] at h0
  obtain ⟨z0, r0⟩ := (conv_int Try.underlying3) H enc w base spare held n _ _ (by omega) h0
  obtain ⟨e0, b0⟩ := r0
  obtain rfl := (List.cons.inj e0).1
  have k1 : Try.prog.cellsOf 29 = 1 := by kernel_rfl
  have h1 := hf 1 _ rfl
  simp only [k1, List.drop_succ_cons, List.drop_zero, List.take_succ_cons, List.take_zero, List.getElem?_cons_succ, List.getElem?_cons_zero] at h1
  obtain ⟨z1, r1⟩ := (conv_u64 Try.underlying29) H enc w base spare held n _ _ (by omega) h1
  obtain ⟨e1, b1⟩ := r1
  obtain rfl := (List.cons.inj e1).1
  have k2 : Try.prog.cellsOf 29 = 1 := by kernel_rfl
  have h2 := hf 2 _ rfl
  simp only [k2, List.drop_succ_cons, List.drop_zero, List.take_succ_cons, List.take_zero, List.getElem?_cons_succ, List.getElem?_cons_zero] at h2
  obtain ⟨z2, r2⟩ := (conv_u64 Try.underlying29) H enc w base spare held n _ _ (by omega) h2
  obtain ⟨e2, b2⟩ := r2
  obtain rfl := (List.cons.inj e2).1
  have k3 : Try.prog.cellsOf 31 = 3 := by kernel_rfl
  have h3 := hf 3 _ rfl
  simp only [k3, List.drop_succ_cons, List.drop_zero, List.take_succ_cons, List.take_zero, List.getElem?_cons_succ, List.getElem?_cons_zero] at h3
  obtain ⟨z3, r3⟩ := (conv_Txn) H enc w base spare held n _ _ (by omega) h3
  obtain ⟨e3, b3⟩ := r3
  obtain ⟨f0, e3a⟩ := List.cons.inj e3
  obtain ⟨f1, e3b⟩ := List.cons.inj e3a
  obtain ⟨f2, _⟩ := List.cons.inj e3b
  subst f0 f1 f2
  have k4 : Try.prog.cellsOf 29 = 1 := by kernel_rfl
  have h4 := hf 4 _ rfl
  simp only [k4, List.drop_succ_cons, List.drop_zero, List.take_succ_cons, List.take_zero, List.getElem?_cons_succ, List.getElem?_cons_zero] at h4
  obtain ⟨z4, r4⟩ := (conv_u64 Try.underlying29) H enc w base spare held n _ _ (by omega) h4
  obtain ⟨e4, b4⟩ := r4
  obtain rfl := (List.cons.inj e4).1
  have k5 : Try.prog.cellsOf 3 = 1 := by kernel_rfl
  have h5 := hf 5 _ rfl
  simp only [k5, List.drop_succ_cons, List.drop_zero, List.take_succ_cons, List.take_zero, List.getElem?_cons_succ, List.getElem?_cons_zero] at h5
  obtain ⟨z5, r5⟩ := (conv_int Try.underlying3) H enc w base spare held n _ _ (by omega) h5
  obtain ⟨e5, b5⟩ := r5
  obtain rfl := (List.cons.inj e5).1
  have k6 : Try.prog.cellsOf 47 = 4 := by kernel_rfl
  have h6 := hf 6 _ rfl
  simp only [k6, List.drop_succ_cons, List.drop_zero, List.take_succ_cons, List.take_zero, List.getElem?_cons_succ, List.getElem?_cons_zero] at h6
  obtain ⟨z6, r6⟩ := (conv_Outcome12) H enc w base spare held n _ _ (by omega) h6
  obtain ⟨o2, o3, e6, o_b0, o_b1, o_r2, o_r3⟩ := r6
  obtain ⟨f0, e6a⟩ := List.cons.inj e6
  obtain ⟨f1, e6b⟩ := List.cons.inj e6a
  obtain ⟨f2, e6c⟩ := List.cons.inj e6b
  obtain ⟨f3, _⟩ := List.cons.inj e6c
  subst f0 f1 f2 f3
  have k7 : Try.prog.cellsOf 4 = 1 := by kernel_rfl
  have h7 := hf 7 _ rfl
  simp only [k7, List.drop_succ_cons, List.drop_zero, List.take_succ_cons, List.take_zero, List.getElem?_cons_succ, List.getElem?_cons_zero] at h7
  obtain ⟨z7, r7⟩ := (conv_bool Try.underlying4) H enc w base spare held n _ _ (by omega) h7
  have e7 : [c12] = [Value.bool z7] := r7
  obtain rfl := (List.cons.inj e7).1
  have k8 : Try.prog.cellsOf 42 = 1 := by kernel_rfl
  have h8 := hf 8 _ rfl
  simp only [k8, List.drop_succ_cons, List.drop_zero, List.take_succ_cons, List.take_zero, List.getElem?_cons_succ, List.getElem?_cons_zero] at h8
  obtain ⟨z8, r8⟩ := (conv_bytes) H enc w base spare held n _ _ (by omega) h8
  have k9 : Try.prog.cellsOf 29 = 1 := by kernel_rfl
  have h9 := hf 9 _ rfl
  simp only [k9, List.drop_succ_cons, List.drop_zero, List.take_succ_cons, List.take_zero, List.getElem?_cons_succ, List.getElem?_cons_zero] at h9
  obtain ⟨z9, r9⟩ := (conv_u64 Try.underlying29) H enc w base spare held n _ _ (by omega) h9
  obtain ⟨e9, b9⟩ := r9
  obtain rfl := (List.cons.inj e9).1
  exact ⟨⟨z0, z1, z2, z3, z4, z5, z6, z7, z8, z9⟩, _, _, _, rfl, b0, b1, b2, b3.1, b3.2.1, b3.2.2, b4, b5, o_b0, o_b1, o_r2, o_r3, r8, b9⟩
theorem conv_answers : Conv Try.prog (Ty.slice tAnswer) 24 := conv_slice Try.underlying24 (by kernel_rfl) (by decide) conv_Answer17
end Go.Proofs.Ythflkfgiclcdiaa.Frame
