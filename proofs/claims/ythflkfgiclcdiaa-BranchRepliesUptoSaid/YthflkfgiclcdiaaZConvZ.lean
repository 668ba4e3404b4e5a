/-
  From the claims' readings to our words for data, with what the bulk says of sizes: rows of pairs.
-/
import Derived.Test.YthflkfgiclcdiaaZP19
import Derived.Test.YthflkfgiclcdiaaZP14
namespace Go.Proofs.Ythflkfgiclcdiaa.Frame
open Go.ChangeShapes Go.WideShapes Go.ChangeAt Go.RowKit Go.Gr
set_option linter.unusedSimpArgs false
set_option linter.unusedVariables false
/-- Whatever reads as a datum of small bulk reads as one of ours, of no more size than the bulk. -/
def ConvZ {α : Type} (P : Program) (E : Ty α) (t : TypeId) (sz : α → Nat) : Prop :=
  ∀ (H : Type) (enc : TypeId × Value → H) (w : World) (base : Nat) (spare : Nat → Bool) (held : Bool) (fuel : Nat) (cs : List Value) (x : DataW H × List MemPlace),
    Rows.uptoBulk x.1 ≤ 1048576 → DataW.trod enc P w base spare held fuel t cs = some x → ∃ y, E.rep w (fun _ => False) cs y ∧ sz y + 1 ≤ Rows.uptoBulk x.1
theorem sum_bulk {α H : Type} (sz : α → Nat) : ∀ (ys : List α) (n : Nat) (D : Nat → DataW H), ys.length = n → (∀ i (hi : i < ys.length), sz ys[i] + 1 ≤ Rows.uptoBulk (D i)) → (ys.map fun y => sz y + 1).sum ≤ Rows.uptoBulkAll ((List.range n).map D)
  | [], n, D, h, _ => by simp
  | y :: ys, n, D, h, hs => by
    obtain ⟨m, rfl⟩ : ∃ m, n = m + 1 := ⟨ys.length, by simpa using h.symm⟩
    have h1 := sum_bulk sz ys m (fun i => D (i + 1)) (by simpa using h) (fun i hi => by
      have := hs (i + 1) (by simpa using hi)
      simp only [List.getElem_cons_succ] at this
      exact this)
    have h0 := hs 0 (by simp)
    simp only [List.getElem_cons_zero] at h0
    have h2 : (List.range (m + 1)).map D = D 0 :: (List.range m).map (fun i => D (i + 1)) := by
      rw [List.range_succ_eq_map, List.map_cons, List.map_map]
      rfl
    rw [h2]
    simp only [Rows.uptoBulkAll, List.map_cons, List.sum_cons]
    omega
section
variable {P : Program} {t e : TypeId}
theorem ConvZ.of {α : Type} {E : Ty α} (h : Conv P E t) : ConvZ P E t (fun _ => 0) := fun H enc w base spare held fuel cs x hb hx => by
  obtain ⟨y, hy⟩ := h H enc w base spare held fuel cs x hb hx
  exact ⟨y, hy, bulk_one _⟩
theorem conv_sliceZ {α : Type} {E : Ty α} {sz : α → Nat} (ht : P.underlying t = some (.slice e)) (hn : P.cellsOf e = E.n) (hpos : 0 < E.n) (hE : ConvZ P E e sz) : ConvZ P (Ty.slice E) t (fun ys => (ys.map fun y => sz y + 1).sum) := by
  intro H enc w base spare held fuel cs x hb h
  have h' := h
  rcases Deep.open_slice ht h with ⟨rfl, rfl⟩ | ⟨a, len, cap, m, n, D, Pl, rfl, _, hl, hm, hmm, rfl, hx⟩
  · exact ⟨[], ⟨none, 0, rfl, Nat.le_refl _, by simp [maxLen], by simp [lim], fun h => absurd h (by simp)⟩, by simp [Rows.uptoBulk]⟩
  · have hlm : len ≤ m := by rw [hmm]; split <;> omega
    simp only [Rows.uptoBulk] at hb
    have hlen : len ≤ 1048576 := by
      have := bulk_length ((List.range len).map D)
      rw [List.length_map, List.length_range] at this
      omega
    obtain ⟨ys, hyl, hy⟩ := list_choose (p := fun i y => (∃ es, E.rep w (fun _ => False) es y ∧ w.cells? base (a.add (i * E.n)) E.n = some es) ∧ sz y + 1 ≤ Rows.uptoBulk (D i)) len (fun i hi => by
      obtain ⟨cs', h1, h2⟩ := hx i (by omega)
      have hbi : Rows.uptoBulk (D i) ≤ 1048576 := by
        have := bulk_part (d := D i) (l := (List.range len).map D) (List.mem_map.2 ⟨i, List.mem_range.2 hi, rfl⟩)
        omega
      obtain ⟨y, hy, hz⟩ := hE H enc w base spare held n cs' (D i, Pl i) hbi h2
      rw [hn] at h1
      exact ⟨y, ⟨cs', hy, h1⟩, hz⟩)
    refine ⟨ys, ⟨some a, cap, by rw [hyl], by omega, hm, by rw [hyl, lim_eq]; omega, fun hp => ?_⟩, ?_⟩
    · obtain ⟨b, off, spot⟩ := a
      have hspot : spot = none := by
        obtain ⟨⟨es, hr, hc⟩, _⟩ := hy 0 hp
        obtain ⟨_, hel, hcell⟩ := World.cells?_some hc
        have h0 := hcell 0 hpos
        rw [List.getElem?_eq_getElem (by omega)] at h0
        simp only [Nat.zero_mul] at h0
        have h1 : ((⟨b, off, spot⟩ : Addr).add 0).add 0 = ⟨b, off, spot⟩ := by simp [Addr.add]
        rw [h1] at h0
        unfold World.cell? at h0
        split at h0
        · split at h0
          · cases h0
          · rename_i hs
            cases spot
            · rfl
            · simp at hs
        · cases h0
      subst hspot
      have hbl : b < w.heap.size := by
        obtain ⟨⟨es, hr, hc⟩, _⟩ := hy 0 hp
        obtain ⟨_, hel, hcell⟩ := World.cells?_some hc
        have h0 := hcell 0 hpos
        rw [List.getElem?_eq_getElem (by omega)] at h0
        simp only [Nat.zero_mul] at h0
        have h1 : ((⟨b, off, none⟩ : Addr).add 0).add 0 = ⟨b, off, none⟩ := by simp [Addr.add]
        rw [h1] at h0
        exact lt_of_cell h0
      refine ⟨b, off, rfl, hbl, fun h => h, fun i hi => ?_⟩
      obtain ⟨⟨es, hr, hc⟩, _⟩ := hy i hi
      refine ⟨es, hr, fun j u hu => ?_⟩
      obtain ⟨_, hel, hcell⟩ := World.cells?_some hc
      have hj : j < E.n := by
        rw [← hel]
        exact (List.getElem?_eq_some_iff.1 hu).1
      have h0 := hcell j hj
      have h1 : ((⟨b, off, none⟩ : Addr).add (i * E.n)).add j = ⟨b, off + i * E.n + j, none⟩ := by
        unfold Addr.add
        by_cases h2 : i * E.n = 0 <;> by_cases h3 : j = 0 <;> simp [h2, h3]
      rw [h1, hu] at h0
      exact h0
    · have h1 := sum_bulk sz ys len D hyl (fun i hi => (hy i hi).2)
      simp only [Rows.uptoBulk]
      omega
end
theorem sum_ones (xs : List UInt8) : (xs.map fun _ => 0 + 1).sum = xs.length := by
  induction xs with
  | nil => rfl
  | cons x xs ih => simp only [List.map_cons, List.sum_cons, List.length_cons, ih]; omega
theorem conv_bytesZ : ConvZ Try.prog Ty.bytes 42 List.length := fun H enc w base spare held fuel cs x hb hx => by
  obtain ⟨y, hy, hz⟩ := conv_sliceZ Try.underlying42 (by kernel_rfl) (by decide) (ConvZ.of (conv_byte Try.underlying5)) H enc w base spare held fuel cs x hb hx
  have h1 := sum_ones y
  refine ⟨y, hy, ?_⟩
  simp only at hz
  omega
def pairZ (p : DPair) : Nat := p.key.length + p.value.length + 2
def pairsZ (r : List DPair) : Nat := (r.map fun p => pairZ p + 1).sum
def rowsZ (rows : List (List DPair)) : Nat := (rows.map fun r => pairsZ r + 1).sum
set_option maxRecDepth 100000 in
theorem conv_PairZ : ConvZ Try.prog tPair 95 pairZ := by
  intro H enc w base spare held fuel cs x hb h
  obtain ⟨xs, n, _, rfl, hl, hlen, hf⟩ := DataW.trod_struct Try.underlying95 h
  have hl2 : cs.length = 2 := hl.trans (by kernel_rfl)
  have hlen2 : xs.length = 2 := hlen
  clear hl hlen h
  obtain ⟨c0, cs_1, rfl⟩ : ∃ a r, cs = a :: r := List.exists_cons_of_length_pos (by omega)
  have hl2_1 : cs_1.length = 1 := by simpa using hl2
  clear hl2
  obtain ⟨c1, cs_2, rfl⟩ : ∃ a r, cs_1 = a :: r := List.exists_cons_of_length_pos (by omega)
  have hl2_2 : cs_2.length = 0 := by simpa using hl2_1
  clear hl2_1
  obtain rfl : cs_2 = [] := List.length_eq_zero_iff.1 hl2_2
  obtain ⟨y0, xs_1, rfl⟩ : ∃ a r, xs = a :: r := List.exists_cons_of_length_pos (by omega)
  have hlen2_1 : xs_1.length = 1 := by simpa using hlen2
  clear hlen2
  obtain ⟨y1, xs_2, rfl⟩ : ∃ a r, xs_1 = a :: r := List.exists_cons_of_length_pos (by omega)
  have hlen2_2 : xs_2.length = 0 := by simpa using hlen2_1
  clear hlen2_1
  obtain rfl : xs_2 = [] := List.length_eq_zero_iff.1 hlen2_2
  simp only [Rows.uptoBulk, Rows.uptoBulkAll, List.map_cons, List.map_nil] at hb
  have k0 : Try.prog.cellsOf 42 = 1 := by kernel_rfl
  have h0 := hf 0 _ rfl
  simp only [k0, List.drop_succ_cons, List.drop_zero, List.take_succ_cons, List.take_zero, List.getElem?_cons_succ, List.getElem?_cons_zero] at h0
  obtain ⟨z0, r0, s0⟩ := (conv_bytesZ) H enc w base spare held n _ _ (by omega) h0
  have k1 : Try.prog.cellsOf 42 = 1 := by kernel_rfl
  have h1 := hf 1 _ rfl
  simp only [k1, List.drop_succ_cons, List.drop_zero, List.take_succ_cons, List.take_zero, List.getElem?_cons_succ, List.getElem?_cons_zero] at h1
  obtain ⟨z1, r1, s1⟩ := (conv_bytesZ) H enc w base spare held n _ _ (by omega) h1
  refine ⟨⟨z0, z1⟩, ⟨_, _, rfl, r0, r1⟩, ?_⟩
  simp only [Rows.uptoBulk, Rows.uptoBulkAll, List.map_cons, List.map_nil, pairZ]
  omega
theorem conv_pairsZ : ConvZ Try.prog (Ty.slice tPair) 59 pairsZ := conv_sliceZ Try.underlying59 (by kernel_rfl) (by decide) conv_PairZ
theorem conv_rowsZ : ConvZ Try.prog (Ty.slice (Ty.slice tPair)) 38 rowsZ := conv_sliceZ Try.underlying38 (by kernel_rfl) (by decide) conv_pairsZ
end Go.Proofs.Ythflkfgiclcdiaa.Frame
namespace Go.Proofs.Ythflkfgiclcdiaa
open Go.Gr Go.Proofs.Ythflkfgiclcdiaa.Frame
theorem numB_le (n : Nat) (h : n < 18446744073709551616) : (numB n).length ≤ 9 := by
  have := beB_len 8 n (by omega)
  unfold numB
  split <;> simp <;> omega
theorem textB_le : ∀ {ps : List (List UInt8)}, (∀ p ∈ ps, p.length < 18446744073709551616) → (textB ps).length ≤ (ps.map fun p => p.length + 9).sum
  | [], _ => by simp [textB]
  | p :: ps, h => by
    have h1 := textB_le (ps := ps) (fun q hq => h q (by simp [hq]))
    have h2 := numB_le _ (h p (by simp))
    simp only [textB, List.flatMap_cons, List.length_append, List.map_cons, List.sum_cons] at *
    omega
theorem joinB_le {ps : List (List UInt8)} (hn : ps.length < 18446744073709551616) (h : ∀ p ∈ ps, p.length < 18446744073709551616) : (joinB ps).length ≤ 9 + (ps.map fun p => p.length + 9).sum := by
  have h1 := textB_le h
  have h2 := numB_le _ hn
  unfold joinB
  rw [List.length_append]
  omega
theorem pairZ_mem {r : List DPair} {p : DPair} (h : p ∈ r) : pairZ p + 1 ≤ pairsZ r := by
  unfold pairsZ
  induction r with
  | nil => cases h
  | cons q r ih =>
    simp only [List.map_cons, List.sum_cons]
    rcases List.mem_cons.1 h with rfl | h
    · omega
    · have := ih h
      omega
theorem pairsZ_mem {rows : List (List DPair)} {r : List DPair} (h : r ∈ rows) : pairsZ r + 1 ≤ rowsZ rows := by
  unfold rowsZ
  induction rows with
  | nil => cases h
  | cons q rows ih =>
    simp only [List.map_cons, List.sum_cons]
    rcases List.mem_cons.1 h with rfl | h
    · omega
    · have := ih h
      omega
theorem rowB_le {r : List DPair} (h : pairsZ r ≤ 1048576) : (rowB r).length ≤ 200 + 40 * pairsZ r := by
  have ht : ∀ (r : List DPair), pairsZ r ≤ 1048576 → ((triB (r.map fun p => (⟨p.key, p.value, false⟩ : DWrite))).map fun p => p.length + 9).sum ≤ 30 * pairsZ r ∧ (triB (r.map fun p => (⟨p.key, p.value, false⟩ : DWrite))).length ≤ 3 * pairsZ r ∧ ∀ p ∈ triB (r.map fun p => (⟨p.key, p.value, false⟩ : DWrite)), p.length ≤ 1048576 := by
    intro r
    induction r with
    | nil => intro _; simp [triB]
    | cons p r ih =>
      intro hz
      have hz' : pairsZ (p :: r) = p.key.length + p.value.length + 2 + 1 + pairsZ r := by simp [pairsZ, pairZ]
      obtain ⟨h1, h2, h3⟩ := ih (by omega)
      have ht : triB ((p :: r).map fun p => (⟨p.key, p.value, false⟩ : DWrite)) = truthB false :: p.key :: p.value :: triB (r.map fun p => (⟨p.key, p.value, false⟩ : DWrite)) := by simp [triB]
      have h0 : (truthB false).length = 1 := rfl
      rw [ht]
      refine ⟨?_, ?_, ?_⟩
      · simp only [List.map_cons, List.sum_cons]
        omega
      · simp only [List.length_cons]
        omega
      · intro q hq
        simp only [List.mem_cons] at hq
        rcases hq with rfl | rfl | rfl | hq
        · omega
        · omega
        · omega
        · exact h3 q hq
  obtain ⟨h1, h2, h3⟩ := ht r h
  have hj := joinB_le (ps := triB (r.map fun p => (⟨p.key, p.value, false⟩ : DWrite))) (by omega) (fun p hp => by have := h3 p hp; omega)
  have hn : (numsB [0, 0, 0]).length = 3 := by decide
  have hj2 := joinB_le (ps := oneParts ⟨0, 0, 0⟩ (r.map fun p => (⟨p.key, p.value, false⟩ : DWrite)) []) (by simp [oneParts]) (fun p hp => by
    simp only [oneParts, List.mem_cons, List.not_mem_nil, or_false] at hp
    rcases hp with rfl | rfl | rfl | rfl
    · simp
    · omega
    · omega
    · simp)
  simp only [oneParts, List.map_cons, List.map_nil, List.sum_cons, List.sum_nil, List.length_cons, List.length_nil, hn] at hj2
  unfold rowB oneB
  simp only [oneParts]
  omega
theorem replyB_le {err at_ : Int} {rows : List (List DPair)} (h : rowsZ rows ≤ 1048576) : (replyB err at_ rows).length ≤ 4294967296 := by
  have ht : ∀ rows : List (List DPair), rowsZ rows ≤ 1048576 → ((rows.map rowB).map fun p => p.length + 9).sum ≤ 300 * rowsZ rows ∧ rows.length ≤ rowsZ rows ∧ ∀ p ∈ rows.map rowB, p.length ≤ 42000000 := by
    intro rows
    induction rows with
    | nil => intro _; simp
    | cons r rows ih =>
      intro hz
      have hz' : rowsZ (r :: rows) = pairsZ r + 1 + rowsZ rows := by simp [rowsZ]
      obtain ⟨h1, h2, h3⟩ := ih (by omega)
      have h4 := rowB_le (r := r) (by omega)
      refine ⟨?_, ?_, ?_⟩
      · simp only [List.map_cons, List.sum_cons]
        omega
      · simp only [List.length_cons]
        omega
      · intro p hp
        simp only [List.map_cons, List.mem_cons] at hp
        rcases hp with rfl | hp
        · omega
        · exact h3 p hp
  obtain ⟨h1, h2, h3⟩ := ht rows h
  have a1 := numB_le (u64 err) (u64_lt _)
  have a2 := numB_le (u64 at_) (u64_lt _)
  have hj := joinB_le (ps := replyParts err at_ rows) (by simp [replyParts]; omega) (fun p hp => by
    simp only [replyParts, List.cons_append, List.nil_append, List.mem_cons] at hp
    rcases hp with rfl | rfl | hp
    · omega
    · omega
    · have := h3 p hp; omega)
  simp only [replyParts, List.cons_append, List.nil_append, List.map_cons, List.sum_cons] at hj
  unfold replyB
  simp only [replyParts, List.cons_append, List.nil_append]
  omega
end Go.Proofs.Ythflkfgiclcdiaa
