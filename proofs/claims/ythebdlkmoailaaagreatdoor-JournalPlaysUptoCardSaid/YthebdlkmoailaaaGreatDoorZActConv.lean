/-
  A law's act, out of the claims' readings (printed by genconv.py).
-/
import Derived.Test.YthebdlkmoailaaaGreatDoorZJRow
import Derived.Test.YthebdlkmoailaaaGreatDoorZAct
set_option linter.unusedVariables false
set_option linter.unusedSimpArgs false
namespace Go.Proofs.YthebdlkmoailaaaGreatDoor.Frame
open Go.ChangeShapes Go.WideShapes Go.ChangeAt Go.RowKit Go.Gr
set_option linter.unusedSimpArgs false
set_option linter.unusedVariables false
set_option maxRecDepth 100000 in
theorem conv_Act : Conv Tryz.prog tAct 58 := by
  intro H enc w base spare held fuel cs x hb h
  obtain ⟨xs, n, _, rfl, hl, hlen, hf⟩ := DataW.trod_struct Tryz.underlying58 h
  have hl2 : cs.length = 5 := hl.trans (by kernel_rfl)
  have hlen2 : xs.length = 5 := hlen
  clear hl hlen h
  obtain ⟨c0, cs_1, rfl⟩ : ∃ a r, cs = a :: r := List.exists_cons_of_length_pos (by omega)
  have hl2_1 : cs_1.length = 4 := by simpa using hl2
  clear hl2
  obtain ⟨c1, cs_2, rfl⟩ : ∃ a r, cs_1 = a :: r := List.exists_cons_of_length_pos (by omega)
  have hl2_2 : cs_2.length = 3 := by simpa using hl2_1
  clear hl2_1
  obtain ⟨c2, cs_3, rfl⟩ : ∃ a r, cs_2 = a :: r := List.exists_cons_of_length_pos (by omega)
  have hl2_3 : cs_3.length = 2 := by simpa using hl2_2
  clear hl2_2
  obtain ⟨c3, cs_4, rfl⟩ : ∃ a r, cs_3 = a :: r := List.exists_cons_of_length_pos (by omega)
  have hl2_4 : cs_4.length = 1 := by simpa using hl2_3
  clear hl2_3
  obtain ⟨c4, cs_5, rfl⟩ : ∃ a r, cs_4 = a :: r := List.exists_cons_of_length_pos (by omega)
  have hl2_5 : cs_5.length = 0 := by simpa using hl2_4
  clear hl2_4
  obtain rfl : cs_5 = [] := List.length_eq_zero_iff.1 hl2_5
  obtain ⟨y0, xs_1, rfl⟩ : ∃ a r, xs = a :: r := List.exists_cons_of_length_pos (by omega)
  have hlen2_1 : xs_1.length = 4 := by simpa using hlen2
  clear hlen2
  obtain ⟨y1, xs_2, rfl⟩ : ∃ a r, xs_1 = a :: r := List.exists_cons_of_length_pos (by omega)
  have hlen2_2 : xs_2.length = 3 := by simpa using hlen2_1
  clear hlen2_1
  obtain ⟨y2, xs_3, rfl⟩ : ∃ a r, xs_2 = a :: r := List.exists_cons_of_length_pos (by omega)
  have hlen2_3 : xs_3.length = 2 := by simpa using hlen2_2
  clear hlen2_2
  obtain ⟨y3, xs_4, rfl⟩ : ∃ a r, xs_3 = a :: r := List.exists_cons_of_length_pos (by omega)
  have hlen2_4 : xs_4.length = 1 := by simpa using hlen2_3
  clear hlen2_3
  obtain ⟨y4, xs_5, rfl⟩ : ∃ a r, xs_4 = a :: r := List.exists_cons_of_length_pos (by omega)
  have hlen2_5 : xs_5.length = 0 := by simpa using hlen2_4
  clear hlen2_4
  obtain rfl : xs_5 = [] := List.length_eq_zero_iff.1 hlen2_5
  simp only [Rows.uptoBulk, Rows.uptoBulkAll, List.map_cons, List.map_nil] at hb
  have k0 : Tryz.prog.cellsOf 3 = 1 := by kernel_rfl
  have h0 := hf 0 _ rfl
  simp only [k0, List.drop_succ_cons, List.drop_zero, List.take_succ_cons, List.take_zero, List.getElem?_cons_succ, List.getElem?_cons_zero] at h0
  obtain ⟨z0, r0⟩ := (conv_int Tryz.underlying3) H enc w base spare held n _ _ (by omega) h0
  obtain ⟨e0, b0⟩ := r0
  obtain rfl := (List.cons.inj e0).1
  have k1 : Tryz.prog.cellsOf 30 = 1 := by kernel_rfl
  have h1 := hf 1 _ rfl
  simp only [k1, List.drop_succ_cons, List.drop_zero, List.take_succ_cons, List.take_zero, List.getElem?_cons_succ, List.getElem?_cons_zero] at h1
  obtain ⟨z1, r1⟩ := (conv_list) H enc w base spare held n _ _ (by omega) h1
  have k2 : Tryz.prog.cellsOf 32 = 1 := by kernel_rfl
  have h2 := hf 2 _ rfl
  simp only [k2, List.drop_succ_cons, List.drop_zero, List.take_succ_cons, List.take_zero, List.getElem?_cons_succ, List.getElem?_cons_zero] at h2
  obtain ⟨z2, r2⟩ := (conv_u64 Tryz.underlying32) H enc w base spare held n _ _ (by omega) h2
  obtain ⟨e2, b2⟩ := r2
  obtain rfl := (List.cons.inj e2).1
  have k3 : Tryz.prog.cellsOf 3 = 1 := by kernel_rfl
  have h3 := hf 3 _ rfl
  simp only [k3, List.drop_succ_cons, List.drop_zero, List.take_succ_cons, List.take_zero, List.getElem?_cons_succ, List.getElem?_cons_zero] at h3
  obtain ⟨z3, r3⟩ := (conv_int Tryz.underlying3) H enc w base spare held n _ _ (by omega) h3
  obtain ⟨e3, b3⟩ := r3
  obtain rfl := (List.cons.inj e3).1
  have k4 : Tryz.prog.cellsOf 3 = 1 := by kernel_rfl
  have h4 := hf 4 _ rfl
  simp only [k4, List.drop_succ_cons, List.drop_zero, List.take_succ_cons, List.take_zero, List.getElem?_cons_succ, List.getElem?_cons_zero] at h4
  obtain ⟨z4, r4⟩ := (conv_int Tryz.underlying3) H enc w base spare held n _ _ (by omega) h4
  obtain ⟨e4, b4⟩ := r4
  obtain rfl := (List.cons.inj e4).1
  exact ⟨⟨z0, z1, z2, z3, z4⟩, _, rfl, b0, r1, b2, b3, b4⟩
theorem conv_acts : Conv Tryz.prog (Ty.slice tAct) 52 := conv_slice Tryz.underlying52 (by kernel_rfl) (by decide) conv_Act
end Go.Proofs.YthebdlkmoailaaaGreatDoor.Frame
