/-
  'BranchReplies' is proved: replies are written and read back, and other bytes are refused; WHERE THE ARGUMENTS ARE OF BULK AT MOST 1048576 (the statement's second form).
-/
import Derived.Test.YthflkfgiclcdiaaZR22
import Derived.Test.YthflkfgiclcdiaaZConvZ
namespace Go.Proofs.Ythflkfgiclcdiaa.Replies
open Go.ChangeShapes Go.WideShapes Go.ChangeAt Go.RowKit Go.Gr Go.Proofs.Ythflkfgiclcdiaa.Frame
set_option linter.unusedVariables false
set_option linter.unusedSimpArgs false
abbrev tSaid : Ty (Int × Int) := Ty.pair Ty.int Ty.int
set_option maxRecDepth 100000 in
theorem conv_Said : Conv Try.prog tSaid 100 := by
  intro H enc w base spare held fuel cs x hb h
  obtain ⟨xs, n, _, rfl, hl, hlen, hf⟩ := DataW.trod_struct Try.underlying100 h
  have hl2 : cs.length = 2 := hl.trans (by kernel_rfl)
  have hlen2 : xs.length = 2 := hlen
  clear hl hlen h
  obtain ⟨c0, cs_1, rfl⟩ : ∃ a r, cs = a :: r := List.exists_cons_of_length_pos (by omega)
  have hl2_1 : cs_1.length = 1 := by simpa using hl2
  clear hl2
  obtain ⟨c1, cs_2, rfl⟩ : ∃ a r, cs_1 = a :: r := List.exists_cons_of_length_pos (by omega)
  have hl2_2 : cs_2.length = 0 := by simpa using hl2_1
  clear hl2_1
  obtain rfl : cs_2 = [] := List.length_eq_zero_iff.1 hl2_2
  obtain ⟨y0, xs_1, rfl⟩ : ∃ a r, xs = a :: r := List.exists_cons_of_length_pos (by omega)
  have hlen2_1 : xs_1.length = 1 := by simpa using hlen2
  clear hlen2
  obtain ⟨y1, xs_2, rfl⟩ : ∃ a r, xs_1 = a :: r := List.exists_cons_of_length_pos (by omega)
  have hlen2_2 : xs_2.length = 0 := by simpa using hlen2_1
  clear hlen2_1
  obtain rfl : xs_2 = [] := List.length_eq_zero_iff.1 hlen2_2
  simp only [Rows.uptoBulk, Rows.uptoBulkAll, List.map_cons, List.map_nil] at hb
  have k0 : Try.prog.cellsOf 3 = 1 := by kernel_rfl
  have h0 := hf 0 _ rfl
  simp only [k0, List.drop_succ_cons, List.drop_zero, List.take_succ_cons, List.take_zero, List.getElem?_cons_succ, List.getElem?_cons_zero] at h0
  obtain ⟨z0, r0⟩ := (conv_int Try.underlying3) H enc w base spare held n _ _ (by omega) h0
  have h1 := hf 1 _ rfl
  simp only [k0, List.drop_succ_cons, List.drop_zero, List.take_succ_cons, List.take_zero, List.getElem?_cons_succ, List.getElem?_cons_zero] at h1
  obtain ⟨z1, r1⟩ := (conv_int Try.underlying3) H enc w base spare held n _ _ (by omega) h1
  exact ⟨(z0, z1), [c0], [c1], rfl, r0, r1⟩
theorem kids : Kids Try.prog (· < Try.prog.types.size) := kids_rows (by kernel_rfl) (by kernel_rfl)
theorem full : ∀ t e, t < Try.prog.types.size → Try.prog.underlying t = some (.slice e) → 0 < Try.prog.cellsOf e := slices_full_of Try.prog (by kernel_rfl)
theorem own : ownKnob Try.prog.godebug = none := by kernel_rfl
theorem rowsZ_take (rows : List (List DPair)) (n : Nat) : rowsZ (rows.take n) ≤ rowsZ rows := by
  induction rows generalizing n with
  | nil => simp
  | cons r rows ih =>
    rcases n with _ | n
    · simp [rowsZ]
    · have := ih n
      simp only [rowsZ, List.take_succ_cons, List.map_cons, List.sum_cons] at this ⊢
      omega
set_option maxRecDepth 100000 in
theorem contract (H : Type) (enc : TypeId × Value → H) (W : World) (base : Nat) (args : Array Value) (ds gs : List (DataW H)) (before : List MemPlace)
    (hval : ∀ (j : Nat) t v, Try.f8.params[j]? = some t → args[j]? = some v → Value.okWide Try.prog W .any base t v)
    (hW : DataW.Whole enc Try.prog Try.f8.params.toList Rows.branchRepliesSpec.vars false W args.toList ds gs before) (hk : Rows.uptoSmall H (ds ++ gs) = true) :
    Calls Try.prog 8 args W fun e W' => ∃ v, e = .returned v ∧ Rows.branchRepliesSpec.post enc Try.prog Try.f8 false true false false W args v W' := by
  have hW' := hW
  obtain ⟨p, q, hA0, hV, rfl, _, _⟩ := hW
  have hA : DataW.TrodAll enc Try.prog W 0 (fun _ => true) true Try.f8.params.toList args.toList ds p := hA0
  rw [Try.params8] at hA hval
  obtain ⟨v0, v1, v2, d0, d1, d2, p0, p1, p2, rfl, rfl, rfl, h0, h1, h2⟩ := trodAll_three hA
  obtain ⟨rfl, rfl⟩ := trodVars_none hV
  have hb := of_decide_eq_true hk
  simp only [List.append_nil, Rows.uptoBulkAll] at hb
  obtain ⟨cs, rfl, hcs⟩ := okWide_struct Try.underlying100 (hval 0 100 v0 rfl rfl)
  obtain ⟨a1, l1, c1, rfl⟩ := okWide_slice Try.underlying38 (hval 1 38 v1 rfl rfl)
  obtain ⟨a2, l2, c2, rfl⟩ := okWide_slice Try.underlying42 (hval 2 42 v2 rfl rfl)
  obtain ⟨m0, h0⟩ := h0
  obtain ⟨m1, h1⟩ := h1
  obtain ⟨m2, h2⟩ := h2
  obtain ⟨⟨er, at_⟩, r0⟩ := conv_Said H enc W _ _ _ _ _ (d0, p0) (by show Rows.uptoBulk d0 ≤ 1048576; omega) h0
  obtain ⟨rows, r1, hz1⟩ := conv_rowsZ H enc W _ _ _ _ _ (d1, p1) (by show Rows.uptoBulk d1 ≤ 1048576; omega) h1
  obtain ⟨b, r2, hz2⟩ := conv_bytesZ H enc W _ _ _ _ _ (d2, p2) (by show Rows.uptoBulk d2 ≤ 1048576; omega) h2
  simp only at hz1 hz2
  obtain ⟨e1, e2, hce, ⟨r3, r4⟩, ⟨r5, r6⟩⟩ := r0
  obtain ⟨cl⟩ := cs
  subst r3 r5
  have hcl : cl = [.int .i64 er, .int .i64 at_] := hce
  subst hcl
  refine (branchReplies_ r4 r6 r1 r2 (replyB_le (Nat.le_trans (rowsZ_take rows 20) (by omega))) (by omega)).mono fun e W' ⟨he, hS⟩ => ?_
  subst he
  exact ⟨_, rfl, law_post kids full rfl (by kernel_rfl) (by rw [Try.params8]; decide) hW' rfl hS⟩
set_option maxRecDepth 100000 in
theorem lifted (os : Os) (started : os.Started) (H : Type) (enc : TypeId × Value → H) (F : Stop.Interp) :
    ReturnsInHanded {} Try.checked os 8 .any ((Rows.OpenSpec.upto Rows.branchRepliesSpec).pre6 enc Try.prog Try.f8 Rows.branchRepliesUptoRow.domain false) (((Rows.OpenSpec.upto Rows.branchRepliesSpec).at F).post enc Try.prog Try.f8 false true false false) := by
  refine returnsInHanded_of_cond (C := Try.checked) (s := Rows.OpenSpec.upto Rows.branchRepliesSpec) (k := Rows.uptoSmall) rfl own started (by kernel_rfl) Try.func8
    (OpenSpec.witness (enc := enc) (C := Try.checked) (s := Rows.OpenSpec.upto Rows.branchRepliesSpec) (k := Rows.uptoSmall) rfl false ⟨#[], #[.agg #[.int .i64 0, .int .i64 0], .slice none 0 0, .slice none 0 0], []⟩ 8 (by kernel_rfl) (by kernel_rfl) (by kernel_rfl)
      (x := ([.agg [.lit (.int .i64 0), .lit (.int .i64 0)], .nil, .nil], [], [])) (by kernel_rfl) rfl (by kernel_rfl)) ?_
  intro W base args ds gs before hval hW _ hk _
  exact contract H enc W base args ds gs before hval hW hk
theorem over : Rows.branchRepliesUptoRow.holds Try.pinned (Rows.OpenSpec.upto Rows.branchRepliesSpec) :=
  OpenClaim.holds_of_cond 8 Try.f8 rfl rfl rfl rfl rfl rfl rfl ⟨rfl, rfl, rfl, rfl, rfl⟩ rfl rfl rfl rfl rfl (by kernel_rfl) Try.func8 (by kernel_rfl)
    (of_decide_eq_true (by kernel_rfl)) (by unfold Func.isWrapper; first | (rw [if_pos (by decide +kernel)]; kernel_rfl) | (rw [if_neg (by decide +kernel)]; exact ⟨rfl, rfl⟩))
    (fun os started H enc _ F => lifted os started H enc F)
end Go.Proofs.Ythflkfgiclcdiaa.Replies
namespace Go.Proofs.Ythflkfgiclcdiaa
theorem branchReplies_holds : Rows.BranchRepliesUptoSaid := Replies.over
#print axioms branchReplies_holds
end Go.Proofs.Ythflkfgiclcdiaa
