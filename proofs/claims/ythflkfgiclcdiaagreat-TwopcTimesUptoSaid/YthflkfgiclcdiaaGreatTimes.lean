/-
  'TwopcTimes' is proved: a transaction whose shards do not answer in time is given up, and all of them are told; WHERE THE ARGUMENTS ARE OF BULK AT MOST 1048576 (the statement's second form).
-/
import Derived.Test.YthflkfgiclcdiaaGreatC20
import Derived.Test.YthflkfgiclcdiaaGreatConv
namespace Go.Proofs.YthflkfgiclcdiaaGreat.Times
open Go.ChangeShapes Go.WideShapes Go.ChangeAt Go.RowKit Go.Gr Go.Proofs.YthflkfgiclcdiaaGreat.Frame
set_option linter.unusedVariables false
/-- Operations and a patience. -/
abbrev tWait : Ty (List DOp × Int) := Ty.pair (Ty.slice tOp) Ty.int
set_option maxRecDepth 100000 in
theorem conv_Wait : Conv Tryz.prog tWait 55 := by
  intro H enc w base spare held fuel cs x hb h
  obtain ⟨xs, n, _, rfl, hl, hlen, hf⟩ := DataW.trod_struct Tryz.underlying55 h
  have hl2 : cs.length = 2 := hl.trans (by kernel_rfl)
  have hlen2 : xs.length = 2 := hlen
  clear hl hlen h
  obtain ⟨c0, cs_1, rfl⟩ : ∃ a r, cs = a :: r := List.exists_cons_of_length_pos (by omega)
  have hl2_1 : cs_1.length = 1 := by simpa using hl2
  clear hl2
  obtain ⟨c1, cs_2, rfl⟩ : ∃ a r, cs_1 = a :: r := List.exists_cons_of_length_pos (by omega)
  have hl2_2 : cs_2.length = 0 := by simpa using hl2_1
  clear hl2_1
  obtain rfl : cs_2 = [] := List.length_eq_zero_iff.1 hl2_2
  obtain ⟨y0, xs_1, rfl⟩ : ∃ a r, xs = a :: r := List.exists_cons_of_length_pos (by omega)
  have hlen2_1 : xs_1.length = 1 := by simpa using hlen2
  clear hlen2
  obtain ⟨y1, xs_2, rfl⟩ : ∃ a r, xs_1 = a :: r := List.exists_cons_of_length_pos (by omega)
  have hlen2_2 : xs_2.length = 0 := by simpa using hlen2_1
  clear hlen2_1
  obtain rfl : xs_2 = [] := List.length_eq_zero_iff.1 hlen2_2
  simp only [Rows.uptoBulk, Rows.uptoBulkAll, List.map_cons, List.map_nil] at hb
  have k0 : Tryz.prog.cellsOf 33 = 1 := by kernel_rfl
  have h0 := hf 0 _ rfl
  simp only [k0, List.drop_succ_cons, List.drop_zero, List.take_succ_cons, List.take_zero, List.getElem?_cons_succ, List.getElem?_cons_zero] at h0
  obtain ⟨z0, r0⟩ := conv_ops H enc w base spare held n _ _ (by omega) h0
  have k1 : Tryz.prog.cellsOf 3 = 1 := by kernel_rfl
  have h1 := hf 1 _ rfl
  simp only [k1, List.drop_succ_cons, List.drop_zero, List.take_succ_cons, List.take_zero, List.getElem?_cons_succ, List.getElem?_cons_zero] at h1
  obtain ⟨z1, r1⟩ := (conv_int Tryz.underlying3) H enc w base spare held n _ _ (by omega) h1
  exact ⟨(z0, z1), [c0], [c1], rfl, r0, r1⟩
theorem kids : Kids Tryz.prog (· < Tryz.prog.types.size) := kids_rows (by kernel_rfl) (by kernel_rfl)
theorem full : ∀ t e, t < Tryz.prog.types.size → Tryz.prog.underlying t = some (.slice e) → 0 < Tryz.prog.cellsOf e := slices_full_of Tryz.prog (by kernel_rfl)
theorem own : ownKnob Tryz.prog.godebug = none := by kernel_rfl
set_option maxRecDepth 100000 in
theorem contract (H : Type) (enc : TypeId × Value → H) (W : World) (base : Nat) (args : Array Value) (ds gs : List (DataW H)) (before : List MemPlace)
    (hval : ∀ (j : Nat) t v, Tryz.f4.params[j]? = some t → args[j]? = some v → Value.okWide Tryz.prog W .any base t v)
    (hW : DataW.Whole enc Tryz.prog Tryz.f4.params.toList Rows.twopcTimesSpec.vars false W args.toList ds gs before) (hk : Rows.uptoSmall H (ds ++ gs) = true) :
    Calls Tryz.prog 4 args W fun e W' => ∃ v, e = .returned v ∧ Rows.twopcTimesSpec.post enc Tryz.prog Tryz.f4 false true false false W args v W' := by
  have hW' := hW
  obtain ⟨p, q, hA0, hV, rfl, _, _⟩ := hW
  have hA : DataW.TrodAll enc Tryz.prog W 0 (fun _ => true) true Tryz.f4.params.toList args.toList ds p := hA0
  rw [Tryz.params4] at hA hval
  obtain ⟨v0, v1, v2, d0, d1, d2, p0, p1, p2, rfl, rfl, rfl, h0, h1, h2⟩ := trodAll_three hA
  obtain ⟨rfl, rfl⟩ := trodVars_none hV
  have hb := of_decide_eq_true hk
  simp only [List.append_nil, Rows.uptoBulkAll] at hb
  obtain ⟨a0, l0, c0, rfl⟩ := okWide_slice Tryz.underlying43 (hval 0 43 v0 rfl rfl)
  obtain ⟨cs, rfl, hcs⟩ := okWide_struct Tryz.underlying55 (hval 1 55 v1 rfl rfl)
  obtain ⟨z, rfl⟩ := okWide_int Tryz.underlying3 (hval 2 3 v2 rfl rfl)
  obtain ⟨m0, h0⟩ := h0
  obtain ⟨m1, h1⟩ := h1
  obtain ⟨m2, h2⟩ := h2
  obtain ⟨sp, r0⟩ := conv_list H enc W _ _ _ _ _ (d0, p0) (by show Rows.uptoBulk d0 ≤ 1048576; omega) h0
  obtain ⟨⟨ops, pt⟩, r1⟩ := conv_Wait H enc W _ _ _ _ _ (d1, p1) (by show Rows.uptoBulk d1 ≤ 1048576; omega) h1
  obtain ⟨an, r2⟩ := conv_int Tryz.underlying3 H enc W _ _ _ _ _ (d2, p2) (by show Rows.uptoBulk d2 ≤ 1048576; omega) h2
  obtain ⟨e1, e2, hce, r3, ⟨r4, r5⟩⟩ := r1
  obtain ⟨r6, r7⟩ := r2
  obtain ⟨cl⟩ := cs
  obtain ⟨u, rfl⟩ : ∃ u, e1 = [u] := List.length_eq_one_iff.1 ((Ty.slice tOp).len r3)
  obtain rfl : e2 = [.int .i64 pt] := r4
  have hcl : cl = [u, .int .i64 pt] := hce
  subst hcl
  have hz : [Value.int .i64 z] = [Value.int .i64 an] := r6
  have hz2 : z = an := by simpa using hz
  subst hz2
  refine (times_ r0 r3 r5 r7).mono fun e W' ⟨he, hS⟩ => ?_
  subst he
  exact ⟨_, rfl, law_post kids full rfl (by kernel_rfl) (by rw [Tryz.params4]; decide) hW' rfl hS⟩
set_option maxRecDepth 100000 in
theorem lifted (os : Os) (started : os.Started) (H : Type) (enc : TypeId × Value → H) (F : Stop.Interp) :
    ReturnsInHanded {} Tryz.checked os 4 .any ((Rows.OpenSpec.upto Rows.twopcTimesSpec).pre6 enc Tryz.prog Tryz.f4 Rows.twopcTimesUptoRow.domain false) (((Rows.OpenSpec.upto Rows.twopcTimesSpec).at F).post enc Tryz.prog Tryz.f4 false true false false) := by
  refine returnsInHanded_of_cond (C := Tryz.checked) (s := Rows.OpenSpec.upto Rows.twopcTimesSpec) (k := Rows.uptoSmall) rfl own started (by kernel_rfl) Tryz.func4
    (OpenSpec.witness (enc := enc) (C := Tryz.checked) (s := Rows.OpenSpec.upto Rows.twopcTimesSpec) (k := Rows.uptoSmall) rfl false ⟨#[], #[.slice none 0 0, .agg #[.slice none 0 0, .int .i64 0], .int .i64 0], []⟩ 8 (by kernel_rfl) (by kernel_rfl) (by kernel_rfl)
      (x := ([.nil, .agg [.nil, .lit (.int .i64 0)], .lit (.int .i64 0)], [], [])) (by kernel_rfl) rfl (by kernel_rfl)) ?_
  intro W base args ds gs before hval hW _ hk _
  exact contract H enc W base args ds gs before hval hW hk
theorem over : Rows.twopcTimesUptoRow.holds Tryz.pinned (Rows.OpenSpec.upto Rows.twopcTimesSpec) :=
  OpenClaim.holds_of_cond 4 Tryz.f4 rfl rfl rfl rfl rfl rfl rfl ⟨rfl, rfl, rfl, rfl, rfl⟩ rfl rfl rfl rfl rfl (by kernel_rfl) Tryz.func4 (by kernel_rfl)
    (of_decide_eq_true (by kernel_rfl)) (by unfold Func.isWrapper; first | (rw [if_pos (by decide +kernel)]; kernel_rfl) | (rw [if_neg (by decide +kernel)]; exact ⟨rfl, rfl⟩))
    (fun os started H enc _ F => lifted os started H enc F)
end Go.Proofs.YthflkfgiclcdiaaGreat.Times
namespace Go.Proofs.YthflkfgiclcdiaaGreat
theorem twopcTimes_holds : Rows.TwopcTimesUptoSaid := Times.over
#print axioms twopcTimes_holds
end Go.Proofs.YthflkfgiclcdiaaGreat
