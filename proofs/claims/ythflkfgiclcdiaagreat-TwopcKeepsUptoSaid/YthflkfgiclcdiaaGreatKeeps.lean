/-
  'TwopcKeeps' is proved: a coordinator keeps no memory of what it is handed, and its answers are memory of their own; WHERE THE ARGUMENTS ARE OF BULK AT MOST 1048576 (the statement's second form).
-/
import Derived.Test.YthflkfgiclcdiaaGreatA13
import Derived.Test.YthflkfgiclcdiaaGreatConv
namespace Go.Proofs.YthflkfgiclcdiaaGreat.Keeps
open Go.ChangeShapes Go.WideShapes Go.ChangeAt Go.RowKit Go.Gr Go.Proofs.YthflkfgiclcdiaaGreat.Frame
set_option linter.unusedVariables false
/-- A slice of small bulk is short. -/
theorem len_small {H : Type} {enc : TypeId × Value → H} {P : Program} {w : World} {base : Nat} {spare : Nat → Bool} {held : Bool} {fuel : Nat} {t e : TypeId} {a : Option Addr} {n c : Nat} {x : DataW H × List MemPlace} (ht : P.underlying t = some (.slice e)) (hb : Rows.uptoBulk x.1 ≤ 1048576)
    (h : DataW.trod enc P w base spare held fuel t [.slice a n c] = some x) : n ≤ 1048576 := by
  rcases Deep.open_slice ht h with ⟨hcs, _⟩ | ⟨a', len, cap, m, k, D, Pl, hcs, _, hl, hm, hmm, rfl, hx⟩
  · obtain ⟨_, rfl, _⟩ : a = none ∧ n = 0 ∧ c = 0 := by simpa using hcs
    omega
  · obtain ⟨_, rfl, _⟩ : a = some a' ∧ n = len ∧ c = cap := by simpa using hcs
    simp only [Rows.uptoBulk] at hb
    have := bulk_length ((List.range n).map D)
    rw [List.length_map, List.length_range] at this
    have hlm : n ≤ m := by rw [hmm]; split <;> omega
    omega
theorem kids : Kids Tryz.prog (· < Tryz.prog.types.size) := kids_rows (by kernel_rfl) (by kernel_rfl)
theorem full : ∀ t e, t < Tryz.prog.types.size → Tryz.prog.underlying t = some (.slice e) → 0 < Tryz.prog.cellsOf e := slices_full_of Tryz.prog (by kernel_rfl)
theorem own : ownKnob Tryz.prog.godebug = none := by kernel_rfl
set_option maxRecDepth 100000 in
theorem contract (H : Type) (enc : TypeId × Value → H) (W : World) (base : Nat) (args : Array Value) (ds gs : List (DataW H)) (before : List MemPlace)
    (hval : ∀ (j : Nat) t v, Tryz.f3.params[j]? = some t → args[j]? = some v → Value.okWide Tryz.prog W .any base t v)
    (hW : DataW.Whole enc Tryz.prog Tryz.f3.params.toList Rows.twopcKeepsSpec.vars false W args.toList ds gs before) (hk : Rows.uptoSmall H (ds ++ gs) = true) :
    Calls Tryz.prog 3 args W fun e W' => ∃ v, e = .returned v ∧ Rows.twopcKeepsSpec.post enc Tryz.prog Tryz.f3 false true false false W args v W' := by
  have hW' := hW
  obtain ⟨p, q, hA0, hV, rfl, _, _⟩ := hW
  have hA : DataW.TrodAll enc Tryz.prog W 0 (fun _ => true) true Tryz.f3.params.toList args.toList ds p := hA0
  rw [Tryz.params3] at hA hval
  obtain ⟨v0, v1, d0, d1, p0, p1, rfl, rfl, rfl, h0, h1⟩ := trodAll_two hA
  obtain ⟨rfl, rfl⟩ := trodVars_none hV
  have hb := of_decide_eq_true hk
  simp only [List.append_nil, Rows.uptoBulkAll] at hb
  obtain ⟨a0, l0, c0, rfl⟩ := okWide_slice Tryz.underlying22 (hval 0 22 v0 rfl rfl)
  obtain ⟨a1, l1, c1, rfl⟩ := okWide_slice Tryz.underlying22 (hval 1 22 v1 rfl rfl)
  obtain ⟨m0, h0⟩ := h0
  obtain ⟨m1, h1⟩ := h1
  obtain ⟨key, r0⟩ := conv_bytes H enc W _ _ _ _ _ (d0, p0) (by show Rows.uptoBulk d0 ≤ 1048576; omega) h0
  obtain ⟨reply, r1⟩ := conv_bytes H enc W _ _ _ _ _ (d1, p1) (by show Rows.uptoBulk d1 ≤ 1048576; omega) h1
  have hl1 : l1 ≤ 1048576 := len_small Tryz.underlying22 (by show Rows.uptoBulk d1 ≤ 1048576; omega) h1
  have hrl : reply.length ≤ 1048576 := by
    obtain ⟨a, c, hv, _⟩ := Ty.slice_val r1
    have : l1 = reply.length := by injection hv
    omega
  refine (keeps_ r0 r1 hrl).mono fun e W' ⟨he, hS⟩ => ?_
  subst he
  exact ⟨_, rfl, law_post kids full rfl (by kernel_rfl) (by rw [Tryz.params3]; decide) hW' rfl hS⟩
set_option maxRecDepth 100000 in
theorem lifted (os : Os) (started : os.Started) (H : Type) (enc : TypeId × Value → H) (F : Stop.Interp) :
    ReturnsInHanded {} Tryz.checked os 3 .any ((Rows.OpenSpec.upto Rows.twopcKeepsSpec).pre6 enc Tryz.prog Tryz.f3 Rows.twopcKeepsUptoRow.domain false) (((Rows.OpenSpec.upto Rows.twopcKeepsSpec).at F).post enc Tryz.prog Tryz.f3 false true false false) := by
  refine returnsInHanded_of_cond (C := Tryz.checked) (s := Rows.OpenSpec.upto Rows.twopcKeepsSpec) (k := Rows.uptoSmall) rfl own started (by kernel_rfl) Tryz.func3
    (OpenSpec.witness (enc := enc) (C := Tryz.checked) (s := Rows.OpenSpec.upto Rows.twopcKeepsSpec) (k := Rows.uptoSmall) rfl false ⟨#[], #[.slice none 0 0, .slice none 0 0], []⟩ 8 (by kernel_rfl) (by kernel_rfl) (by kernel_rfl)
      (x := ([.nil, .nil], [], [])) (by kernel_rfl) rfl (by kernel_rfl)) ?_
  intro W base args ds gs before hval hW _ hk _
  exact contract H enc W base args ds gs before hval hW hk
theorem over : Rows.twopcKeepsUptoRow.holds Tryz.pinned (Rows.OpenSpec.upto Rows.twopcKeepsSpec) :=
  OpenClaim.holds_of_cond 3 Tryz.f3 rfl rfl rfl rfl rfl rfl rfl ⟨rfl, rfl, rfl, rfl, rfl⟩ rfl rfl rfl rfl rfl (by kernel_rfl) Tryz.func3 (by kernel_rfl)
    (of_decide_eq_true (by kernel_rfl)) (by unfold Func.isWrapper; first | (rw [if_pos (by decide +kernel)]; kernel_rfl) | (rw [if_neg (by decide +kernel)]; exact ⟨rfl, rfl⟩))
    (fun os started H enc _ F => lifted os started H enc F)
end Go.Proofs.YthflkfgiclcdiaaGreat.Keeps
namespace Go.Proofs.YthflkfgiclcdiaaGreat
theorem twopcKeeps_holds : Rows.TwopcKeepsUptoSaid := Keeps.over
#print axioms twopcKeeps_holds
end Go.Proofs.YthflkfgiclcdiaaGreat
