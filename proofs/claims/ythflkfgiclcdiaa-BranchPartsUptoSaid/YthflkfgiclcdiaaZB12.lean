/-
  Walk: an overlay's Scan.
-/
import Derived.Test.YthflkfgiclcdiaaZB11
import Derived.Test.YthflkfgiclcdiaaZB7
import Derived.Test.YthflkfgiclcdiaaZP4
import Derived.Test.YthflkfgiclcdiaaZRangeS
import Derived.Test.YthflkfgiclcdiaaZConvB
import Derived.Deep.DeepCutAuto
set_option linter.unusedVariables false
set_option linter.unusedSimpArgs false
namespace Go.Proofs.Ythflkfgiclcdiaa
open Go.RowKit Go.Gr Go.Sort
set_option linter.unusedSimpArgs false
/-- A write in a map. -/
def wrR (w : World) (M : Nat → Prop) (v : Value) (x : DWrite) : Prop := ∃ cs, v = .agg cs ∧ tWrite.rep w M cs.toList x
theorem keep_wrR : KeepR wrR := ⟨fun ⟨cs, h1, h2⟩ hk => ⟨cs, h1, tWrite.keep h2 hk⟩⟩
/-- A value in a map. -/
def vlR (w : World) (M : Nat → Prop) (v : Value) (x : DPair) : Prop := Ty.bytes.rep w M [v] x.value
theorem keep_vlR : KeepR vlR := ⟨fun h hk => Ty.bytes.keep h hk⟩
abbrev ovC (lb mb : Nat) : Array Value := #[.iface 62 (.pointer (some ⟨lb, 0, none⟩)), .map (some mb)]
set_option maxRecDepth 100000 in
set_option maxHeartbeats 8000000 in
theorem ovScan_ {w : World} {M : Nat → Prop} {lb vb mb B : Nat} {vp va fv tv : Value} {rs : List (List Value)} {P : List DPair} {ws : List DWrite} {lo hi : List UInt8} {most : Nat} (hL : LsAt w lb vp va) (hA : Own tRaw3 97 w (fun _ => False) B va rs) (hlB : lb < B) (hB : B ≤ w.heap.size) (hrs : rs.length ≤ 999)
    (hV : CellsAt w vb (ovC lb mb) 127) (hW : MapR Try.prog 9 DWrite.key wrR w M mb ws) (hws : ws.length ≤ 1000) (hwk : ∀ x ∈ ws, x.key.length ≤ 1000)
    (h : (Ty.slice tPair).rep w M [vp] P) (hP : RisP P) (hPl : P.length ≤ 1000) (hf : Ty.bytes.rep w M [fv] lo) (ht : Ty.bytes.rep w M [tv] hi) (hMl : M lb) (hMa : ∀ b, va.ownBlock = some b → M b) (hvl : vb ≠ lb) (hva : va.ownBlock ≠ some vb) (hml : mb ≠ lb) (hma : va.ownBlock ≠ some mb) (h1 : 1 ≤ most) (h2 : most ≤ 1000) :
    Calls Try.prog 93 #[.pointer (some ⟨vb, 0, none⟩), fv, tv, .int .i64 (most : Int)] w fun e w' => ∃ v' va' rs', e = .returned (.tuple #[v', .int .i64 0]) ∧ LsAt w' lb vp va' ∧ Own tRaw3 97 w' (fun _ => False) B va' rs' ∧ rs'.length ≤ rs.length + 1 ∧
      (va'.ownBlock = va.ownBlock ∨ ∃ b, va'.ownBlock = some b ∧ w.heap.size ≤ b) ∧ Own tPair 95 w' (fun b => b < w.heap.size ∨ va'.ownBlock = some b) w.heap.size v' (scanB (overB P ws) lo hi most) ∧ Turn (fun b => b = lb ∨ va.ownBlock = some b) w w' := by
  obtain ⟨fa, fc, rfl, _⟩ := Ty.slice_val hf
  obtain ⟨ta, tc, rfl, _, _, htl⟩ := Ty.slice_val ht
  rw [lim_eq] at htl
  obtain ⟨LH, hLH⟩ : ∃ L, hi.length = L := ⟨_, rfl⟩
  rw [hLH] at ht htl ⊢
  have HLH := Lib.hid hLH
  clear hLH
  have hvbl := hV.lt
  have hmbl := hW.lt
  have p0 : w.cell? ⟨vb, 0, none⟩ = some (.iface 62 (.pointer (some ⟨lb, 0, none⟩))) := hV.cell 0
  have p1 : w.cell? ⟨vb, 1, none⟩ = some (.map (some mb)) := hV.cell 1
  have HE := Lib.hid (empty_ hf ht)
  have HL := Lib.hid hL
  have HA := Lib.hid hA
  have H := Lib.hid h
  have HF := Lib.hid hf
  have HT := Lib.hid ht
  have HV := Lib.hid hV
  have HW := Lib.hid hW
  have HP := Lib.hid hP
  have HWK := Lib.hid hwk
  by_cases he : emptyB lo hi = true
  · have hn : scanB (overB P ws) lo hi most = [] := by
      have := he
      simp only [emptyB, Bool.and_eq_true, decide_eq_true_eq] at this
      exact scanB_none (fun e => by rw [e] at this; simp at this) this.2
    have HN := Lib.hid hn
    rw [he] at HE
    clear hL hA hV hW h hf ht hP he hn hwk
    go_enter Try.func93, Try.ntmps93
    go_wp2_with (go_at_call 78; refine HE.out.mono ?_; rintro e w1 ⟨rfl, rfl⟩)
    go_ret2
    exact ⟨_, _, rs, rfl, HL.out, HA.out, Nat.le_succ _, .inl rfl, by rw [HN.out]; exact Own.nil, Turn.refl _ _⟩
  · have he' : emptyB lo hi = false := by simpa using he
    rw [he'] at HE
    have HLN := Lib.hid (fun (W : World) (hS : Step w W) (ty : TypeId) => (hW.step keep_wrR hS).len Try.underlying125 ty)
    clear hL hA hV hW h hf ht hP he he' hwk
    go_enter Try.func93, Try.ntmps93
    go_upto_region 3 with (go_at_call 78; refine HE.out.mono ?_; rintro e w1 ⟨rfl, rfl⟩)
    have hmm : ∀ (W : World) (p : Option Addr), (method 364 62 (.pointer p) "Scan").run Try.prog W = .ok (196, .pointer p) W := fun W p => by kernel_rfl
    have hwr : IntKind.i64.wrap ((most : Int) + (ws.length : Int)) = ((most + ws.length : Nat) : Int) := by rw [IntKind.wrap_i64]; omega
    have HSC := Lib.hid (fun (W : World) (hS : Step w1 W) => lScan_ (most := most + ws.length) (CellsAt.step HL.out hS) (HA.out.step hS) hlB (Nat.le_trans hB hS.size) (by omega) (Ty.step _ H.out hS) (Ty.step _ HF.out hS) (Ty.step _ HT.out hS) hMl hMa (by omega) (by omega))
    refine wp_region_held_drew (S := (fun w' => w'.cell? ⟨vb, 0, none⟩ = some (.iface 62 (.pointer (some ⟨lb, 0, none⟩))) ∧ w'.cell? ⟨vb, 1, none⟩ = some (.map (some mb)) ∧ (∀ ty, (Builtin.len_ #[125] ty #[.map (some mb)]).run Try.prog w' = .ok (.int .i64 (ws.length : Int)) w'))) (by kernel_rfl) ?_ (fun hHeld => ?_)
    · (first | (refine ⟨?_, ?_, by assumption⟩ <;> go_keep) | (refine ⟨?_, ?_, HLN.out _ (by (repeat (first | exact Step.refl _ | refine Step.alloc ?_ _ | refine Step.drew ?_ | refine Step.drewN ?_ _ | refine Step.setCell ?_ (by first | exact Nat.le_refl _ | assumption | omega | (simp; done) | (simp; omega)) _ | assumption | refine Step.trans ?_ (by assumption : Step _ _))))⟩ <;> go_keep) | go_keep)
    refine wpAnyH_take (i := 0) (v := ?_) rfl (by kernel_rfl) (by kernel_rfl) (by kernel_rfl) (fun _ _ _ h => h) (Or.inl ⟨by rfl, ?_⟩) (by assumption) ?_
    rotate_left 1
    · (intro w hSw; (try dsimp only at hSw); go_simp; (try with_reducible rfl))
    try simp only [Act.put, List.getElem_toArray, List.getElem_cons_succ, List.getElem_cons_zero, List.setIfInBounds_toArray, List.set_cons_zero, List.set_cons_succ]
    refine wpAnyH_take (i := 1) (v := ?_) rfl (by kernel_rfl) (by kernel_rfl) (by kernel_rfl) (fun _ _ _ h => h) (Or.inl ⟨by rfl, ?_⟩) (by assumption) ?_
    rotate_left 1
    · (intro w hSw; (try dsimp only at hSw); go_simp; (try with_reducible rfl))
    try simp only [Act.put, List.getElem_toArray, List.getElem_cons_succ, List.getElem_cons_zero, List.setIfInBounds_toArray, List.set_cons_zero, List.set_cons_succ]
    refine wpAnyH_take (i := 2) (v := ?_) rfl (by kernel_rfl) (by kernel_rfl) (by kernel_rfl) (fun _ _ _ h => h) (Or.inl ⟨by rfl, ?_⟩) (by assumption) ?_
    rotate_left 1
    · (intro w hSw; (try dsimp only at hSw); go_simp; (try with_reducible rfl))
    try simp only [Act.put, List.getElem_toArray, List.getElem_cons_succ, List.getElem_cons_zero, List.setIfInBounds_toArray, List.set_cons_zero, List.set_cons_succ]
    refine wpAnyH_take (i := 3) (v := ?_) rfl (by kernel_rfl) (by kernel_rfl) (by kernel_rfl) (fun _ _ _ h => h) (Or.inl ⟨by rfl, ?_⟩) (by assumption) ?_
    rotate_left 1
    · (intro w hSw; (try dsimp only at hSw); go_simp; (try with_reducible rfl))
    try simp only [Act.put, List.getElem_toArray, List.getElem_cons_succ, List.getElem_cons_zero, List.setIfInBounds_toArray, List.set_cons_zero, List.set_cons_succ]
    refine wpAnyH_take (i := 4) (v := ?_) rfl (by kernel_rfl) (by kernel_rfl) (by kernel_rfl) (fun _ _ _ h => h) (Or.inl ⟨by rfl, ?_⟩) (by assumption) ?_
    rotate_left 1
    · (intro w hSw; (try dsimp only at hSw); go_simp; (try with_reducible rfl))
    try simp only [Act.put, List.getElem_toArray, List.getElem_cons_succ, List.getElem_cons_zero, List.setIfInBounds_toArray, List.set_cons_zero, List.set_cons_succ]
    refine wpAnyH_take (i := 5) (v := ?_) rfl (by kernel_rfl) (by kernel_rfl) (by kernel_rfl) (fun _ _ _ h => h) (Or.inl ⟨by rfl, ?_⟩) (by assumption) ?_
    rotate_left 1
    · (intro w hSw; (try dsimp only at hSw); go_simp; (try with_reducible rfl))
    try simp only [Act.put, List.getElem_toArray, List.getElem_cons_succ, List.getElem_cons_zero, List.setIfInBounds_toArray, List.set_cons_zero, List.set_cons_succ]
    refine wpAnyH_take (i := 6) (v := ?_) rfl (by kernel_rfl) (by kernel_rfl) (by kernel_rfl) (fun _ _ _ h => h) (Or.inl ⟨by rfl, ?_⟩) (by assumption) ?_
    rotate_left 1
    · (intro w hSw; (try dsimp only at hSw); go_simp; (try with_reducible rfl))
    try simp only [Act.put, List.getElem_toArray, List.getElem_cons_succ, List.getElem_cons_zero, List.setIfInBounds_toArray, List.set_cons_zero, List.set_cons_succ]
    refine wpAnyH_take (i := 7) (v := ?_) rfl (by kernel_rfl) (by kernel_rfl) (by kernel_rfl) (fun _ _ _ h => h) (Or.inl ⟨by rfl, ?_⟩) (by assumption) ?_
    rotate_left 1
    · (intro w hSw; (try dsimp only at hSw); go_simp; (try with_reducible rfl))
    try simp only [Act.put, List.getElem_toArray, List.getElem_cons_succ, List.getElem_cons_zero, List.setIfInBounds_toArray, List.set_cons_zero, List.set_cons_succ]
    refine wpAnyH_take (i := 8) (v := ?_) rfl (by kernel_rfl) (by kernel_rfl) (by kernel_rfl) (fun _ _ _ h => h) (Or.inl ⟨by rfl, ?_⟩) (by assumption) ?_
    rotate_left 1
    · (intro w hSw; (try dsimp only at hSw); go_simp; (try with_reducible rfl))
    try simp only [Act.put, List.getElem_toArray, List.getElem_cons_succ, List.getElem_cons_zero, List.setIfInBounds_toArray, List.set_cons_zero, List.set_cons_succ]
    refine wpAnyH_take (i := 9) (v := ?_) rfl (by kernel_rfl) (by kernel_rfl) (by kernel_rfl) (fun _ _ _ h => h) (Or.inl ⟨by rfl, ?_⟩) (by assumption) ?_
    rotate_left 1
    · (intro w hSw; (try dsimp only at hSw); go_simp; (try with_reducible rfl))
    try simp only [Act.put, List.getElem_toArray, List.getElem_cons_succ, List.getElem_cons_zero, List.setIfInBounds_toArray, List.set_cons_zero, List.set_cons_succ]
    refine wpAnyH_take (i := 10) (v := ?_) rfl (by kernel_rfl) (by kernel_rfl) (by kernel_rfl) (fun _ _ _ h => h) (Or.inl ⟨by rfl, ?_⟩) (by assumption) ?_
    rotate_left 1
    · (intro w hSw; (try dsimp only at hSw); go_simp; (try with_reducible rfl))
    try simp only [Act.put, List.getElem_toArray, List.getElem_cons_succ, List.getElem_cons_zero, List.setIfInBounds_toArray, List.set_cons_zero, List.set_cons_succ]
    refine wpAnyH_take (i := 11) (v := ?_) rfl (by kernel_rfl) (by kernel_rfl) (by kernel_rfl) (fun _ _ _ h => h) (Or.inl ⟨by rfl, ?_⟩) (by assumption) ?_
    rotate_left 1
    · (intro w hSw; (try dsimp only at hSw); go_simp; (try with_reducible rfl))
    try simp only [Act.put, List.getElem_toArray, List.getElem_cons_succ, List.getElem_cons_zero, List.setIfInBounds_toArray, List.set_cons_zero, List.set_cons_succ]
    refine wpAnyH_take (i := 12) (v := ?_) rfl (by kernel_rfl) (by kernel_rfl) (by kernel_rfl) (fun _ _ _ h => h) (Or.inl ⟨by rfl, ?_⟩) (by assumption) ?_
    rotate_left 1
    · (intro w hSw; (try dsimp only at hSw); go_simp; (try with_reducible rfl))
    try simp only [Act.put, List.getElem_toArray, List.getElem_cons_succ, List.getElem_cons_zero, List.setIfInBounds_toArray, List.set_cons_zero, List.set_cons_succ]
    refine wpAnyH_take (i := 13) (v := ?_) rfl (by kernel_rfl) (by kernel_rfl) (by kernel_rfl) (fun _ _ _ h => h) (Or.inl ⟨by rfl, ?_⟩) (by assumption) ?_
    rotate_left 1
    · (intro w hSw; (try dsimp only at hSw); go_simp; (try with_reducible rfl))
    try simp only [Act.put, List.getElem_toArray, List.getElem_cons_succ, List.getElem_cons_zero, List.setIfInBounds_toArray, List.set_cons_zero, List.set_cons_succ]
    refine wpAnyH_take (i := 14) (v := ?_) rfl (by kernel_rfl) (by kernel_rfl) (by kernel_rfl) (fun _ _ _ h => h) (Or.inl ⟨by rfl, ?_⟩) (by assumption) ?_
    rotate_left 1
    · (intro w hSw; (try dsimp only at hSw); go_simp; (try with_reducible rfl))
    try simp only [Act.put, List.getElem_toArray, List.getElem_cons_succ, List.getElem_cons_zero, List.setIfInBounds_toArray, List.set_cons_zero, List.set_cons_succ]
    refine wpAnyH_ready (rs := [15]) (by kernel_rfl) (by simp) ?_
    refine AllReadyH.cons rfl (fun K hK => ?_) AllReadyH.nil
    try simp only [List.getElem_toArray, List.getElem_cons_succ, List.getElem_cons_zero]
    go_simp
    (go_at_call 196; refine (HSC.out _ (by (repeat (first | exact Step.refl _ | refine Step.alloc ?_ _ | refine Step.drew ?_ | refine Step.drewN ?_ _ | refine Step.setCell ?_ (by first | exact Nat.le_refl _ | assumption | omega | (simp; done) | (simp; omega)) _ | assumption | refine Step.trans ?_ (by assumption : Step _ _))))).mono ?_; rintro e w2 ⟨v2, va2, rs2, rfl, hL2, hA2, hn2, hv2, hR2, hT2⟩; obtain ⟨b2, m2, rfl⟩ := hR2.val; have s2 : ∀ j, w2.cell? ⟨vb, j, none⟩ = _ := fun j => hT2.cell (by first | assumption | omega | (simp; done) | (simp; omega)) (fun h => h.elim hvl hva) j; have hW2 := HW.out.keep (M' := M) keep_wrR (hT2.block mb (by first | assumption | omega | (simp; done) | (simp; omega)) (fun h => h.elim hml hma)) (fun c h1 h2 => ⟨hT2.block c h1 (fun h => h2 (h.elim (fun e => e ▸ hMl) (hMa c))), h2⟩); have l2 : ∀ ty, (Builtin.len_ #[125] ty #[.map (some mb)]).run Try.prog w2 = .ok (.int .i64 (ws.length : Int)) w2 := fun ty => hW2.len Try.underlying125 ty; have HW2 := Lib.hid hW2; clear hW2; have HL2 := Lib.hid hL2; have HA2 := Lib.hid hA2; have HR2 := Lib.hid hR2; have HT2 := Lib.hid hT2; clear hL2 hA2 hR2 hT2)
    refine hK.out _ _ ?_ (fun hHeld => ?_)
    · (first | (refine ⟨?_, ?_, by assumption⟩ <;> go_keep) | (refine ⟨?_, ?_, HLN.out _ (by (repeat (first | exact Step.refl _ | refine Step.alloc ?_ _ | refine Step.drew ?_ | refine Step.drewN ?_ _ | refine Step.setCell ?_ (by first | exact Nat.le_refl _ | assumption | omega | (simp; done) | (simp; omega)) _ | assumption | refine Step.trans ?_ (by assumption : Step _ _))))⟩ <;> go_keep) | go_keep)
    clear hK K
    try simp only [Act.put, List.getElem_toArray, List.getElem_cons_succ, List.getElem_cons_zero, List.setIfInBounds_toArray, List.set_cons_zero, List.set_cons_succ]
    refine wpAnyH_take (i := 16) (v := ?_) rfl (by kernel_rfl) (by kernel_rfl) (by kernel_rfl) (fun _ _ _ h => h) (Or.inl ⟨by rfl, ?_⟩) (by assumption) ?_
    rotate_left 1
    · (intro w hSw; (try dsimp only at hSw); go_simp; (try with_reducible rfl))
    try simp only [Act.put, List.getElem_toArray, List.getElem_cons_succ, List.getElem_cons_zero, List.setIfInBounds_toArray, List.set_cons_zero, List.set_cons_succ]
    refine wpAnyH_take (i := 17) (v := ?_) rfl (by kernel_rfl) (by kernel_rfl) (by kernel_rfl) (fun _ _ _ h => h) (Or.inl ⟨by rfl, ?_⟩) (by assumption) ?_
    rotate_left 1
    · (intro w hSw; (try dsimp only at hSw); go_simp; (try with_reducible rfl))
    try simp only [Act.put, List.getElem_toArray, List.getElem_cons_succ, List.getElem_cons_zero, List.setIfInBounds_toArray, List.set_cons_zero, List.set_cons_succ]
    refine wpAnyH_take (i := 18) (v := ?_) rfl (by kernel_rfl) (by kernel_rfl) (by kernel_rfl) (fun _ _ _ h => h) (Or.inl ⟨by rfl, ?_⟩) (by assumption) ?_
    rotate_left 1
    · (intro w hSw; (try dsimp only at hSw); go_simp; (try with_reducible rfl))
    try simp only [Act.put, List.getElem_toArray, List.getElem_cons_succ, List.getElem_cons_zero, List.setIfInBounds_toArray, List.set_cons_zero, List.set_cons_succ]
    refine wpAnyH_take (i := 19) (v := ?_) rfl (by kernel_rfl) (by kernel_rfl) (by kernel_rfl) (fun _ _ _ h => h) (Or.inl ⟨by rfl, ?_⟩) (by assumption) ?_
    rotate_left 1
    · (intro w hSw; (try dsimp only at hSw); go_simp; (try with_reducible rfl))
    try simp only [Act.put, List.getElem_toArray, List.getElem_cons_succ, List.getElem_cons_zero, List.setIfInBounds_toArray, List.set_cons_zero, List.set_cons_succ]
    refine wpAnyH_take (i := 20) (v := ?_) rfl (by kernel_rfl) (by kernel_rfl) (by kernel_rfl) (fun _ _ _ h => h) (Or.inl ⟨by rfl, ?_⟩) (by assumption) ?_
    rotate_left 1
    · (intro w hSw; (try dsimp only at hSw); go_simp; (try with_reducible rfl))
    try simp only [Act.put, List.getElem_toArray, List.getElem_cons_succ, List.getElem_cons_zero, List.setIfInBounds_toArray, List.set_cons_zero, List.set_cons_succ]
    refine wpAnyH_done (by kernel_rfl) ?_ _
    have HL2' := Lib.hid (CellsAt.kept HV.out (HT2.out.block vb hvbl (fun h => h.elim hvl hva)))
    have hz2 : w1.heap.size ≤ w2.heap.size := HT2.out.size
    refine wp_at (fun wx => Step w2 wx) (by (repeat (first | exact Step.refl _ | refine Step.alloc ?_ _ | refine Step.drew ?_ | refine Step.drewN ?_ _ | refine Step.setCell ?_ (by first | exact Nat.le_refl _ | assumption | omega | (simp; done) | (simp; omega)) _ | assumption | refine Step.trans ?_ (by assumption : Step _ _)))) ?_
    rintro w3 hS3
    obtain ⟨lst, hlst⟩ : ∃ lst, scanB P lo hi (most + ws.length) = lst := ⟨_, rfl⟩
    have hll := (scanB_len (P := P) (lo := lo) (hi := hi) (most := most + ws.length)).1
    have HLST := Lib.hid hlst
    rw [hlst] at HR2 hll ⊢
    clear hlst l2 s2
    have hlr : RisP lst := HLST.out ▸ List.Pairwise.sublist (List.take_sublist _ _) (Rising.filter HP.out)
    have HLR := Lib.hid hlr
    obtain ⟨N, hN⟩ : ∃ N, w3.heap.size = N := ⟨_, rfl⟩
    have hz3 := hS3.size
    have hRl : (Ty.slice tPair).rep w3 (N ≤ ·) [.slice b2 lst.length m2] lst := ((HR2.out.step hS3).less (fun b hb h => by omega)).rep' (fun b hb h => by have := (HR2.out.lt hb).2; omega)
    have hM2 : MapR Try.prog 9 DWrite.key wrR w3 (N ≤ ·) mb ws := HW2.out.keep keep_wrR (hS3.heap HW2.out.lt) (fun c h1 h2 => ⟨hS3.heap h1, by omega⟩)
    have hF3 : Ty.bytes.rep w3 (N ≤ ·) [.slice fa lo.length fc] lo := Ty.keep _ HF.out (fun b h1 h2 => ⟨(hS3.heap (by omega)).trans (HT2.out.block b h1 (fun h => h2 (h.elim (fun e => e ▸ hMl) (hMa b)))), by omega⟩)
    have hT3 : Ty.bytes.rep w3 (N ≤ ·) [.slice ta LH tc] hi := Ty.keep _ HT.out (fun b h1 h2 => ⟨(hS3.heap (by omega)).trans (HT2.out.block b h1 (fun h => h2 (h.elim (fun e => e ▸ hMl) (hMa b)))), by omega⟩)
    have q1 : w3.cell? ⟨vb, 1, none⟩ = some (.map (some mb)) := (CellsAt.step HL2'.out hS3).cell 1
    have HRL := Lib.hid hRl
    have HM2 := Lib.hid hM2
    have HF3 := Lib.hid hF3
    have HT3 := Lib.hid hT3
    have HQ1 := Lib.hid q1
    have hmbN : mb < N := by have := HW2.out.lt; omega
    have hvbN : vb < N := by omega
    have HN := Lib.hid hN
    clear hlr hRl hM2 hF3 hT3 q1
    have hmm2 := @run_makeMap Try.prog
    go_upto_region 7 with fail
    refine wp_code (fun wx => wx.heap[N]? = some (.map #[] 0) ∧ Step w3 wx ∧ wx.heap.size = N + 1) ⟨heap_alloc_at hN.symm, by (repeat (first | exact Step.refl _ | refine Step.alloc ?_ _ | refine Step.drew ?_ | refine Step.drewN ?_ _ | refine Step.setCell ?_ (by first | exact Nat.le_refl _ | assumption | omega | (simp; done) | (simp; omega)) _ | assumption | refine Step.trans ?_ (by assumption : Step _ _))), by simp [hN]⟩ ?_
    rintro w4 ⟨hmk, hS4, hz4⟩
    have HMK := Lib.hid hmk
    clear hmk hmm2 hN
    go_wp2
    go_loopw [50] (fun i w' => ∃ k : Nat, i = .int .i64 k ∧ k ≤ lst.length ∧ Hid (MapR Try.prog 9 DPair.key vlR w' (N ≤ ·) N (lst.take k)) ∧ Step w3 w' ∧ N < w'.heap.size) (fun i _ => lst.length - (Go.RowKit.intOf i).toNat)
    case atStart => exact ⟨0, rfl, by omega, Lib.hid (MapR.empty HMK.out), hS4, by omega⟩
    case round =>
      obtain ⟨k, rfl, hk, hA, hB3, hNw⟩ := hrel
      by_cases hlt : k < lst.length
      · obtain ⟨pb, po, pes, rfl, phb, _, pu, pcu⟩ := Ty.slice_at HRL.out hlt
        obtain ⟨pc0, pc1, rfl, ph0, ph1⟩ := pu
        have pq0 := (Step.cell (w' := wr) (by (repeat (first | exact Step.refl _ | refine Step.alloc ?_ _ | refine Step.drew ?_ | refine Step.drewN ?_ _ | refine Step.setCell ?_ (by first | exact Nat.le_refl _ | assumption | omega | (simp; done) | (simp; omega)) _ | assumption | refine Step.trans ?_ (by assumption : Step _ _)))) phb _).trans (pcu 0 _ rfl)
        have pq1 := (Step.cell (w' := wr) (by (repeat (first | exact Step.refl _ | refine Step.alloc ?_ _ | refine Step.drew ?_ | refine Step.drewN ?_ _ | refine Step.setCell ?_ (by first | exact Nat.le_refl _ | assumption | omega | (simp; done) | (simp; omega)) _ | assumption | refine Step.trans ?_ (by assumption : Step _ _)))) phb _).trans (pcu 1 _ rfl)
        simp only [show tPair.n = 2 from rfl, Nat.add_zero] at pq0 pq1
        obtain ⟨pa0, pn0, rfl, _⟩ := Ty.slice_val ph0
        obtain ⟨pa1, pn1, rfl, _⟩ := Ty.slice_val ph1
        have pH0 := Lib.hid ph0
        have pH1 := Lib.hid ph1
        clear pcu ph0 ph1
        go_upto_region 10 with fail
        refine wp_code (fun wx => wx.heap[wr.heap.size]? = some (.cells #[.slice pa0 lst[k].key.length pn0, .slice pa1 lst[k].value.length pn1] 95 (0, 0)) ∧ Step wr wx) ?_ ?_
        · exact ⟨heap_alloc_at rfl, by (repeat (first | exact Step.refl _ | refine Step.alloc ?_ _ | refine Step.drew ?_ | refine Step.drewN ?_ _ | refine Step.setCell ?_ (by first | exact Nat.le_refl _ | assumption | omega | (simp; done) | (simp; omega)) _ | assumption | refine Step.trans ?_ (by assumption : Step _ _)))⟩
        rintro w5 ⟨hbx, hS5⟩
        have hz5 := hS5.size
        have c0 : w5.cell? ⟨wr.heap.size, 0, none⟩ = some (.slice pa0 lst[k].key.length pn0) := cell_of_row w5 _ 0 _ _ (0, 0) hbx
        have c1 : w5.cell? ⟨wr.heap.size, 1, none⟩ = some (.slice pa1 lst[k].value.length pn1) := cell_of_row w5 _ 1 _ _ (0, 0) hbx
        have hcv := conv_str (src := 42) (e := 5) (dst := 9) (Ty.step _ (Ty.step _ pH0.out hB3) hS5) Try.underlying42 Try.underlying5 Try.underlying9
        have hpl : putK DPair.key lst[k] (lst.take k) = lst.take (k + 1) := by
          rw [List.take_succ_eq_append_getElem hlt]
          refine putK_last fun y hy => ?_
          obtain ⟨j, hj, rfl⟩ := List.getElem_of_mem hy
          rw [List.length_take] at hj
          rw [List.getElem_take]
          exact List.pairwise_iff_getElem.1 HLR.out j k (by omega) hlt (by omega)
        have HPL := Lib.hid hpl
        have HA5 := Lib.hid (hA.out.step keep_vlR hS5)
        have hkl : lst[k].key.length ≤ maxLen := lim_max (Ty.slice_le pH0.out)
        have hvx : vlR w5 (N ≤ ·) (.slice pa1 lst[k].value.length pn1) lst[k] := Ty.step _ (Ty.step _ pH1.out hB3) hS5
        have HVX := Lib.hid hvx
        have hS35 : Step w3 w5 := hB3.trans hS5
        clear hbx hpl hvx
        go_wp2_with (at_mapUpdate; refine wpList_mapUpdate_R (x := lst[k]) keep_vlR rfl (.tmp 54) (.tmp 57) (.tmp 59) rfl HA5.out Try.underlying9 Try.underlying195 (by rw [List.length_take]; simp [maxLen]; omega) hkl HVX.out (Nat.le_refl _) rfl rfl rfl ?_; intro w6 hm6 hg6; have HM6 := Lib.hid hm6; clear hm6; have hS6 : Step w3 w6 := Below.grown hS35 hg6 hS35.size (fun q e => by have := HN.out; injection e with e; omega); have hz6 := hg6.size)
        go_roundw
        case rel => exact ⟨k + 1, by go_num, by omega, by rw [← HPL.out]; exact HM6, hS6, by omega⟩
        case measure => ((try simp [Go.RowKit.intOf]); omega)
      · obtain rfl : k = lst.length := by omega
        rw [List.take_length] at hA
        obtain ⟨wo, hwo⟩ : ∃ x, x = wr := ⟨_, rfl⟩
        subst hwo
        have HA3 := hA
        have HMo := Lib.hid (HM2.out.step keep_wrR hB3)
        have hq1 : wo.cell? ⟨vb, 1, none⟩ = some (.map (some mb)) := (hB3.cell (by have := HN.out; omega) 1).trans HQ1.out
        have hl1 : ∀ ty, (Builtin.len_ #[125] ty #[.map (some mb)]).run Try.prog wo = .ok (.int .i64 (ws.length : Int)) wo := fun ty => HMo.out.len Try.underlying125 ty
        clear hA
        go_upto_region 12 with fail
        go_cut [15] (fun s wx => s = .bool (decide (most + ws.length ≤ lst.length)) ∧ wx = wo)
        case first =>
          by_cases hc : most + ws.length ≤ lst.length
          · have hd : decide ((most : Int) + (ws.length : Int) ≤ (lst.length : Int)) = true := decide_eq_true (by omega)
            have HD := Lib.hid (decide_eq_true hc)
            clear hc
            go_wp2
            go_meet
            case rel => exact ⟨by rw [HD.out], rfl⟩
          · have hd : decide ((most : Int) + (ws.length : Int) ≤ (lst.length : Int)) = false := decide_eq_false (by omega)
            have HD := Lib.hid (decide_eq_false hc)
            clear hc
            go_wp2
            go_meet
            case rel => exact ⟨by rw [HD.out], rfl⟩
        case rest =>
          obtain ⟨rfl, rfl⟩ := hcut
          refine open_kk2 (by assumption) ?_
          obtain ⟨cutb, hcutb⟩ : ∃ cb, cb = decide (most + ws.length ≤ lst.length) := ⟨_, rfl⟩
          rw [← hcutb]
          have HCB := Lib.hid hcutb
          clear hcutb hl1
          go_wp2_with (at_range; refine wpList_range_R keep_wrR rfl (.tmp 74) rfl Try.underlying9 Try.underlying125 rfl HMo.out ?_; intro w6 left hrg hall hS6 hz6; have HRG := Lib.hid (hrg.keep (M' := (N ≤ ·)) keep_wrR rfl rfl (fun c h1 h2 => ⟨rfl, fun h => h2 (.inl h)⟩)); have HALL := Lib.hid hall; clear hrg hall)
          go_frame
          obtain ⟨rb, hrb⟩ : ∃ r, wc.heap.size = r := ⟨_, rfl⟩
          rw [hrb] at HRG
          rw [hrb]
          obtain ⟨cB, hcB⟩ : ∃ c : List UInt8 → Bool, c = fun k => rngB lo hi k && !skipB lst (most + ws.length) k := ⟨_, rfl⟩
          have HCBF := Lib.hid hcB
          have hNr : N < rb := by omega
          have hS36 : Step w3 w6 := hB3.trans hS6
          have HWR := Lib.hid HMo.out.rising
          clear hrb hcB
          go_loopw [17] (fun _ w' => ∃ lf cnt, Hid (RangeR Try.prog 9 DWrite.key wrR w' (N ≤ ·) mb rb ws lf cnt) ∧ Hid (MapR Try.prog 9 DPair.key vlR w' (N ≤ ·) N (Gr.partB lst ws cB lf)) ∧ Step w3 w' ∧ rb < w'.heap.size) (fun _ w' => w'.rangeLeft mb rb)
          case atStart => exact ⟨left, _, HRG, Lib.hid (by rw [partB_start (fun w hw => HALL.out w hw)]; exact HA3.out.step keep_vlR hS6), hS36, HRG.out.lt.1⟩
          case round =>
            obtain ⟨lf, cnt, hrg, hm, hB6, hrw⟩ := hrel
            go_wp2_with (at_next; refine wpList_next_R keep_wrR rfl (.tmp 75) rfl Try.underlying9 rfl hrg.out (by omega) ?_ ?_)
            · intro hc0 hl0
              have hfin : Gr.partB lst ws cB lf = layB lst ws lo hi (most + ws.length) := by rw [partB_end hl0, HCBF.out]; rfl
              have hlaw := scan_law (lo := lo) (hi := hi) (most := most) HP.out HWR.out
              rw [HLST.out] at hlaw
              have hGl : (layB lst ws lo hi (most + ws.length)).length ≤ 4000 := by
                have h1 := overB_length (l := lst) (ws.filter fun w => rngB lo hi w.key && !skipB lst (most + ws.length) w.key)
                have h2 := List.length_filter_le (fun w : DWrite => rngB lo hi w.key && !skipB lst (most + ws.length) w.key) ws
                have h3 := (scanB_len (P := P) (lo := lo) (hi := hi) (most := most + ws.length)).2
                rw [HLST.out] at h3
                unfold layB
                omega
              have hGr : RisP (layB lst ws lo hi (most + ws.length)) := RisP.over HLR.out _
              have hGk : ∀ p ∈ layB lst ws lo hi (most + ws.length), p.key.length ≤ lim := fun p hp => by
                rcases overB_keys hp with ⟨q, hq, he⟩ | ⟨x, hx, he⟩
                · obtain ⟨j, hj, rfl⟩ := List.getElem_of_mem hq
                  obtain ⟨_, _, es, _, _, _, ⟨_, _, _, h0, _⟩, _⟩ := Ty.slice_at HRL.out hj
                  rw [← he]
                  exact Ty.slice_le h0
                · rw [← he]
                  have := HWK.out x (List.mem_filter.1 hx).1
                  rw [lim_eq]
                  omega
              have HGK := Lib.hid hGk
              clear hGk
              have hMG := hm.out
              rw [hfin] at hMG
              generalize layB lst ws lo hi (most + ws.length) = G at *
              have HMG := Lib.hid hMG
              have HLAW := Lib.hid hlaw
              have HGR := Lib.hid hGr
              clear hl0 hfin hlaw hm hGr hMG hrg hc0
              obtain ⟨wq, hwq⟩ : ∃ x, x = wr := ⟨_, rfl⟩
              subst hwq
              have HCS := Lib.hid (sortedKeysS_ HMG.out (by omega))
              have HB6 := Lib.hid hB6
              clear hB6
              go_wp2_with (first
                | (go_at_call 119; refine (sKeys_ _ _).mono ?_; rintro e w8 ⟨rfl, rfl⟩)
                | (go_at_call 118; refine HCS.out.mono ?_; rintro e w9 ⟨v9, rfl, hK9, hS9⟩; obtain ⟨a9, n9, c9, rfl, HN9⟩ := hK9.valN; have HK9 := Lib.hid (hK9.rep' (M := fun _ => False) (fun _ _ h => h)); have HS9 := Lib.hid hS9; clear hK9 HCS hS9))
              have hn9 : n9 ≤ 4000 := by have := HN9.out; rw [List.length_map] at this; omega
              have hng : n9 ≤ G.length := by have := HN9.out; rw [List.length_map] at this; omega
              have HMG9 := Lib.hid (HMG.out.step keep_vlR HS9.out)
              have hz9 : wq.heap.size ≤ w9.heap.size := HS9.out.size
              go_loopw [19, 129] (fun o i w' => ∃ k : Nat, i = .int .i64 k ∧ k ≤ n9 ∧ Own tPair 95 w' (· < w9.heap.size) w9.heap.size o (G.take (min most k)) ∧ Step w9 w') (fun _ i _ => n9 - (Go.RowKit.intOf i).toNat)
              case atStart => exact ⟨0, rfl, by omega, by simpa using Own.nil, Step.refl _⟩
              case round =>
                obtain ⟨k, rfl, hk, hA, hB9⟩ := hrel
                have HA9 := Lib.hid hA
                obtain ⟨oa, on, oc, rfl, HON⟩ := hA.valN
                clear hA
                by_cases hlt : k < n9
                · have hkG : k < G.length := by omega
                  obtain ⟨pb, po, u, rfl, hpb, _, hu, hc⟩ := Ty.slice_at1 rfl HK9.out (k := k) (by rw [List.length_map]; omega)
                  obtain ⟨hu1, hu2⟩ := hu
                  rw [List.getElem_map] at hu1 hu2
                  have hu' : u = encStr G[k].key := by simpa using hu1
                  subst hu'
                  have hq := (hB9.cell hpb _).trans hc
                  obtain ⟨vv, hvv, hlk⟩ := HMG9.out.look_at Try.underlying9 Try.underlying195 (fun W => Try.zeroValue42 W) (List.getElem_mem hkG) hu2 false
                  simp only [Bool.false_eq_true, if_false] at hlk
                  have hvv' : Ty.bytes.rep w9 (N ≤ ·) [vv] G[k].value := hvv
                  obtain ⟨va, vn, rfl, _⟩ := Ty.slice_val hvv'
                  have hkl : G[k].key.length ≤ lim := HGK.out _ (List.getElem_mem hkG)
                  have HLK := Lib.hid hlk
                  have HVV := Lib.hid hvv'
                  have hzr := hB9.size
                  have hN9 : N < w9.heap.size := by have := HMG9.out.lt; omega
                  clear hu1 hu2 hc hvv hvv' hlk
                  by_cases hn : on < most
                  · have hd : decide ((on : Int) < (most : Int)) = true := decide_eq_true (by omega)
                    have hmn : G.take (min most (k + 1)) = G.take (min most k) ++ [G[k]] := by
                      have := HON.out
                      rw [List.length_take] at this
                      rw [Nat.min_eq_right (by omega), Nat.min_eq_right (by omega), List.take_succ_eq_append_getElem hkG]
                    have HMN := Lib.hid hmn
                    have hlim5 : (G.take (min most k)).length + 1 ≤ lim := by rw [List.length_take, lim_eq]; omega
                    clear hmn
                    go_wp2_with (first
                      | (refine wpList_convert_bytes rfl (.tmp 138) rfl Try.underlying9 Try.underlying42 Try.underlying5 hkl rfl ?_; intro c10 w10 hS10 hz10 hr10; have hl10 := HLK.out w10 ((hS10.heap (Nat.lt_of_lt_of_le hN9 hzr)).trans (hB9.heap hN9)); have hz10' : wr.heap.size < w10.heap.size := (by omega); have HR10 := Lib.hid hr10; clear hr10 hz10)
                      | (go_at_call 59; refine (Clone_ _ (N ≤ ·) _ _ (Ty.step _ HVV.out (by (repeat (first | exact Step.refl _ | refine Step.alloc ?_ _ | refine Step.drew ?_ | refine Step.drewN ?_ _ | refine Step.setCell ?_ (by first | exact Nat.le_refl _ | assumption | omega | (simp; done) | (simp; omega)) _ | assumption | refine Step.trans ?_ (by assumption : Step _ _)))))).mono ?_; rintro e11 w11 ⟨v11, rfl, hA11, hS11⟩; obtain ⟨b11, m11, rfl⟩ := hA11.val; have HA11 := Lib.hid hA11; clear hA11)
                      | (at_builtin; refine wpList_append_acc (ys := [G[k]]) rfl (.tmp 137) (.tmp 145) rfl stPairs (by (repeat (first | exact Step.refl _ | refine Step.alloc ?_ _ | refine Step.drew ?_ | refine Step.drewN ?_ _ | refine Step.setCell ?_ (by first | exact Nat.le_refl _ | assumption | omega | (simp; done) | (simp; omega)) _ | assumption | refine Step.trans ?_ (by assumption : Step _ _)))) ((Own.step HA9.out (by (repeat (first | exact Step.refl _ | refine Step.alloc ?_ _ | refine Step.drew ?_ | refine Step.drewN ?_ _ | refine Step.setCell ?_ (by first | exact Nat.le_refl _ | assumption | omega | (simp; done) | (simp; omega)) _ | assumption | refine Step.trans ?_ (by assumption : Step _ _))))).alloc _) (Src.oneAt (E := tPair) (by simp) ⟨_, _, rfl, Ty.step _ (HR10.out _ (fun h => by rcases h with h | h; omega; exact absurd (HA9.out.lt h).2 (Nat.lt_irrefl _))) (by (repeat (first | exact Step.refl _ | refine Step.alloc ?_ _ | refine Step.drew ?_ | refine Step.drewN ?_ _ | refine Step.setCell ?_ (by first | exact Nat.le_refl _ | assumption | omega | (simp; done) | (simp; omega)) _ | assumption | refine Step.trans ?_ (by assumption : Step _ _)))), Own.fresh (by refine Own.step (Hid.out (by assumption)) ?_; (repeat (first | exact Step.refl _ | refine Step.alloc ?_ _ | refine Step.drew ?_ | refine Step.drewN ?_ _ | refine Step.setCell ?_ (by first | exact Nat.le_refl _ | assumption | omega | (simp; done) | (simp; omega)) _ | assumption | refine Step.trans ?_ (by assumption : Step _ _)))) (fun b hb => Nat.lt_trans (HA9.out.old (by (repeat (first | exact Step.refl _ | refine Step.alloc ?_ _ | refine Step.drew ?_ | refine Step.drewN ?_ _ | refine Step.setCell ?_ (by first | exact Nat.le_refl _ | assumption | omega | (simp; done) | (simp; omega)) _ | assumption | refine Step.trans ?_ (by assumption : Step _ _)))) b hb) (by first | assumption | omega | (simp; done) | (simp; omega)))⟩) (by simpa using hlim5) rfl rfl ?_; intro v4 w4 hA4 hB4 hG4 _; have HA4 := Lib.hid hA4; have HB4 := Lib.hid hB4; clear hA4 hB4))
                    go_roundw
                    case rel => exact ⟨k + 1, by go_num, by omega, by rw [HMN.out]; exact HA4.out, HB4.out⟩
                    case measure => ((try simp [Go.RowKit.intOf]); omega)
                  · have hd : decide ((on : Int) < (most : Int)) = false := decide_eq_false (by omega)
                    have hmn : G.take (min most (k + 1)) = G.take (min most k) := by
                      have := HON.out
                      rw [List.length_take] at this
                      rw [Nat.min_eq_left (by omega), Nat.min_eq_left (by omega)]
                    have HMN := Lib.hid hmn
                    clear hmn
                    go_wp2
                    go_roundw
                    case rel => exact ⟨k + 1, by go_num, by omega, by rw [HMN.out]; exact HA9.out, hB9⟩
                    case measure => ((try simp [Go.RowKit.intOf]); omega)
                · obtain rfl : k = n9 := by omega
                  have hfin : G.take (min most k) = scanB (overB P ws) lo hi most := by
                    have := HN9.out
                    rw [List.length_map] at this
                    rw [← HLAW.out, this]
                    rcases Nat.le_total most G.length with h | h
                    · rw [Nat.min_eq_left h]
                    · rw [Nat.min_eq_right h, List.take_of_length_le (Nat.le_refl _), List.take_of_length_le h]
                  have HF9 := Lib.hid hfin
                  clear hfin
                  go_wp2
                  go_ret2
                  have hS2r : Step w2 wr := hS3.trans (HB6.out.trans (HS9.out.trans hB9))
                  have hle : ∀ b, (b < w1.heap.size ∨ va2.ownBlock = some b) → b < w9.heap.size := fun b h => by
                    rcases h with h | h
                    · have := hS3.size; have := HB6.out.size; have := HS9.out.size; omega
                    · have := (HA2.out.lt h).2; have := hS3.size; have := HB6.out.size; have := HS9.out.size; omega
                  have hT12 : Turn (fun b => b = lb ∨ va.ownBlock = some b) w1 w2 := (Turn.refl _ w1).drew.trans HT2.out
                  exact ⟨_, va2, rs2, rfl, HL2.out.step hS2r, HA2.out.step hS2r, by omega, hv2, by rw [← HF9.out]; exact Own.base (B := w9.heap.size) (Own.less HA9.out (fun b _ h => hle b h)) (by have := hS3.size; have := HB6.out.size; have := HS9.out.size; omega), hT12.then hS2r⟩
            · intro x v w7 cnt7 hx hlx hv hrg7 hlt7 hg7 hs7 hen
              obtain ⟨⟨L⟩, rfl, hrx⟩ := hv
              obtain ⟨v0, v1, hcs, hk0, hv1⟩ := hrx
              simp only at hcs
              subst hcs
              obtain ⟨ka, kc, rfl, _⟩ := Ty.slice_val hk0
              obtain ⟨va', vc, rfl, _⟩ := Ty.slice_val hv1
              have HX := Lib.hid hx
              have HLX := Lib.hid hlx
              have HRG7 := Lib.hid hrg7
              have HK0 := Lib.hid hk0
              have HV1 := Lib.hid hv1
              have hm7 := hm.out.keep (M' := (N ≤ ·)) keep_vlR (hg7.block N (by omega) (fun e => by have e' : N = rb := (by simpa using e); omega)) (fun c h1 h2 => ⟨hg7.block c h1 (fun e => h2 (by have e' : c = rb := (by simpa using e); omega)), h2⟩)
              have HM7 := Lib.hid hm7
              have hS37 : Step w3 w7 := Below.grown hB6 hg7 hB6.size (fun q e => by have := HN.out; injection e with e; omega)
              have HEQ := Lib.hid hrg.out.left_eq
              clear hx hlx hrg7 hk0 hv1 hm7 hrg hm hg7
              go_upto_region 16 with fail
              obtain ⟨xk, xv, xg⟩ := x
              simp only at HX HLX HRG7 HK0 HV1 hlt7 ⊢
              refine wp_code (fun wx => wx.heap[wr.heap.size]? = some (.cells #[.slice ka xk.length kc, .slice va' xv.length vc, .bool xg] 74 (0, 0)) ∧ Step w7 wx) ⟨heap_alloc_at hs7.symm, by (repeat (first | exact Step.refl _ | refine Step.alloc ?_ _ | refine Step.drew ?_ | refine Step.drewN ?_ _ | refine Step.setCell ?_ (by first | exact Nat.le_refl _ | assumption | omega | (simp; done) | (simp; omega)) _ | assumption | refine Step.trans ?_ (by assumption : Step _ _)))⟩ ?_
              rintro w8 ⟨hbx, hS8⟩
              have hz8 : wr.heap.size ≤ w8.heap.size := by have := hS8.size; omega
              have hz7 : wr.heap.size ≤ w7.heap.size := by omega
              clear hs7
              have c0 : w8.cell? ⟨wr.heap.size, 0, none⟩ = some (.slice ka xk.length kc) := cell_of_row w8 _ 0 _ _ (0, 0) hbx
              have c1 : w8.cell? ⟨wr.heap.size, 1, none⟩ = some (.slice va' xv.length vc) := cell_of_row w8 _ 1 _ _ (0, 0) hbx
              have c2 : w8.cell? ⟨wr.heap.size, 2, none⟩ = some (.bool xg) := cell_of_row w8 _ 2 _ _ (0, 0) hbx
              have hS38 : Step w3 w8 := hS37.trans hS8
              have hK8 := Ty.step _ HK0.out hS8
              have hNo := Lib.hid (@rngB_no lo hi xk)
              have hOp := Lib.hid (@rngB_open lo hi xk)
              have hCu := Lib.hid (@rngB_cut lo hi xk)
              have hc1 := Lib.hid (Compare_ (Ty.step _ HF3.out hS38) hK8)
              have hc2 := Lib.hid (Compare_ hK8 (Ty.step _ HT3.out hS38))
              have HK8 := Lib.hid hK8
              clear hbx hK8
              go_cut [18] (fun s wx => s = .bool (rngB lo hi xk) ∧ wx = w8)
              case first =>
                by_cases h3 : cmpB lo xk ≤ 0
                · by_cases h4 : LH = 0
                  · have h5 : ((LH : Int) == 0) = true := beq_iff_eq.2 (by omega)
                    have hR := Lib.hid (hOp.out h3 (List.length_eq_zero_iff.1 (HLH.out.trans h4)))
                    clear h4
                    go_wp2_with (go_at_call 75; refine hc1.out.mono ?_; clear hc1; rintro e w9 ⟨rfl, rfl⟩)
                    go_meet
                    case rel => exact ⟨by rw [hR.out], rfl⟩
                  · have h5 : ((LH : Int) == 0) = false := beq_eq_false_iff_ne.2 (by omega)
                    have hR := Lib.hid (hCu.out h3 (fun e => h4 (by rw [← HLH.out, e]; rfl)))
                    clear h4
                    go_wp2_with (first
                      | (go_at_call 75; refine hc1.out.mono ?_; clear hc1; rintro e w9 ⟨rfl, rfl⟩)
                      | (go_at_call 75; refine hc2.out.mono ?_; clear hc2; rintro e w9 ⟨rfl, rfl⟩))
                    go_meet
                    case rel => exact ⟨by rw [hR.out], rfl⟩
                · have hR := Lib.hid (hNo.out h3)
                  go_wp2_with (go_at_call 75; refine hc1.out.mono ?_; clear hc1; rintro e w9 ⟨rfl, rfl⟩)
                  go_meet
                  case rel => exact ⟨by rw [hR.out], rfl⟩
              case rest =>
                obtain ⟨rfl, rfl⟩ := hcut
                refine open_kk2 (by assumption) ?_
                clear hc1 hc2 hNo hOp hCu
                go_upto_region 17 with fail
                obtain ⟨inb, hin⟩ : ∃ b, b = rngB lo hi xk := ⟨_, rfl⟩
                rw [← hin]
                have HIN := Lib.hid hin
                clear hin
                obtain ⟨wp, hwp⟩ : ∃ x, x = wc := ⟨_, rfl⟩
                subst hwp
                go_cut [115] (fun s wx => s = .bool (!(cB xk)) ∧ Step wp wx)
                case first =>
                  have hcb : cB xk = (inb && !skipB lst (most + ws.length) xk) := by rw [HCBF.out, HIN.out]
                  cases inb with
                  | false =>
                    have HC := Lib.hid hcb
                    clear hcb
                    go_quiet (fail)
                    go_wp2
                    go_meet
                    case rel => exact ⟨by rw [HC.out]; rfl, by (repeat (first | exact Step.refl _ | refine Step.alloc ?_ _ | refine Step.drew ?_ | refine Step.drewN ?_ _ | refine Step.setCell ?_ (by first | exact Nat.le_refl _ | assumption | omega | (simp; done) | (simp; omega)) _ | assumption | refine Step.trans ?_ (by assumption : Step _ _)))⟩
                  | true =>
                    cases cutb with
                    | false =>
                      have hsk : skipB lst (most + ws.length) xk = false := by unfold skipB; rw [← HCB.out]; rfl
                      rw [hsk] at hcb
                      have HC := Lib.hid hcb
                      clear hcb hsk
                      go_quiet (fail)
                      go_wp2
                      go_meet
                      case rel => exact ⟨by rw [HC.out]; rfl, by (repeat (first | exact Step.refl _ | refine Step.alloc ?_ _ | refine Step.drew ?_ | refine Step.drewN ?_ _ | refine Step.setCell ?_ (by first | exact Nat.le_refl _ | assumption | omega | (simp; done) | (simp; omega)) _ | assumption | refine Step.trans ?_ (by assumption : Step _ _)))⟩
                    | true =>
                      have hnl : most + ws.length ≤ lst.length := of_decide_eq_true HCB.out.symm
                      obtain ⟨m, hm⟩ : ∃ m, lst.length = m + 1 := ⟨lst.length - 1, by omega⟩
                      have hlast : m < lst.length := by omega
                      have hgl : lst.getLast? = some lst[m] := by rw [List.getLast?_eq_getElem?, hm]; simp
                      have hsk : skipB lst (most + ws.length) xk = decide (0 < cmpB xk lst[m].key) := by unfold skipB; rw [← HCB.out, hgl]; rfl
                      rw [hsk] at hcb
                      have HC := Lib.hid hcb
                      have hb3 : Step w3 wp := hS38
                      obtain ⟨qb, qo, qes, rfl, qhb, _, qu, qcu⟩ := Ty.slice_at HRL.out hlast
                      obtain ⟨qc0, qc1, rfl, qh0, qh1⟩ := qu
                      have qq0 := (Step.cell (w' := wp) (by (repeat (first | exact Step.refl _ | refine Step.alloc ?_ _ | refine Step.drew ?_ | refine Step.drewN ?_ _ | refine Step.setCell ?_ (by first | exact Nat.le_refl _ | assumption | omega | (simp; done) | (simp; omega)) _ | assumption | refine Step.trans ?_ (by assumption : Step _ _)))) qhb _).trans (qcu 0 _ rfl)
                      have qq1 := (Step.cell (w' := wp) (by (repeat (first | exact Step.refl _ | refine Step.alloc ?_ _ | refine Step.drew ?_ | refine Step.drewN ?_ _ | refine Step.setCell ?_ (by first | exact Nat.le_refl _ | assumption | omega | (simp; done) | (simp; omega)) _ | assumption | refine Step.trans ?_ (by assumption : Step _ _)))) qhb _).trans (qcu 1 _ rfl)
                      simp only [show tPair.n = 2 from rfl, Nat.add_zero] at qq0 qq1
                      obtain ⟨qa0, qn0, rfl, _⟩ := Ty.slice_val qh0
                      obtain ⟨qa1, qn1, rfl, _⟩ := Ty.slice_val qh1
                      have qH0 := Lib.hid qh0
                      have qH1 := Lib.hid qh1
                      clear qcu qh0 qh1
                      have HCM := Lib.hid (fun (W : World) (hW : Step wp W) => Compare_ (Ty.step _ HK8.out hW) (Ty.step _ (Ty.step _ qH0.out hb3) hW))
                      have hm0 : (0 : Int) ≤ (m : Int) := by omega
                      have hmw : IntKind.i64.wrap ((lst.length : Int) - 1) = (m : Int) := by rw [IntKind.wrap_i64]; omega
                      have hmi : (m : Int) < (lst.length : Int) := by omega
                      clear hcb hsk hgl hm hnl
                      go_quiet ((go_at_call 75; exact Calls.quiet_of_same (HCM.out _ (by (repeat (first | exact Step.refl _ | refine Step.alloc ?_ _ | refine Step.drew ?_ | refine Step.drewN ?_ _ | refine Step.setCell ?_ (by first | exact Nat.le_refl _ | assumption | omega | (simp; done) | (simp; omega)) _ | assumption | refine Step.trans ?_ (by assumption : Step _ _)))))))
                      go_wp2
                      go_meet
                      case rel => exact ⟨by rw [HC.out]; simp, by (repeat (first | exact Step.refl _ | refine Step.alloc ?_ _ | refine Step.drew ?_ | refine Step.drewN ?_ _ | refine Step.setCell ?_ (by first | exact Nat.le_refl _ | assumption | omega | (simp; done) | (simp; omega)) _ | assumption | refine Step.trans ?_ (by assumption : Step _ _)))⟩
                case rest =>
                  obtain ⟨rfl, hSc⟩ := hcut
                  refine open_kk2 (by assumption) ?_
                  have hzb : wr.heap.size < wp.heap.size := lt_of_cell c0
                  have hzc := hSc.size
                  have e0 := (hSc.cell hzb 0).trans c0
                  have e1 := (hSc.cell hzb 1).trans c1
                  have e2 := (hSc.cell hzb 2).trans c2
                  clear c0 c1 c2
                  have hS3c : Step w3 wc := hS38.trans hSc
                  have hS7c : Step w7 wc := hS8.trans hSc
                  have hm9 := HM7.out.step keep_vlR hS7c
                  have HM9 := Lib.hid hm9
                  have HRG9 := Lib.hid (HRG7.out.step keep_wrR hS7c)
                  have HV9 := Lib.hid (Ty.step _ HV1.out hS7c)
                  have hkl : xk.length ≤ maxLen := lim_max (Ty.slice_le HK0.out)
                  have hpl2 : (Gr.partB lst ws cB lf).length ≤ 3000 := by
                    have h1 := overB_length (l := lst) (ws.filter fun w => cB w.key && !lf w.key)
                    have h2 := List.length_filter_le (fun w : DWrite => cB w.key && !lf w.key) ws
                    unfold Gr.partB
                    have := (scanB_len (P := P) (lo := lo) (hi := hi) (most := most + ws.length)).2
                    rw [HLST.out] at this
                    omega
                  have hNb : N < wr.heap.size := by omega
                  have HS3c := Lib.hid hS3c
                  clear hm9 HIN hS3c hS7c hSc hS8 hS38 hS37 hB6
                  by_cases hcb : cB xk = true
                  · rw [hcb]
                    have hpd : ∀ lf' : List UInt8 → Bool, (∀ s, lf' s = (lf s && decide (s ≠ xk))) → Gr.partB lst ws cB lf' = putW (Gr.partB lst ws cB lf) ⟨xk, xv, xg⟩ := fun lf' h => partB_do HLR.out HWR.out HX.out HLX.out h hcb
                    have HPD := Lib.hid hpd
                    clear hpd hcb
                    go_upto_region 19 with (refine wpList_delete_R (s := xk) keep_vlR rfl (.tmp 116) (.tmp 117) rfl HM9.out Try.underlying9 Try.underlying195 hkl (Nat.le_refl _) rfl rfl ?_; intro w10 hd10 hg10)
                    have hz10 := hg10.size
                    have hblk : ∀ c, c < wc.heap.size → c ≠ N → w10.heap[c]? = wc.heap[c]? := fun c h1 h2 => hg10.block c h1 (fun e => h2 (by simpa using e))
                    have g1 := (cell_eq (o := 1) (s := none) (hblk wr.heap.size (by omega) (by omega))).trans e1
                    have g2 := (cell_eq (o := 2) (s := none) (hblk wr.heap.size (by omega) (by omega))).trans e2
                    have HD10 := Lib.hid hd10
                    have HV10 := Lib.hid (Ty.keep (M' := (N ≤ ·)) _ HV9.out (fun c h1 h2 => ⟨hblk c h1 (fun e => h2 (by omega)), h2⟩))
                    have HRG10 := Lib.hid (HRG9.out.keep (M' := (N ≤ ·)) keep_wrR (hblk mb (by have := HRG9.out.lt.2.1; omega) (by omega)) (hblk rb HRG9.out.lt.1 (by omega)) (fun c h1 h2 => ⟨hblk c h1 (fun e => h2 (by omega)), h2⟩))
                    have HS310 : Hid (Step w3 w10) := Lib.hid (Below.grown HS3c.out hg10 HS3c.out.size (fun q e => by have := HN.out; injection e with e; omega))
                    have hdl : (dropK DPair.key xk (Gr.partB lst ws cB lf)).length ≤ 3000 := Nat.le_trans dropK_length hpl2
                    have HBK := Lib.hid hblk
                    clear e0 e1 e2 hd10 hblk
                    cases xg with
                    | true =>
                      go_wp2
                      go_roundw
                      case rel => exact ⟨_, cnt7, HRG10, Lib.hid (by rw [HPD.out _ (fun s => by simp)]; exact HD10.out), HS310.out, HRG10.out.lt.1⟩
                      case measure => rw [HRG10.out.left_eq, HEQ.out]; exact hlt7
                    | false =>
                      go_wp2_with (at_mapUpdate; refine wpList_mapUpdate_R (x := (⟨xk, xv⟩ : DPair)) keep_vlR rfl (.tmp 121) (.tmp 122) (.tmp 124) rfl HD10.out Try.underlying9 Try.underlying195 (Nat.lt_of_le_of_lt hdl (by decide)) hkl HV10.out (Nat.le_refl _) rfl rfl rfl ?_; intro w11 hm11 hg11; have HM11 := Lib.hid hm11; clear hm11; have hblk11 : ∀ c, c < w10.heap.size → c ≠ N → w11.heap[c]? = w10.heap[c]? := fun c h1 h2 => hg11.block c h1 (fun e => h2 (by simpa using e)); have HRG11 := Lib.hid (HRG10.out.keep (M' := (N ≤ ·)) keep_wrR (hblk11 mb (by have := HRG10.out.lt.2.1; omega) (by omega)) (hblk11 rb HRG10.out.lt.1 (by omega)) (fun c h1 h2 => ⟨hblk11 c h1 (fun e => h2 (by omega)), h2⟩)); have HS311 : Hid (Step w3 w11) := Lib.hid (Below.grown HS310.out hg11 HS310.out.size (fun q e => by have := HN.out; injection e with e; omega)); clear hblk11 hg11)
                      go_roundw
                      case rel =>
                        have hfm : Hid (MapR Try.prog 9 DPair.key vlR w11 (N ≤ ·) N (Gr.partB lst ws cB (fun s => lf s && !decide (s = xk)))) := Lib.hid (by rw [HPD.out _ (fun s => by simp)]; have h := HM11.out; rw [putK_drop (x := (⟨xk, xv⟩ : DPair))] at h; exact h)
                        first
                        | exact ⟨_, ⟨cnt7, HRG11⟩, hfm, HS311.out, HRG11.out.lt.1⟩
                        | exact ⟨_, cnt7, HRG11, hfm, HS311.out, HRG11.out.lt.1⟩
                      case measure => rw [HRG11.out.left_eq, HEQ.out]; exact hlt7
                  · have hcb' : cB xk = false := by simpa using hcb
                    rw [hcb']
                    have hpd : ∀ lf' : List UInt8 → Bool, (∀ s, lf' s = (lf s && decide (s ≠ xk))) → Gr.partB lst ws cB lf' = Gr.partB lst ws cB lf := fun lf' h => partB_skip (x := ⟨xk, xv, xg⟩) h hcb'
                    have HPD := Lib.hid hpd
                    clear hpd hcb hcb'
                    go_wp2
                    go_roundw
                    case rel => exact ⟨_, cnt7, HRG9, Lib.hid (by rw [HPD.out _ (fun s => by simp)]; exact HM9.out), HS3c.out, HRG9.out.lt.1⟩
                    case measure => rw [HRG9.out.left_eq, HEQ.out]; exact hlt7
end Go.Proofs.Ythflkfgiclcdiaa
