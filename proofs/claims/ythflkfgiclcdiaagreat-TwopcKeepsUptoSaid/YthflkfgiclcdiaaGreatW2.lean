/-
  Walks: clones.
-/
import Derived.Test.YthflkfgiclcdiaaGreatW1
import Derived.WalkSpells
namespace Go.Proofs.YthflkfgiclcdiaaGreat
open Go.RowKit Go.Gr
theorem stOps : SliceTy Tryz.prog 33 32 tOp.n := .mk' (z := .agg #[.int .i64 0, .slice none 0 0, .slice none 0 0, .int .i64 0]) (by_ := 64) Tryz.underlying33 (by kernel_rfl) rfl (by decide) (by omega)
theorem stPairs : SliceTy Tryz.prog 73 154 tPair.n := .mk' (z := .agg #[.slice none 0 0, .slice none 0 0]) (by_ := 48) Tryz.underlying73 (by kernel_rfl) rfl (by decide) (by omega)
theorem stWrites : SliceTy Tryz.prog 47 152 tWrite.n := .mk' (z := .agg #[.slice none 0 0, .slice none 0 0, .bool false]) (by_ := 56) Tryz.underlying47 (by kernel_rfl) rfl (by decide) (by omega)


set_option maxHeartbeats 400000 in
theorem CloneOps_ (w : World) (M M' : Nat → Prop) (v : Value) (xs : List DOp) (h : (Ty.slice tOp).rep w M [v] xs) (hM : ∀ b, b < w.heap.size → M' b → M b) :
    Calls Tryz.prog 89 #[v] w fun e w' => ∃ v', e = .returned v' ∧ Own tOp 32 w' M' w.heap.size v' xs ∧ Step w w' := by
  obtain ⟨a, c, rfl, hc, hm, hl⟩ := Ty.slice_val h
  have H := Lib.hid h
  have HM := Lib.hid hM
  clear hM
  have hnil := Lib.run_eql_slice_nil (P := Tryz.prog) w 33 32 a xs.length c 0 0 Tryz.underlying33
  rcases a with _ | a
  · have h0 : xs = [] := Ty.slice_none h
    subst h0
    simp only [List.length_nil] at hnil ⊢
    clear hc hl
    clear h
    go_enter Tryz.func89, Tryz.ntmps89
    go_wp2
    go_ret
    exact ⟨_, rfl, Own.nil, Step.refl _⟩
  · clear h
    go_enter Tryz.func89, Tryz.ntmps89
    go_wp2_with (at_builtin; refine wpList_append_acc (xs := []) (ys := xs) rfl (.tmp 5) (.tmp 6) rfl stOps ((Step.refl w).alloc _) (M := M') (Own.lit rfl (by simp) (Nat.le_refl _) rfl (by simp)) (Src.later H.out (by (repeat (first | exact Step.refl _ | refine Step.alloc ?_ _ | refine Step.drew ?_ | refine Step.drewN ?_ _ | refine Step.setCell ?_ (by first | exact Nat.le_refl _ | assumption | omega | (simp; done) | (simp; omega)) _ | assumption | refine Step.trans ?_ (by assumption : Step _ _)))) (fun b hb h => HM.out b hb (h.resolve_right (old_ne hb)))) (by simpa using hl) rfl rfl ?_; intro v' w' ha hb hg hp)
    go_ret
    exact ⟨v', rfl, by simpa using ha, hb⟩

set_option maxHeartbeats 400000 in
theorem ClonePairs_ (w : World) (M M' : Nat → Prop) (v : Value) (xs : List DPair) (h : (Ty.slice tPair).rep w M [v] xs) (hM : ∀ b, b < w.heap.size → M' b → M b) :
    Calls Tryz.prog 119 #[v] w fun e w' => ∃ v', e = .returned v' ∧ Own tPair 154 w' M' w.heap.size v' xs ∧ Step w w' := by
  obtain ⟨a, c, rfl, hc, hm, hl⟩ := Ty.slice_val h
  have H := Lib.hid h
  have HM := Lib.hid hM
  clear hM
  have hnil := Lib.run_eql_slice_nil (P := Tryz.prog) w 73 154 a xs.length c 0 0 Tryz.underlying73
  rcases a with _ | a
  · have h0 : xs = [] := Ty.slice_none h
    subst h0
    simp only [List.length_nil] at hnil ⊢
    clear hc hl
    clear h
    go_enter Tryz.func119, Tryz.ntmps119
    go_wp2
    go_ret
    exact ⟨_, rfl, Own.nil, Step.refl _⟩
  · clear h
    go_enter Tryz.func119, Tryz.ntmps119
    go_wp2_with (at_builtin; refine wpList_append_acc (xs := []) (ys := xs) rfl (.tmp 5) (.tmp 6) rfl stPairs ((Step.refl w).alloc _) (M := M') (Own.lit rfl (by simp) (Nat.le_refl _) rfl (by simp)) (Src.later H.out (by (repeat (first | exact Step.refl _ | refine Step.alloc ?_ _ | refine Step.drew ?_ | refine Step.drewN ?_ _ | refine Step.setCell ?_ (by first | exact Nat.le_refl _ | assumption | omega | (simp; done) | (simp; omega)) _ | assumption | refine Step.trans ?_ (by assumption : Step _ _)))) (fun b hb h => HM.out b hb (h.resolve_right (old_ne hb)))) (by simpa using hl) rfl rfl ?_; intro v' w' ha hb hg hp)
    go_ret
    exact ⟨v', rfl, by simpa using ha, hb⟩

set_option maxHeartbeats 400000 in
theorem CloneWrites_ (w : World) (M M' : Nat → Prop) (v : Value) (xs : List DWrite) (h : (Ty.slice tWrite).rep w M [v] xs) (hM : ∀ b, b < w.heap.size → M' b → M b) :
    Calls Tryz.prog 121 #[v] w fun e w' => ∃ v', e = .returned v' ∧ Own tWrite 152 w' M' w.heap.size v' xs ∧ Step w w' := by
  obtain ⟨a, c, rfl, hc, hm, hl⟩ := Ty.slice_val h
  have H := Lib.hid h
  have HM := Lib.hid hM
  clear hM
  have hnil := Lib.run_eql_slice_nil (P := Tryz.prog) w 47 152 a xs.length c 0 0 Tryz.underlying47
  rcases a with _ | a
  · have h0 : xs = [] := Ty.slice_none h
    subst h0
    simp only [List.length_nil] at hnil ⊢
    clear hc hl
    clear h
    go_enter Tryz.func121, Tryz.ntmps121
    go_wp2
    go_ret
    exact ⟨_, rfl, Own.nil, Step.refl _⟩
  · clear h
    go_enter Tryz.func121, Tryz.ntmps121
    go_wp2_with (at_builtin; refine wpList_append_acc (xs := []) (ys := xs) rfl (.tmp 5) (.tmp 6) rfl stWrites ((Step.refl w).alloc _) (M := M') (Own.lit rfl (by simp) (Nat.le_refl _) rfl (by simp)) (Src.later H.out (by (repeat (first | exact Step.refl _ | refine Step.alloc ?_ _ | refine Step.drew ?_ | refine Step.drewN ?_ _ | refine Step.setCell ?_ (by first | exact Nat.le_refl _ | assumption | omega | (simp; done) | (simp; omega)) _ | assumption | refine Step.trans ?_ (by assumption : Step _ _)))) (fun b hb h => HM.out b hb (h.resolve_right (old_ne hb)))) (by simpa using hl) rfl rfl ?_; intro v' w' ha hb hg hp)
    go_ret
    exact ⟨v', rfl, by simpa using ha, hb⟩

set_option maxHeartbeats 400000 in
theorem Clone_ (w : World) (M : Nat → Prop) (v : Value) (xs : List UInt8) (h : Ty.bytes.rep w M [v] xs) :
    Calls Tryz.prog 54 #[v] w fun e w' => ∃ v', e = .returned v' ∧ Own Ty.byte 5 w' (· < w.heap.size) w.heap.size v' xs ∧ Step w w' := by
  obtain ⟨a, c, rfl, hc, hm, hl⟩ := Ty.slice_val h
  have H := Lib.hid h
  have hnil := Lib.run_eql_slice_nil (P := Tryz.prog) w 22 5 a xs.length c 0 0 Tryz.underlying22
  rcases a with _ | a
  · have h0 : xs = [] := Ty.slice_none h
    subst h0
    simp only [List.length_nil] at hnil ⊢
    clear hc hl
    clear h
    go_enter Tryz.func54, Tryz.ntmps54
    go_wp2
    go_ret
    exact ⟨_, rfl, Own.nil, Step.refl _⟩
  · clear h
    go_enter Tryz.func54, Tryz.ntmps54
    go_wp2_with (at_builtin; refine wpList_append_acc (xs := []) (ys := xs) rfl (.tmp 5) (.tmp 6) rfl stBytes ((Step.refl w).alloc _) (M := (· < w.heap.size)) (Own.lit rfl (by simp) (Nat.le_refl _) rfl (by simp)) (Src.flat Ty.flat_byte (Ty.kept _ H.out (Kept.alloc _ _))) (by simpa using hl) rfl rfl ?_; intro v' w' ha hb hg hp)
    go_ret
    exact ⟨v', rfl, by simpa using ha, hb⟩
end Go.Proofs.YthflkfgiclcdiaaGreat
