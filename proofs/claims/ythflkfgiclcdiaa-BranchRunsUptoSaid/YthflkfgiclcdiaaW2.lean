/-
  Walks: clones.
-/
import Derived.Test.YthflkfgiclcdiaaW1
import Derived.WalkSpells
namespace Go.Proofs.Ythflkfgiclcdiaa
open Go.RowKit Go.Gr
theorem stOps : SliceTy Try.prog 23 72 tOp.n := .mk' (z := .agg #[.int .i64 0, .slice none 0 0, .slice none 0 0, .int .i64 0]) (by_ := 64) Try.underlying23 (by kernel_rfl) rfl (by decide) (by omega)
theorem stPairs : SliceTy Try.prog 59 95 tPair.n := .mk' (z := .agg #[.slice none 0 0, .slice none 0 0]) (by_ := 48) Try.underlying59 (by kernel_rfl) rfl (by decide) (by omega)
theorem stWrites : SliceTy Try.prog 39 74 tWrite.n := .mk' (z := .agg #[.slice none 0 0, .slice none 0 0, .bool false]) (by_ := 56) Try.underlying39 (by kernel_rfl) rfl (by decide) (by omega)


set_option maxHeartbeats 400000 in
theorem CloneOps_ (w : World) (M M' : Nat → Prop) (v : Value) (xs : List DOp) (h : (Ty.slice tOp).rep w M [v] xs) (hM : ∀ b, b < w.heap.size → M' b → M b) :
    Calls Try.prog 86 #[v] w fun e w' => ∃ v', e = .returned v' ∧ Own tOp 72 w' M' w.heap.size v' xs ∧ Step w w' := by
  obtain ⟨a, c, rfl, hc, hm, hl⟩ := Ty.slice_val h
  have H := Lib.hid h
  have HM := Lib.hid hM
  clear hM
  have hnil := Lib.run_eql_slice_nil (P := Try.prog) w 23 72 a xs.length c 0 0 Try.underlying23
  rcases a with _ | a
  · have h0 : xs = [] := Ty.slice_none h
    subst h0
    simp only [List.length_nil] at hnil ⊢
    clear hc hl
    clear h
    go_enter Try.func86, Try.ntmps86
    go_wp2
    go_ret
    exact ⟨_, rfl, Own.nil, Step.refl _⟩
  · clear h
    go_enter Try.func86, Try.ntmps86
    go_wp2_with (at_builtin; refine wpList_append_acc (xs := []) (ys := xs) rfl (.tmp 5) (.tmp 6) rfl stOps ((Step.refl w).alloc _) (M := M') (Own.lit rfl (by simp) (Nat.le_refl _) rfl (by simp)) (Src.later H.out (by (repeat (first | exact Step.refl _ | refine Step.alloc ?_ _ | refine Step.drew ?_ | refine Step.drewN ?_ _ | refine Step.setCell ?_ (by first | exact Nat.le_refl _ | assumption | omega | (simp; done) | (simp; omega)) _ | assumption | refine Step.trans ?_ (by assumption : Step _ _)))) (fun b hb h => HM.out b hb (h.resolve_right (old_ne hb)))) (by simpa using hl) rfl rfl ?_; intro v' w' ha hb hg hp)
    go_ret
    exact ⟨v', rfl, by simpa using ha, hb⟩

set_option maxHeartbeats 400000 in
theorem ClonePairs_ (w : World) (M M' : Nat → Prop) (v : Value) (xs : List DPair) (h : (Ty.slice tPair).rep w M [v] xs) (hM : ∀ b, b < w.heap.size → M' b → M b) :
    Calls Try.prog 100 #[v] w fun e w' => ∃ v', e = .returned v' ∧ Own tPair 95 w' M' w.heap.size v' xs ∧ Step w w' := by
  obtain ⟨a, c, rfl, hc, hm, hl⟩ := Ty.slice_val h
  have H := Lib.hid h
  have HM := Lib.hid hM
  clear hM
  have hnil := Lib.run_eql_slice_nil (P := Try.prog) w 59 95 a xs.length c 0 0 Try.underlying59
  rcases a with _ | a
  · have h0 : xs = [] := Ty.slice_none h
    subst h0
    simp only [List.length_nil] at hnil ⊢
    clear hc hl
    clear h
    go_enter Try.func100, Try.ntmps100
    go_wp2
    go_ret
    exact ⟨_, rfl, Own.nil, Step.refl _⟩
  · clear h
    go_enter Try.func100, Try.ntmps100
    go_wp2_with (at_builtin; refine wpList_append_acc (xs := []) (ys := xs) rfl (.tmp 5) (.tmp 6) rfl stPairs ((Step.refl w).alloc _) (M := M') (Own.lit rfl (by simp) (Nat.le_refl _) rfl (by simp)) (Src.later H.out (by (repeat (first | exact Step.refl _ | refine Step.alloc ?_ _ | refine Step.drew ?_ | refine Step.drewN ?_ _ | refine Step.setCell ?_ (by first | exact Nat.le_refl _ | assumption | omega | (simp; done) | (simp; omega)) _ | assumption | refine Step.trans ?_ (by assumption : Step _ _)))) (fun b hb h => HM.out b hb (h.resolve_right (old_ne hb)))) (by simpa using hl) rfl rfl ?_; intro v' w' ha hb hg hp)
    go_ret
    exact ⟨v', rfl, by simpa using ha, hb⟩

set_option maxHeartbeats 400000 in
theorem CloneWrites_ (w : World) (M M' : Nat → Prop) (v : Value) (xs : List DWrite) (h : (Ty.slice tWrite).rep w M [v] xs) (hM : ∀ b, b < w.heap.size → M' b → M b) :
    Calls Try.prog 101 #[v] w fun e w' => ∃ v', e = .returned v' ∧ Own tWrite 74 w' M' w.heap.size v' xs ∧ Step w w' := by
  obtain ⟨a, c, rfl, hc, hm, hl⟩ := Ty.slice_val h
  have H := Lib.hid h
  have HM := Lib.hid hM
  clear hM
  have hnil := Lib.run_eql_slice_nil (P := Try.prog) w 39 74 a xs.length c 0 0 Try.underlying39
  rcases a with _ | a
  · have h0 : xs = [] := Ty.slice_none h
    subst h0
    simp only [List.length_nil] at hnil ⊢
    clear hc hl
    clear h
    go_enter Try.func101, Try.ntmps101
    go_wp2
    go_ret
    exact ⟨_, rfl, Own.nil, Step.refl _⟩
  · clear h
    go_enter Try.func101, Try.ntmps101
    go_wp2_with (at_builtin; refine wpList_append_acc (xs := []) (ys := xs) rfl (.tmp 5) (.tmp 6) rfl stWrites ((Step.refl w).alloc _) (M := M') (Own.lit rfl (by simp) (Nat.le_refl _) rfl (by simp)) (Src.later H.out (by (repeat (first | exact Step.refl _ | refine Step.alloc ?_ _ | refine Step.drew ?_ | refine Step.drewN ?_ _ | refine Step.setCell ?_ (by first | exact Nat.le_refl _ | assumption | omega | (simp; done) | (simp; omega)) _ | assumption | refine Step.trans ?_ (by assumption : Step _ _)))) (fun b hb h => HM.out b hb (h.resolve_right (old_ne hb)))) (by simpa using hl) rfl rfl ?_; intro v' w' ha hb hg hp)
    go_ret
    exact ⟨v', rfl, by simpa using ha, hb⟩

set_option maxHeartbeats 400000 in
theorem Clone_ (w : World) (M : Nat → Prop) (v : Value) (xs : List UInt8) (h : Ty.bytes.rep w M [v] xs) :
    Calls Try.prog 59 #[v] w fun e w' => ∃ v', e = .returned v' ∧ Own Ty.byte 5 w' (· < w.heap.size) w.heap.size v' xs ∧ Step w w' := by
  obtain ⟨a, c, rfl, hc, hm, hl⟩ := Ty.slice_val h
  have H := Lib.hid h
  have hnil := Lib.run_eql_slice_nil (P := Try.prog) w 42 5 a xs.length c 0 0 Try.underlying42
  rcases a with _ | a
  · have h0 : xs = [] := Ty.slice_none h
    subst h0
    simp only [List.length_nil] at hnil ⊢
    clear hc hl
    clear h
    go_enter Try.func59, Try.ntmps59
    go_wp2
    go_ret
    exact ⟨_, rfl, Own.nil, Step.refl _⟩
  · clear h
    go_enter Try.func59, Try.ntmps59
    go_wp2_with (at_builtin; refine wpList_append_acc (xs := []) (ys := xs) rfl (.tmp 5) (.tmp 6) rfl stBytes ((Step.refl w).alloc _) (M := (· < w.heap.size)) (Own.lit rfl (by simp) (Nat.le_refl _) rfl (by simp)) (Src.flat Ty.flat_byte (Ty.kept _ H.out (Kept.alloc _ _))) (by simpa using hl) rfl rfl ?_; intro v' w' ha hb hg hp)
    go_ret
    exact ⟨v', rfl, by simpa using ha, hb⟩
end Go.Proofs.Ythflkfgiclcdiaa
