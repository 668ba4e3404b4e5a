/-
  A map's keys, sorted (slices.Sorted of maps.Keys at string keys).
-/
import Derived.Test.YthflkfgiclcdiaaZP9
import Derived.Test.YthflkfgiclcdiaaZIterS
set_option linter.unusedVariables false
set_option linter.unusedSimpArgs false
namespace Go.Proofs.Ythflkfgiclcdiaa
open Go.RowKit Go.Gr Go.Maps Go.Sort Go.Shelf
set_option linter.unusedSimpArgs false
/-- A string, as its bytes. -/
def tStr : Ty (List UInt8) where
  n := 1
  rep := fun _ _ cs x => cs = [encStr x] ∧ x.length ≤ maxLen
  len := fun h => by rw [h.1]; rfl
  one := fun h u hu => by rw [h.1] at hu; simp at hu; subst hu; rfl
  keep := fun h _ => h
/-- slices.Sort's two contracts, at the fence that asks nothing. -/
theorem sortsS (m : Nat) : AnyZ.SortsIn Try.prog Try.sortedS_ren Fence.wide m :=
  ⟨fun blk off cap ss W hH hblk hsz => callsIn_wide.2 (AnyM.slices_Sort_string Try.sortS blk off cap ss W hH hblk hsz),
   fun p cap W => callsIn_wide.2 (AnyM.slices_Sort_string_none Try.sortS p cap W)⟩
theorem sKeys_ (mb : Option Nat) (w : World) : Calls Try.prog 119 #[.map mb] w fun e w' => e = .returned (.func (.func 144) #[] #[.pointer (some ⟨w.heap.size, 0, none⟩)]) ∧ w' = w.alloc (.cells #[.map mb] 195) :=
  (callsIn_wide (n := 5)).1 (AnyZ.keys_in Try.keysS Fence.wide 5 trivial rfl mb w)
theorem grp_one1 {cs : List Value} {i : Nat} (h : i < cs.length) : grp cs 1 i = [cs[i]] := by
  unfold grp
  rw [Nat.mul_one, List.drop_eq_getElem_cons h]
  rfl
theorem own_strs {w : World} {M : Nat → Prop} {B : Nat} {e : TypeId} {v : Value} {xs : List (List UInt8)} (h : w.ownsRow B e 1 v xs.length (xs.map encStr)) (hl : xs.length ≤ lim) (hx : ∀ x ∈ xs, x.length ≤ maxLen) : Own tStr e w M B v xs := by
  refine ⟨hl, _, h, fun i hi => ?_⟩
  show grp (xs.map encStr) 1 i = [encStr xs[i]] ∧ _
  rw [grp_one1 (by simpa using hi)]
  exact ⟨by simp, hx _ (List.getElem_mem hi)⟩
set_option maxRecDepth 100000 in
theorem sortedKeysS_ {α : Type} {key : α → List UInt8} {R : World → (Nat → Prop) → Value → α → Prop} {M : Nat → Prop} {w : World} {b : Nat} {xs : List α} (h : MapR Try.prog 9 key R w M b xs) (hl : xs.length ≤ 1048576) :
    Calls Try.prog 118 #[.func (.func 144) #[] #[.pointer (some ⟨w.heap.size, 0, none⟩)]] (w.alloc (.cells #[.map (some b)] 195)) fun e w' => ∃ v, e = .returned v ∧ Own tStr 9 w' (fun _ => False) w.heap.size v (xs.map key) ∧ Step w w' := by
  obtain ⟨D, hown, hsz, hkeys, _, _⟩ := h.datum
  have hle := strKeys_le hown Try.underlying9
  refine (callsIn_wide (n := 5)).1 ?_
  have hbl := hown.lt
  have hseq : SeqGives Fence.wide 2 Try.prog 144 #[.pointer (some ⟨w.heap.size, 0, none⟩)] encStr (fun ss => ss.Perm (strKeys D)) (Maps.size D) (w.alloc (.cells #[.map (some b)] 195)) :=
    AnyZ.keys_gives (ρ := Try.keysS_ren) { Try.keysS with } Fence.wide _ trivial rfl (by omega) w.heap.size b xs.length D _ (by simp) (by simp) (by
      obtain ⟨es, clock, hb, Ft, hs, hD⟩ := hown
      exact ⟨es, clock, (Below.heap_alloc _ _ b hbl).trans hb, Ft, hs, hD⟩)
  have cS := AnyZ.sorted_in Try.sortedS Fence.wide 5 trivial trivial trivial trivial rfl (by omega) (sortsS _) (enters_of Try.func143 (by kernel_rfl) rfl) 144 #[.pointer (some ⟨w.heap.size, 0, none⟩)] trivial (enters_of Try.func144 (by kernel_rfl) rfl) _ (Maps.size D) (by rw [hsz]; unfold maxLen; omega) (by rw [hsz]; omega) _ hseq
  refine cS.mono ?_
  rintro e w' ⟨v, ss, rfl, hS, hrow, hnil, hb⟩
  have hss := hkeys ss hS
  rw [hss] at hrow
  have hln : ss.length = (xs.map key).length := by rw [← hss, List.length_mergeSort]
  rw [hln] at hrow
  refine ⟨v, rfl, own_strs (ownsRow_base_a hrow (by simp)) (by simp [lim]; omega) (fun x hx' => ?_), Step.of (((Below.refl _ w).alloc (Nat.le_refl _) _).trans (hb.mono (by simp)))⟩
  rw [← hss] at hx'
  exact hle x (hS.mem_iff.1 ((List.mergeSort_perm ss leB).mem_iff.1 hx'))
end Go.Proofs.Ythflkfgiclcdiaa
