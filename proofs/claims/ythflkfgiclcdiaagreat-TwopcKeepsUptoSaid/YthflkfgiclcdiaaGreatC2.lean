/-
  A map's keys, sorted (slices.Sorted of maps.Keys at int keys).
-/
import Derived.Test.YthflkfgiclcdiaaGreatC1
import Derived.Test.YthflkfgiclcdiaaGreatIter
namespace Go.Proofs.YthflkfgiclcdiaaGreat
open Go.RowKit Go.Gr Go.Maps Go.Sort Go.Shelf
set_option linter.unusedSimpArgs false
/-- slices.Sort's two contracts, at the fence that asks nothing. -/
theorem sortsA (m : Nat) : AnyZI.SortsIn Tryz.prog Tryz.sortedA_ren Fence.wide m :=
  ⟨fun blk off cap ss W hH hblk hsz => callsIn_wide.2 (AnyM.slices_Sort_int Tryz.sortA blk off cap ss W hH hblk hsz),
   fun p cap W => callsIn_wide.2 (AnyM.slices_Sort_int_none Tryz.sortA p cap W)⟩
theorem mkeys_ (mb : Option Nat) (w : World) : Calls Tryz.prog 53 #[.map mb] w fun e w' => e = .returned (.func (.func 97) #[] #[.pointer (some ⟨w.heap.size, 0, none⟩)]) ∧ w' = w.alloc (.cells #[.map mb] 123) :=
  (callsIn_wide (n := 5)).1 (AnyZI.keys_in Tryz.keysA Fence.wide 5 trivial rfl mb w)
theorem grp_one {cs : List Value} {i : Nat} (h : i < cs.length) : grp cs 1 i = [cs[i]] := by
  unfold grp
  rw [Nat.mul_one, List.drop_eq_getElem_cons h]
  rfl
theorem own_ints {w : World} {M : Nat → Prop} {B : Nat} {e : TypeId} {v : Value} {xs : List Int} (h : w.ownsRow B e 1 v xs.length (xs.map encZ)) (hl : xs.length ≤ lim) (hx : ∀ x ∈ xs, I64 x) : Own Ty.int e w M B v xs := by
  refine ⟨hl, _, h, fun i hi => ?_⟩
  show grp (xs.map encZ) 1 i = [.int .i64 xs[i]] ∧ _
  rw [grp_one (by simpa using hi)]
  exact ⟨by simp [encZ], hx _ (List.getElem_mem hi)⟩
set_option maxRecDepth 100000 in
theorem sortedKeys_ {α : Type} {E : Ty α} {M : Nat → Prop} {w : World} {b : Nat} {xs : List (Int × α)} (h : MapT Tryz.prog 3 E w M b xs) (hl : xs.length ≤ 1048576) (hx : ∀ p ∈ xs, I64 p.1) :
    Calls Tryz.prog 52 #[.func (.func 97) #[] #[.pointer (some ⟨w.heap.size, 0, none⟩)]] (w.alloc (.cells #[.map (some b)] 123)) fun e w' => ∃ v, e = .returned v ∧ Own Ty.int 3 w' (fun _ => False) w.heap.size v (xs.map (·.1)) ∧ Step w w' := by
  obtain ⟨n, D, hown, hsz, hkeys⟩ := h.keys
  refine (callsIn_wide (n := 5)).1 ?_
  have hbl := hown.lt
  have hseq : SeqGives Fence.wide 2 Tryz.prog 97 #[.pointer (some ⟨w.heap.size, 0, none⟩)] encZ (fun ss => ss.Perm (intKeys D)) (Maps.size D) (w.alloc (.cells #[.map (some b)] 123)) :=
    AnyZI.keys_gives (ρ := Tryz.keysA_ren) { Tryz.keysA with } Fence.wide _ trivial rfl (by omega) w.heap.size b n D _ (by simp) (by simp) (by
      obtain ⟨es, clock, hb, Ft, hs, hD⟩ := hown
      exact ⟨es, clock, (Below.heap_alloc _ _ b hbl).trans hb, Ft, hs, hD⟩)
  have cS := AnyZI.sorted_in Tryz.sortedA Fence.wide 5 trivial trivial trivial trivial rfl (by omega) (sortsA _) (enters_of Tryz.func96 (by kernel_rfl) rfl) 97 #[.pointer (some ⟨w.heap.size, 0, none⟩)] trivial (enters_of Tryz.func97 (by kernel_rfl) rfl) _ (Maps.size D) (by rw [hsz]; unfold maxLen; omega) (by rw [hsz]; omega) _ hseq
  refine cS.mono ?_
  rintro e w' ⟨v, ss, rfl, hS, hrow, hnil, hb⟩
  have hss := hkeys ss hS
  rw [hss] at hrow
  have hln : ss.length = (xs.map (·.1)).length := by rw [← hss, List.length_mergeSort]
  rw [hln] at hrow
  refine ⟨v, rfl, own_ints (ownsRow_base_a hrow (by simp)) (by simp [lim]; omega) (fun x hx' => ?_), Step.of (((Below.refl _ w).alloc (Nat.le_refl _) _).trans (hb.mono (by simp)))⟩
  obtain ⟨p, hp, rfl⟩ := List.mem_map.1 hx'
  exact hx p hp
set_option maxRecDepth 100000 in
theorem sortedKeys_nil (w : World) :
    Calls Tryz.prog 52 #[.func (.func 97) #[] #[.pointer (some ⟨w.heap.size, 0, none⟩)]] (w.alloc (.cells #[.map none] 123)) fun e w' => e = .returned (.slice none 0 0) ∧ Step w w' := by
  refine (callsIn_wide (n := 5)).1 ?_
  have hseq : SeqGives Fence.wide 2 Tryz.prog 97 #[.pointer (some ⟨w.heap.size, 0, none⟩)] encZ (fun ss : List Int => ss = []) 0 (w.alloc (.cells #[.map none] 123)) :=
    AnyZI.keys_gives_nil (ρ := Tryz.keysA_ren) { Tryz.keysA with } Fence.wide _ trivial rfl w.heap.size _ (by simp) (by simp)
  have cS := AnyZI.sorted_in Tryz.sortedA Fence.wide 5 trivial trivial trivial trivial rfl (by omega) (sortsA _) (enters_of Tryz.func96 (by kernel_rfl) rfl) 97 #[.pointer (some ⟨w.heap.size, 0, none⟩)] trivial (enters_of Tryz.func97 (by kernel_rfl) rfl) _ 0 (Nat.zero_le _) (by omega) _ hseq
  refine cS.mono ?_
  rintro e w' ⟨v, ss, rfl, rfl, hrow, hnil, hb⟩
  exact ⟨by rw [hnil.2 rfl], Step.of (((Below.refl _ w).alloc (Nat.le_refl _) _).trans (hb.mono (by simp)))⟩
/-- The keys of a map that may be nil. -/
theorem sortedKeysV_ {α : Type} {E : Ty α} {M : Nat → Prop} {w : World} {v : Value} {o : Option (List (Int × α))} (h : MapV E w M v o) :
    Calls Tryz.prog 52 #[.func (.func 97) #[] #[.pointer (some ⟨w.heap.size, 0, none⟩)]] (w.alloc (.cells #[v] 123)) fun e w' => ∃ v, e = .returned v ∧ Own Ty.int 3 w' (fun _ => False) w.heap.size v ((o.getD []).map (·.1)) ∧ Step w w' := by
  rcases o with _ | l
  · obtain rfl : v = .map none := h
    refine (sortedKeys_nil w).mono ?_
    rintro e w' ⟨rfl, hS⟩
    exact ⟨_, rfl, Own.nil, hS⟩
  · obtain ⟨b, rfl, hm, _, hl, hx⟩ := h
    exact sortedKeys_ hm hl hx
end Go.Proofs.YthflkfgiclcdiaaGreat
