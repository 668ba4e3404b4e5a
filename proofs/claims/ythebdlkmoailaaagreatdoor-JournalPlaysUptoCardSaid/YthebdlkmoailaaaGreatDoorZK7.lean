/-
  Walks: the names of a drive's files (List), where all begin so.
-/
import Derived.Test.YthebdlkmoailaaaGreatDoorZP6
import Derived.Test.YthebdlkmoailaaaGreatDoorZP7
import Derived.Test.YthebdlkmoailaaaGreatDoorZKeysF
import Derived.Shelf.Abstract
set_option linter.unusedVariables false
set_option linter.unusedSimpArgs false
namespace Go.Proofs.YthebdlkmoailaaaGreatDoor
open Go.RowKit Go.Gr Go.Maps Go.Sort Go.Shelf
open Go.Proofs (encStr)
set_option linter.unusedSimpArgs false
set_option linter.unusedVariables false
/-- A string, as its bytes. -/
def tNam : Ty (List UInt8) where
  n := 1
  rep := fun _ _ cs x => cs = [encStr x] ∧ x.length ≤ maxLen
  len := fun h => by rw [h.1]; rfl
  one := fun h u hu => by rw [h.1] at hu; simp at hu; subst hu; rfl
  keep := fun h _ => h
theorem sortsF (m : Nat) : AnyZ.SortsIn Tryz.prog Tryz.sortedS_ren Fence.wide m :=
  ⟨fun blk off cap ss W hH hblk hsz => callsIn_wide.2 (AnyM.slices_Sort_string Tryz.sortS blk off cap ss W hH hblk hsz),
   fun p cap W => callsIn_wide.2 (AnyM.slices_Sort_string_none Tryz.sortS p cap W)⟩
theorem keysF_ (mb : Option Nat) (w : World) : Calls Tryz.prog 70 #[.map mb] w fun e w' => e = .returned (.func (.func 88) #[] #[.pointer (some ⟨w.heap.size, 0, none⟩)]) ∧ w' = w.alloc (.cells #[.map mb] 83) :=
  (callsIn_wide (n := 5)).1 (AnyZ.keys_in Tryz.keysF Fence.wide 5 trivial rfl mb w)
theorem grp_oneF {cs : List Value} {i : Nat} (h : i < cs.length) : grp cs 1 i = [cs[i]] := by
  unfold grp
  rw [Nat.mul_one, List.drop_eq_getElem_cons h]
  rfl
theorem own_nams {w : World} {M : Nat → Prop} {B : Nat} {e : TypeId} {v : Value} {xs : List (List UInt8)} (h : w.ownsRow B e 1 v xs.length (xs.map encStr)) (hl : xs.length ≤ lim) (hx : ∀ x ∈ xs, x.length ≤ maxLen) : Gr.Own tNam e w M B v xs := by
  refine ⟨hl, _, h, fun i hi => ?_⟩
  show grp (xs.map encStr) 1 i = [encStr xs[i]] ∧ _
  rw [grp_oneF (by simpa using hi)]
  exact ⟨by simp, hx _ (List.getElem_mem hi)⟩
set_option maxRecDepth 100000 in
theorem sortedKeysF_ {w : World} {M : Nat → Prop} {v : Option Nat} {xs : List DPair} (h : FilesAt w M (.map v) xs) (hl : xs.length ≤ 1048576) :
    Calls Tryz.prog 69 #[.func (.func 88) #[] #[.pointer (some ⟨w.heap.size, 0, none⟩)]] (w.alloc (.cells #[.map v] 83)) fun e w' => ∃ v, e = .returned v ∧ Gr.Own tNam 9 w' (fun _ => False) w.heap.size v (xs.map DPair.key) ∧ Step w w' := by
  rcases h with ⟨h1, h2⟩ | ⟨b, h1, _, h⟩
  · obtain rfl : v = none := by injection h1
    subst h2
    refine (callsIn_wide (n := 5)).1 ?_
    have hseq : SeqGives Fence.wide 2 Tryz.prog 88 #[.pointer (some ⟨w.heap.size, 0, none⟩)] encStr (fun ss : List (List UInt8) => ss = []) 0 (w.alloc (.cells #[.map none] 83)) :=
      AnyZ.keys_gives_nil (ρ := Tryz.keysF_ren) { Tryz.keysF with } Fence.wide _ trivial rfl w.heap.size _ (by simp) (by simp)
    have cS := AnyZ.sorted_in Tryz.sortedS Fence.wide 5 trivial trivial trivial trivial rfl (by omega) (sortsF _) (enters_of Tryz.func87 (by kernel_rfl) rfl) 88 #[.pointer (some ⟨w.heap.size, 0, none⟩)] trivial (enters_of Tryz.func88 (by kernel_rfl) rfl) _ 0 (Nat.zero_le _) (by omega) _ hseq
    refine cS.mono ?_
    rintro e w' ⟨v, ss, rfl, rfl, hrow, hnil, hb⟩
    obtain rfl : v = .slice none 0 0 := hnil.2 rfl
    exact ⟨_, rfl, Gr.Own.nil, Step.of (((Below.refl _ w).alloc (Nat.le_refl _) _).trans (hb.mono (by simp)))⟩
  · obtain rfl : v = some b := by injection h1
    obtain ⟨D, hown, hsz, hkeys, _, _⟩ := h.datum
    have hle := strKeys_le hown Tryz.underlying9
    refine (callsIn_wide (n := 5)).1 ?_
    have hbl := hown.lt
    have hseq : SeqGives Fence.wide 2 Tryz.prog 88 #[.pointer (some ⟨w.heap.size, 0, none⟩)] encStr (fun ss => ss.Perm (strKeys D)) (Maps.size D) (w.alloc (.cells #[.map (some b)] 83)) :=
      AnyZ.keys_gives (ρ := Tryz.keysF_ren) { Tryz.keysF with } Fence.wide _ trivial rfl (by omega) w.heap.size b xs.length D _ (by simp) (by simp) (by
        obtain ⟨es, clock, hb, Ft, hs, hD⟩ := hown
        exact ⟨es, clock, (Below.heap_alloc _ _ b hbl).trans hb, Ft, hs, hD⟩)
    have cS := AnyZ.sorted_in Tryz.sortedS Fence.wide 5 trivial trivial trivial trivial rfl (by omega) (sortsF _) (enters_of Tryz.func87 (by kernel_rfl) rfl) 88 #[.pointer (some ⟨w.heap.size, 0, none⟩)] trivial (enters_of Tryz.func88 (by kernel_rfl) rfl) _ (Maps.size D) (by rw [hsz]; unfold maxLen; omega) (by rw [hsz]; omega) _ hseq
    refine cS.mono ?_
    rintro e w' ⟨v, ss, rfl, hS, hrow, hnil, hb⟩
    have hss := hkeys ss hS
    rw [hss] at hrow
    have hln : ss.length = (xs.map DPair.key).length := by rw [← hss, List.length_mergeSort]
    rw [hln] at hrow
    refine ⟨v, rfl, own_nams (ownsRow_base_a hrow (by simp)) (by simp [lim]; omega) (fun x hx' => ?_), Step.of (((Below.refl _ w).alloc (Nat.le_refl _) _).trans (hb.mono (by simp)))⟩
    rw [← hss] at hx'
    exact hle x (hS.mem_iff.1 ((List.mergeSort_perm ss leB).mem_iff.1 hx'))
theorem sortedKeysAt_ {w : World} {M : Nat → Prop} {v : Option Nat} {xs : List DPair} {k : Nat} (hk : k = w.heap.size) (h : FilesAt w M (.map v) xs) (hl : xs.length ≤ 1048576) :
    Calls Tryz.prog 69 #[.func (.func 88) #[] #[.pointer (some ⟨k, 0, none⟩)]] (w.alloc (.cells #[.map v] 83)) fun e w' => ∃ v, e = .returned v ∧ Gr.Own tNam 9 w' (fun _ => False) w.heap.size v (xs.map DPair.key) ∧ Step w w' := by
  subst hk
  exact sortedKeysF_ h hl
theorem extract_pre (p r : List UInt8) : (⟨(p ++ r).toArray⟩ : ByteArray).extract 0 p.length = ⟨p.toArray⟩ := by
  apply ByteArray.ext
  simp
set_option maxRecDepth 100000 in
theorem slPrefix_ {w : World} {p r : List UInt8} (hl : p.length + r.length ≤ 68719476736) : Calls Tryz.prog 90 #[encStr (p ++ r), encStr p] w fun e w' => e = .returned (.bool true) ∧ w' = w := by
  have he := extract_pre p r
  have h1 : (⟨(p ++ r).toArray⟩ : ByteArray).size = p.length + r.length := by simp [ByteArray.size]
  have h2 : (⟨p.toArray⟩ : ByteArray).size = p.length := by simp [ByteArray.size]
  have hb : ((⟨p.toArray⟩ : ByteArray) == ⟨p.toArray⟩) = true := by rw [beq_strsP]; simp
  show Calls Tryz.prog 90 #[.string ⟨(p ++ r).toArray⟩, .string ⟨p.toArray⟩] w _
  obtain ⟨N, hN⟩ : ∃ N, N = p.length + r.length := ⟨_, rfl⟩
  rw [← hN] at h1
  have hnN : p.length ≤ N := by omega
  have hN2 : N ≤ 68719476736 := by omega
  generalize (⟨(p ++ r).toArray⟩ : ByteArray) = S at *
  generalize (⟨p.toArray⟩ : ByteArray) = Pp at *
  clear hN hl
  generalize p.length = n at *
  have hd : decide ((N : Int) < (n : Int)) = false := decide_eq_false (by omega)
  go_enter Tryz.func90, Tryz.ntmps90
  go_wp2
  go_ret
  exact ⟨rfl, rfl⟩
theorem sPrefix_ {w : World} {p r : List UInt8} (hl : p.length + r.length ≤ 68719476736) : Calls Tryz.prog 73 #[encStr (p ++ r), encStr p] w fun e w' => e = .returned (.bool true) ∧ w' = w := by
  have HS := Lib.hid (slPrefix_ (w := w) hl)
  generalize encStr (p ++ r) = a at *
  generalize encStr p = b at *
  go_enter Tryz.func73, Tryz.ntmps73
  go_wp2_with (go_at_call 90; refine HS.out.mono ?_; rintro e w1 ⟨rfl, hw1⟩; subst w1)
  go_ret
  exact ⟨rfl, rfl⟩
theorem dList1_ {w : World} {p r : List UInt8} {pb : Nat} (hp : w.cell? ⟨pb, 0, none⟩ = some (encStr p)) (hl : p.length + r.length ≤ 68719476736) : Calls Tryz.prog 72 #[encStr (p ++ r), .pointer (some ⟨pb, 0, none⟩)] w fun e w' => e = .returned (.bool false) ∧ w' = w := by
  have HS := Lib.hid (sPrefix_ (w := w) hl)
  generalize encStr (p ++ r) = a at *
  generalize encStr p = b at *
  go_enter Tryz.func72, Tryz.ntmps72
  go_wp2_with (go_at_call 73; refine HS.out.mono ?_; rintro e w1 ⟨rfl, hw1⟩; subst w1)
  go_ret
  exact ⟨rfl, rfl⟩
set_option maxRecDepth 100000 in
set_option maxHeartbeats 1000000 in
theorem ixF_ {w : World} {M : Nat → Prop} {v : Value} {xs : List (List UInt8)} {p : List UInt8} {pb : Nat} (h : (Ty.slice tNam).rep w M [v] xs) (hp : w.cell? ⟨pb, 0, none⟩ = some (encStr p)) (hx : ∀ x ∈ xs, x.length ≤ 1000 ∧ ∃ r, x = p ++ r) :
    Calls Tryz.prog 89 #[v, .func (.func 72) #[] #[.pointer (some ⟨pb, 0, none⟩)]] w fun e w' => e = .returned (.int .i64 (-1)) ∧ w' = w := by
  obtain ⟨a, c, rfl, hc, hm, hl⟩ := Ty.slice_val h
  have H := Lib.hid h
  have HP := Lib.hid hp
  have HX := Lib.hid hx
  rw [lim_eq] at hl
  clear h hc hm hp hx
  have eg : ∀ args w, (callFunc 72 args).run Tryz.prog w = .ok (.enter 72 args) w := enters_of Tryz.func72 (by kernel_rfl) rfl
  go_enter Tryz.func89, Tryz.ntmps89
  go_wp2
  go_loopw [8] (fun iv w' => ∃ k : Nat, iv = .int .i64 k ∧ k ≤ xs.length ∧ w' = w) (fun iv _ => xs.length - (Go.RowKit.intOf iv).toNat)
  case atStart => exact ⟨0, rfl, by omega, rfl⟩
  case round =>
    obtain ⟨k, rfl, hk, rfl⟩ := hrel
    by_cases hlt : k < xs.length
    · have hd : decide ((k : Int) < (xs.length : Int)) = true := decide_eq_true (by omega)
      obtain ⟨b1, o1, u1, rfl, hb1, _, hu1, hc1⟩ := Ty.slice_at1 rfl H.out hlt
      obtain ⟨hu2, _⟩ := hu1
      obtain rfl : u1 = encStr xs[k] := by simpa using hu2
      obtain ⟨hxl, r, hr⟩ := HX.out xs[k] (List.getElem_mem hlt)
      rw [hr] at hc1 hxl
      rw [List.length_append] at hxl
      have HD := Lib.hid (dList1_ (r := r) HP.out (by omega))
      clear hu2 hr hxl
      generalize encStr (p ++ r) = xa at *
      go_wp2_with (go_at_call 72; refine HD.out.mono ?_; rintro e w1 ⟨rfl, hw1⟩; subst w1)
      go_roundw
      case rel => exact ⟨k + 1, by go_num, by omega, trivial⟩
      case measure => simp [Go.RowKit.intOf]; omega
    · have hd : decide ((k : Int) < (xs.length : Int)) = false := decide_eq_false (by omega)
      go_wp2
      go_ret
      exact ⟨rfl, rfl⟩
theorem delF_ {w : World} {M : Nat → Prop} {v : Value} {xs : List (List UInt8)} {p : List UInt8} {pb : Nat} (h : (Ty.slice tNam).rep w M [v] xs) (hp : w.cell? ⟨pb, 0, none⟩ = some (encStr p)) (hx : ∀ x ∈ xs, x.length ≤ 1000 ∧ ∃ r, x = p ++ r) :
    Calls Tryz.prog 71 #[v, .func (.func 72) #[] #[.pointer (some ⟨pb, 0, none⟩)]] w fun e w' => e = .returned v ∧ w' = w := by
  obtain ⟨a, c, rfl, hc, hm, hl⟩ := Ty.slice_val h
  have HI := Lib.hid (ixF_ h hp hx)
  clear h hp hx hc hm hl
  generalize xs.length = n at *
  go_enter Tryz.func71, Tryz.ntmps71
  go_wp2_with (go_at_call 89; refine HI.out.mono ?_; rintro e w1 ⟨rfl, hw1⟩; subst w1)
  go_ret
  exact ⟨rfl, rfl⟩
/-- The names, if the drive lives. -/
def listB (D : DDr) : List (List UInt8) := if D.dead then [] else D.seen.map DPair.key
set_option maxRecDepth 100000 in
set_option maxHeartbeats 2000000 in
theorem dList_ {w : World} {M : Nat → Prop} {b : Nat} {sf sn : Option Nat} {D : DDr} {p : List UInt8} (h : DriveAt w M b sf sn D) (hx : ∀ x ∈ D.seen, x.key.length ≤ 1000 ∧ ∃ r, x.key = p ++ r) :
    Calls Tryz.prog 37 #[.pointer (some ⟨b, 0, none⟩), encStr p] w fun e w' => ∃ v, e = .returned v ∧ Gr.Own tNam 9 w' (fun _ => False) w.heap.size v (listB D) ∧ Step w w' := by
  obtain ⟨queue, hr, _⟩ := h.row
  have c1 : w.cell? ⟨b, 1, none⟩ = some (.map sn) := hr.cell 1
  have c6 : w.cell? ⟨b, 6, none⟩ = some (.bool D.dead) := hr.cell 6
  have hblt := hr.lt
  have hsn := h.seen
  have hfew := h.wf.seenFew
  unfold listB
  clear hr
  cases hdd : D.dead with
  | true =>
    rw [hdd] at c6
    rw [if_pos rfl]
    go_enter Tryz.func37, Tryz.ntmps37
    go_wp2
    go_ret
    exact ⟨_, rfl, Gr.Own.nil, by (repeat (first | exact Step.refl _ | refine Step.alloc ?_ _ | refine Step.drew ?_ | refine Step.drewN ?_ _ | refine Step.setCell ?_ (by first | exact Nat.le_refl _ | assumption | omega | (simp; done) | (simp; omega)) _ | assumption | refine Step.trans ?_ (by assumption : Step _ _)))⟩
  | false =>
    rw [hdd] at c6
    rw [if_neg (by simp)]
    have HX : Hid (∀ x ∈ D.seen.map DPair.key, x.length ≤ 1000 ∧ ∃ r, x = p ++ r) := Lib.hid (fun x hx' => by
      obtain ⟨y, hy, rfl⟩ := List.mem_map.1 hx'
      exact hx y hy)
    have HSN := Lib.hid hsn
    clear hx hsn h hdd
    go_enter Tryz.func37, Tryz.ntmps37
    go_wp2_with (first
      | (go_at_call 70; refine (keysF_ _ _).mono ?_; rintro e w1 ⟨rfl, rfl⟩)
      | (go_at_call 69; refine (sortedKeysAt_ (by simp) (HSN.out.step ((Step.refl _).alloc _)) (by omega)).mono ?_; rintro e w2 ⟨v2, rfl, hA2, hS2⟩; obtain ⟨a2, n2, c2, rfl, HN2⟩ := hA2.valN; have HS2 := Lib.hid hS2; have HA2 := Lib.hid hA2; have d3 : w2.cell? ⟨w.heap.size, 0, none⟩ = some (encStr p) := (hS2.cell (by first | assumption | omega | (simp; done) | (simp; omega)) 0).trans (by simp); clear hA2 hS2)
      | (go_at_call 71; refine (delF_ (M := fun _ => False) (Gr.Own.rep' HA2.out (fun _ _ h => h)) d3 HX.out).mono ?_; rintro e w3 ⟨rfl, hw3⟩; subst w3))
    go_ret
    refine ⟨_, rfl, Gr.Own.base HA2.out (by simp), ?_⟩
    have := HS2.out
    exact Step.trans stp this
end Go.Proofs.YthebdlkmoailaaaGreatDoor
