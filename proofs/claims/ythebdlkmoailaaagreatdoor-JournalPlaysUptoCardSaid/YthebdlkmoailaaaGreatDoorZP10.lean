/-
  Plain words: what a journal's whole file reads as.
  Plain words: names of a journal's files.
  Plain words: a journal's files, one joining on to the other.
  Plain words: an append keeps a journal's files in order.
  Plain words: how much of a drive's room is used; what an append asks for.
  Walk: short.
  Plain words: what short records come to.
-/
import Derived.Test.YthebdlkmoailaaaGreatDoorZP9
set_option linter.unusedVariables false
set_option linter.unusedSimpArgs false
namespace Go.Proofs.YthebdlkmoailaaaGreatDoor
open Go.RowKit Go.Gr Go.Maps
set_option linter.unusedSimpArgs false
set_option linter.unusedVariables false
/-- A file of records, from its first index on. -/
def fileB (n f : Nat) (rs : List (List UInt8)) : List UInt8 := headB n f ++ sealsB rs
theorem fileB_seals (n f : Nat) (rs : List (List UInt8)) : fileB n f rs = sealsB (numsB [n, f] :: rs) := rfl
theorem fileB_snoc (n f : Nat) (rs qs : List (List UInt8)) : fileB n f (rs ++ qs) = fileB n f rs ++ sealsB qs := by
  unfold fileB
  rw [sealsB_append, List.append_assoc]
theorem openO_none (a : List UInt8) : (openO (a ++ []) a.length).2.2 ≠ 0 := openO_short (r := []) (by simp) a (List.nil_prefix) (by rw [sealB_len]; simp)
theorem allO_file {n f : Nat} {rs : List (List UInt8)} (hn : n < 18446744073709551616) (hf : f < 18446744073709551616) (hr : ∀ r ∈ rs, r.length ≤ 1048576) : allO (fileB n f rs) 0 [] = (numsB [n, f] :: rs, (fileB n f rs).length) := by
  have h := allO_seals (numsB [n, f] :: rs) [] [] [] (fun r h => by
    rcases List.mem_cons.1 h with rfl | h
    · have := numsB2_len hn hf; omega
    · exact hr r h) (fun b _ => openO_none b)
  simpa [fileB_seals] using h
theorem headN_file {n f : Nat} (hn : n < 18446744073709551616) (hf : f < 18446744073709551616) : headN (numsB [n, f]) = (n, f, 0) := by
  have e : numsB [n, f] = numB n ++ numB f := by simp [numsB]
  have h1 : numF (numsB [n, f]) 0 0 = (n, (numB n).length, 0) := by
    have := numF_num hn [] (numB f)
    simpa [e] using this
  have h2 : numF (numsB [n, f]) (numB n).length 0 = (f, (numB n).length + (numB f).length, 0) := by
    have := numF_num hf (numB n) []
    simpa [e] using this
  unfold headN
  rw [h1]
  simp only [h2]
  simp [e]
/-- A whole file is read as such. -/
theorem fileJ_whole {n f : Nat} {rs : List (List UInt8)} (hn : n < 100) (hf : f + rs.length < 18446744073709551616) (hr : ∀ r ∈ rs, r.length ≤ 1048576) : fileJ n (fileB n f rs) = (⟨n, f, f + rs.length, (fileB n f rs).length⟩, true, true) := by
  unfold fileJ
  rw [allO_file (by omega) (by omega) hr]
  simp only [headN_file (show n < 18446744073709551616 by omega) (show f < 18446744073709551616 by omega)]
  simp
  omega
theorem recsF_whole {pre : List UInt8} {seen : List DPair} {F : DFile} {f : Nat} {rs : List (List UInt8)} (h : dataB seen (nameB pre F.serial) = fileB F.serial f rs) (hn : F.serial < 100) (hf : f < 18446744073709551616) (hr : ∀ r ∈ rs, r.length ≤ 1048576) : recsF pre seen F = rs := by
  unfold recsF
  rw [h, allO_file (by omega) hf hr]
  rfl
end Go.Proofs.YthebdlkmoailaaaGreatDoor

namespace Go.Proofs.YthebdlkmoailaaaGreatDoor
open Go.RowKit Go.Gr Go.Maps
set_option linter.unusedSimpArgs false
set_option linter.unusedVariables false
theorem decS_inj {a b : Nat} (ha : a < 100) (hb : b < 100) (h : decS a = decS b) : a = b := by
  have h1 := parse_dec a ha
  rw [h, parse_dec b hb] at h1
  injection h1 with h1
  exact h1.symm
theorem nameB_inj {pre : List UInt8} {a b : Nat} (ha : a < 100) (hb : b < 100) (h : nameB pre a = nameB pre b) : a = b := decS_inj ha hb (List.append_cancel_left h)
theorem upTo_nodup (s m : Nat) : ((List.range m).map (s + 1 + ·)).Nodup := by
  refine List.Pairwise.map _ (fun a b h => ?_) List.nodup_range
  omega
theorem upTo_sorted (s m : Nat) : ((List.range m).map (s + 1 + ·)).Pairwise (fun x y => x ≤ y) := by
  refine List.Pairwise.map _ (fun a b h => ?_) List.pairwise_lt_range
  omega
theorem sorted_eq : ∀ {xs ys : List Nat}, xs.Perm ys → xs.Pairwise (fun x y => x ≤ y) → ys.Pairwise (fun x y => x ≤ y) → xs = ys := by
  intro xs
  induction xs with
  | nil => intro ys h _ _; exact (List.nil_perm.1 h).symm
  | cons x xs ih =>
    intro ys h hx hy
    rcases ys with _ | ⟨y, ys⟩
    · exact absurd h.length_eq (by simp)
    · have h1 : x ∈ y :: ys := h.mem_iff.1 List.mem_cons_self
      have h2 : y ∈ x :: xs := h.mem_iff.2 List.mem_cons_self
      have e : x = y := by
        rcases List.mem_cons.1 h1 with h1 | h1
        · exact h1
        · rcases List.mem_cons.1 h2 with h2 | h2
          · exact h2.symm
          · exact Nat.le_antisymm ((List.pairwise_cons.1 hx).1 y h2) ((List.pairwise_cons.1 hy).1 x h1)
      subst e
      rw [ih (List.Perm.cons_inv h) (List.pairwise_cons.1 hx).2 (List.pairwise_cons.1 hy).2]
theorem sortN_sorted (xs : List Nat) : (sortN xs).Pairwise (fun x y => x ≤ y) := by
  have h := List.pairwise_mergeSort (le := fun x y : Nat => decide (x ≤ y)) (fun a b c h1 h2 => by simp at *; omega) (fun a b => by simp; omega) xs
  exact h.imp (fun h => by simpa using h)
theorem upTo_mem {s m x : Nat} : x ∈ (List.range m).map (s + 1 + ·) ↔ s < x ∧ x ≤ s + m := by
  rw [List.mem_map]
  constructor
  · rintro ⟨i, hi, rfl⟩
    rw [List.mem_range] at hi
    omega
  · intro h
    exact ⟨x - (s + 1), List.mem_range.2 (by omega), by omega⟩
/-- What names there are. -/
def NamesIn (pre : List UInt8) (seen : List DPair) (s m : Nat) : Prop := ∀ k, k ∈ seen.map DPair.key ↔ ∃ n, s < n ∧ n ≤ s + m ∧ k = nameB pre n
theorem names_list {pre : List UInt8} {P : Nat → Prop} : ∀ (ks : List (List UInt8)), (∀ k ∈ ks, ∃ n, P n ∧ k = nameB pre n) → ∃ ns : List Nat, ks = ns.map (nameB pre) ∧ ∀ n ∈ ns, P n
  | [], _ => ⟨[], rfl, by simp⟩
  | k :: ks, h => by
    obtain ⟨n, hn, rfl⟩ := h k List.mem_cons_self
    obtain ⟨ns, rfl, hns⟩ := names_list ks (fun x hx => h x (List.mem_cons_of_mem _ hx))
    exact ⟨n :: ns, rfl, fun x hx => by
      rcases List.mem_cons.1 hx with rfl | hx
      · exact hn
      · exact hns x hx⟩
theorem names_of {pre : List UInt8} {seen : List DPair} {s m : Nat} (hnd : (seen.map DPair.key).Nodup) (h : NamesIn pre seen s m) (hs : s + m < 100) : ∃ ns, JNames pre seen ns ∧ sortN ns = (List.range m).map (s + 1 + ·) := by
  obtain ⟨ns, he, hns⟩ := names_list (pre := pre) (P := fun n => s < n ∧ n ≤ s + m) (seen.map DPair.key) (fun k hk => by
    obtain ⟨n, h1, h2, h3⟩ := (h k).1 hk
    exact ⟨n, ⟨h1, h2⟩, h3⟩)
  refine ⟨ns, ⟨he, fun n hn => by have := hns n hn; omega⟩, ?_⟩
  have hnn : ns.Nodup := by
    rw [he] at hnd
    exact List.Pairwise.of_map (nameB pre) (fun a b h e => h (by rw [e])) hnd
  have hp : ns.Perm ((List.range m).map (s + 1 + ·)) := (List.perm_ext_iff_of_nodup hnn (upTo_nodup s m)).2 fun x => by
    rw [upTo_mem]
    constructor
    · exact hns x
    · intro hx
      have h1 : nameB pre x ∈ seen.map DPair.key := (h _).2 ⟨x, hx.1, hx.2, rfl⟩
      rw [he] at h1
      obtain ⟨y, hy, hye⟩ := List.mem_map.1 h1
      have := hns y hy
      rw [← nameB_inj (by omega) (by omega) hye]
      exact hy
  exact sorted_eq ((List.mergeSort_perm ns _).trans hp) (sortN_sorted ns) (upTo_sorted s m)
end Go.Proofs.YthebdlkmoailaaaGreatDoor

namespace Go.Proofs.YthebdlkmoailaaaGreatDoor
open Go.RowKit Go.Gr Go.Maps
set_option linter.unusedSimpArgs false
set_option linter.unusedVariables false
/-- One file: its serial is s + 1, its records rs begin at f. -/
structure One (pre : List UInt8) (seen : List DPair) (s f : Nat) (F : DFile) (rs : List (List UInt8)) : Prop where
  serial : F.serial = s + 1
  from_ : F.from_ = f
  to_ : F.to_ = f + rs.length
  size : F.size = ((fileB F.serial f rs).length : Int)
  there : thereB seen (nameB pre F.serial) = true
  data : dataB seen (nameB pre F.serial) = fileB F.serial f rs
  recs : ∀ r ∈ rs, r.length ≤ 1048576
def ChainJ (pre : List UInt8) (seen : List DPair) : Nat → Nat → List DFile → List (List (List UInt8)) → Prop
  | _, _, [], [] => True
  | s, f, F :: fs, rs :: rss => One pre seen s f F rs ∧ ChainJ pre seen (s + 1) (f + rs.length) fs rss
  | _, _, _, _ => False
theorem ChainJ.snoc {pre : List UInt8} {seen : List DPair} {F : DFile} {rs : List (List UInt8)} : ∀ {s f : Nat} {fs : List DFile} {rss : List (List (List UInt8))}, ChainJ pre seen s f (fs ++ [F]) (rss ++ [rs]) ↔ ChainJ pre seen s f fs rss ∧ One pre seen (s + fs.length) (f + rss.flatten.length) F rs
  | s, f, [], [] => by simp [ChainJ]
  | s, f, G :: fs, [] => by
    simp only [ChainJ, List.cons_append, List.nil_append, false_and, iff_false]
    rintro ⟨_, h⟩
    rcases fs with _ | ⟨H, fs⟩ <;> exact h
  | s, f, [], qs :: rss => by
    simp only [ChainJ, List.cons_append, List.nil_append, false_and, iff_false]
    rintro ⟨_, h⟩
    rcases rss with _ | ⟨H, rss⟩ <;> exact h
  | s, f, G :: fs, qs :: rss => by
    simp only [ChainJ, List.cons_append]
    rw [ChainJ.snoc (s := s + 1) (f := f + qs.length) (fs := fs) (rss := rss)]
    rw [show s + 1 + fs.length = s + (G :: fs).length by simp <;> omega, show f + qs.length + rss.flatten.length = f + (qs :: rss).flatten.length by simp <;> omega, and_assoc]
theorem ChainJ.len {pre : List UInt8} {seen : List DPair} : ∀ {s f : Nat} {fs : List DFile} {rss : List (List (List UInt8))}, ChainJ pre seen s f fs rss → rss.length = fs.length
  | _, _, [], [], _ => rfl
  | s, f, F :: fs, rs :: rss, h => by rw [List.length_cons, List.length_cons, ChainJ.len h.2]
theorem ChainJ.serials {pre : List UInt8} {seen : List DPair} : ∀ {s f : Nat} {fs : List DFile} {rss : List (List (List UInt8))}, ChainJ pre seen s f fs rss → fs.map (·.serial) = (List.range fs.length).map (s + 1 + ·)
  | _, _, [], [], _ => rfl
  | s, f, F :: fs, rs :: rss, h => by
    rw [List.map_cons, ChainJ.serials h.2, h.1.serial, List.length_cons, List.range_succ_eq_map, List.map_cons, List.map_map]
    congr 1
    refine List.map_congr_left fun x _ => ?_
    simp only [Function.comp]
    omega
/-- Every file is one of these. -/
theorem ChainJ.mem {pre : List UInt8} {seen : List DPair} {F : DFile} : ∀ {s f : Nat} {fs : List DFile} {rss : List (List (List UInt8))}, ChainJ pre seen s f fs rss → F ∈ fs → ∃ i g rs, i < fs.length ∧ g + rs.length ≤ f + rss.flatten.length ∧ rs ∈ rss ∧ One pre seen (s + i) g F rs
  | s, f, G :: fs, rs :: rss, h, hF => by
    rcases List.mem_cons.1 hF with rfl | hF
    · exact ⟨0, f, rs, by simp, by simp <;> omega, List.mem_cons_self, h.1⟩
    · obtain ⟨i, g, qs, h1, h2, h3, h4⟩ := ChainJ.mem h.2 hF
      refine ⟨i + 1, g, qs, by simpa using h1, by simp at h2 ⊢; omega, List.mem_cons_of_mem _ h3, ?_⟩
      rw [show s + (i + 1) = s + 1 + i by omega]
      exact h4
theorem ChainJ.joins {pre : List UInt8} {seen : List DPair} : ∀ {s f : Nat} {fs : List DFile} {rss : List (List (List UInt8))}, ChainJ pre seen s f fs rss → ∀ i (hi : i + 1 < fs.length), fs[i + 1].serial = fs[i].serial + 1 ∧ fs[i + 1].from_ = fs[i].to_
  | s, f, F :: G :: fs, rs :: qs :: rss, h, 0, _ => by
    have h1 := h.1
    have h2 := h.2.1
    exact ⟨by simp [h1.serial, h2.serial], by simp [h2.from_, h1.to_]⟩
  | s, f, F :: fs, rs :: rss, h, i + 1, hi => by
    have := ChainJ.joins h.2 i (by simpa using hi)
    simpa using this
  | s, f, [F], rs :: rss, h, 0, hi => absurd hi (by simp)
  | s, f, F :: G :: fs, [rs], h, 0, hi => h.2.elim
/-- What a chain asks of sizes. -/
structure ChainRoom (s f : Nat) (fs : List DFile) (rss : List (List (List UInt8))) : Prop where
  few : s + fs.length < 100
  recs : f + rss.flatten.length < 18446744073709551616
  size : ∀ F ∈ fs, F.size ≤ 68719476736
theorem ChainJ.good {pre : List UInt8} {seen : List DPair} {s f : Nat} {fs : List DFile} {rss : List (List (List UInt8))} (h : ChainJ pre seen s f fs rss) (hr : ChainRoom s f fs rss) (hnd : (seen.map DPair.key).Nodup) (hn : NamesIn pre seen s fs.length) : ∃ ns, JNames pre seen ns ∧ GoodFs pre seen ns fs := by
  obtain ⟨ns, h1, h2⟩ := names_of hnd hn hr.few
  refine ⟨ns, h1, ⟨by rw [h2, h.serials], fun F hF => ?_, h.joins, by have := hr.few; omega⟩⟩
  obtain ⟨i, g, rs, h3, h4, h5, h6⟩ := h.mem hF
  have h7 := hr.few
  have h8 := hr.recs
  have h9 := hr.size F hF
  rw [h6.size] at h9
  have h10 := h6.serial
  refine ⟨⟨by omega, by rw [h6.from_]; omega, by rw [h6.to_]; omega, by rw [h6.size]; omega⟩, by omega, h6.there, by rw [h6.data]; omega, ?_⟩
  rw [h6.data, fileJ_whole (by omega) (by omega) h6.recs]
  obtain ⟨q1, q2, q3, q4⟩ := F
  have e1 := h6.from_
  have e2 := h6.to_
  have e3 := h6.size
  simp only at e1 e2 e3
  subst e1 e2 e3
  rfl
theorem One.recsF {pre : List UInt8} {seen : List DPair} {s f : Nat} {F : DFile} {rs : List (List UInt8)} (h : One pre seen s f F rs) (hn : F.serial < 100) (hf : f < 18446744073709551616) : recsF pre seen F = rs := recsF_whole h.data hn hf h.recs
theorem ChainJ.ok {pre : List UInt8} {seen : List DPair} {s f : Nat} {fs : List DFile} {rss : List (List (List UInt8))} (h : ChainJ pre seen s f fs rss) (hr : ChainRoom s f fs rss) : ∀ F ∈ fs, FileOk pre seen F := fun F hF => by
  obtain ⟨i, g, rs, h3, h4, h5, h6⟩ := h.mem hF
  have h7 := hr.few
  have h8 := hr.recs
  have h9 := hr.size F hF
  rw [h6.size] at h9
  have h10 := h6.serial
  refine ⟨by omega, h6.there, by rw [h6.data]; omega, by rw [h6.data, allO_file (by omega) (by omega) h6.recs]; simp, by rw [h6.from_, h6.to_]; omega, ?_⟩
  rw [h6.recsF (by omega) (by omega), h6.from_, h6.to_]
  omega
/-- All records, asked for from the first to behind the last. -/
theorem ChainJ.all {pre : List UInt8} {seen : List DPair} : ∀ {s f : Nat} {fs : List DFile} {rss : List (List (List UInt8))} {a z : Nat}, ChainJ pre seen s f fs rss → s + fs.length < 100 → f + rss.flatten.length < 18446744073709551616 → a ≤ f → f + rss.flatten.length ≤ z → recsJ pre seen a z fs = rss.flatten
  | _, _, [], [], _, _, _, _, _, _, _ => rfl
  | s, f, F :: fs, rs :: rss, a, z, h, h1, h2, h3, h4 => by
    have e := ChainJ.all (a := a) (z := z) h.2 (by simp at h1; omega) (by simp at h2 ⊢; omega) (by omega) (by simp at h4 ⊢; omega)
    have h5 := h.1.serial
    simp at h1 h2 h4
    have e2 : partF pre seen a z F = rs := by
      unfold partF
      rw [h.1.recsF (by omega) (by omega), h.1.from_, h.1.to_]
      by_cases hc : f + rs.length ≤ a ∨ z ≤ f
      · rw [if_pos hc]
        have : rs.length = 0 := by omega
        exact (List.length_eq_zero_iff.1 this).symm
      · rw [if_neg hc, Nat.max_eq_right h3, Nat.sub_self, List.drop_zero, List.take_of_length_le (by omega)]
    unfold recsJ at e ⊢
    rw [List.map_cons, List.flatten_cons, e2, e]
    rfl
end Go.Proofs.YthebdlkmoailaaaGreatDoor

namespace Go.Proofs.YthebdlkmoailaaaGreatDoor
open Go.RowKit Go.Gr Go.Maps
set_option linter.unusedSimpArgs false
set_option linter.unusedVariables false
structure JInv (pre : List UInt8) (D : DDr) (L : DLog) (s f : Nat) (rss : List (List (List UInt8))) : Prop where
  dead : D.dead = false
  armed : D.armed = false
  chain : ChainJ pre D.seen s f L.files rss
  names : NamesIn pre D.seen s L.files.length
  rising : Rising DPair.key D.seen
  start : L.files = [] → s = 0 ∧ f = 0
theorem writeB_end (old d : List UInt8) : writeB old old.length d = old ++ d := by
  unfold writeB
  simp
theorem appendD_full {D : DDr} {s d : List UInt8} (h1 : D.dead = false) (h2 : D.armed = false) (h : D.room - (usedB D.seen : Int) < (d.length : Int)) : appendD D s d = (D, 8) := by
  obtain ⟨a1, a2, a3, a4, a5, a6, a7⟩ := D
  simp only at h1 h2 h
  subst h1 h2
  unfold appendD rawB
  simp only [if_pos h]
  simp [mayB]
theorem appendD_ok {D : DDr} {s d : List UInt8} (h1 : D.dead = false) (h2 : D.armed = false) (h : ¬ D.room - (usedB D.seen : Int) < (d.length : Int)) : appendD D s d = ({ D with seen := putK DPair.key ⟨s, dataB D.seen s ++ d⟩ D.seen, queue := D.queue ++ [.wr s (dataB D.seen s).length d] }, 0) := by
  obtain ⟨a1, a2, a3, a4, a5, a6, a7⟩ := D
  simp only at h1 h2 h
  subst h1 h2
  unfold appendD rawB
  simp only [if_neg h]
  simp [mayB, DDeed.doB, DDeed.units, writeB_end]
theorem dataB_put (seen : List DPair) (s t v : List UInt8) : dataB (putK DPair.key ⟨s, v⟩ seen) t = if t = s then v else dataB seen t := by
  unfold dataB
  rw [getK_put]
  by_cases h : t = s
  · rw [if_pos h, if_pos h]; rfl
  · rw [if_neg h, if_neg h]
theorem thereB_put (seen : List DPair) (s t v : List UInt8) : thereB (putK DPair.key ⟨s, v⟩ seen) t = if t = s then true else thereB seen t := by
  unfold thereB
  rw [getK_put]
  by_cases h : t = s
  · rw [if_pos h, if_pos h]; rfl
  · rw [if_neg h, if_neg h]
theorem One.congr {pre : List UInt8} {seen seen' : List DPair} {s f : Nat} {F : DFile} {rs : List (List UInt8)} (h : One pre seen s f F rs) (hd : dataB seen' (nameB pre (s + 1)) = dataB seen (nameB pre (s + 1)) ∧ thereB seen' (nameB pre (s + 1)) = thereB seen (nameB pre (s + 1))) : One pre seen' s f F rs := by
  obtain ⟨h1, h2, h3, h4, h5, h6, h7⟩ := h
  rw [← h1] at hd
  exact ⟨h1, h2, h3, h4, by rw [hd.2]; exact h5, by rw [hd.1]; exact h6, h7⟩
theorem ChainJ.congr {pre : List UInt8} {seen seen' : List DPair} : ∀ {s f : Nat} {fs : List DFile} {rss : List (List (List UInt8))}, ChainJ pre seen s f fs rss → (∀ n, s < n → n ≤ s + fs.length → dataB seen' (nameB pre n) = dataB seen (nameB pre n) ∧ thereB seen' (nameB pre n) = thereB seen (nameB pre n)) → ChainJ pre seen' s f fs rss
  | _, _, [], [], _, _ => trivial
  | s, f, F :: fs, rs :: rss, h, hd => ⟨h.1.congr (hd (s + 1) (by omega) (by simp <;> omega)), ChainJ.congr h.2 (fun n h1 h2 => hd n (by omega) (by simp <;> omega))⟩
/-- The last file. -/
theorem ChainJ.last {pre : List UInt8} {seen : List DPair} {s f : Nat} {fs : List DFile} {rss : List (List (List UInt8))} (h : ChainJ pre seen s f fs rss) (h0 : fs = [] → s = 0 ∧ f = 0) : (lastF fs).serial = s + fs.length ∧ (lastF fs).to_ = f + rss.flatten.length := by
  rcases files_cases fs with rfl | ⟨i, F, rfl⟩
  · obtain ⟨rfl, rfl⟩ := h0 rfl
    have := h.len
    obtain rfl : rss = [] := List.length_eq_zero_iff.1 (by simpa using this)
    simp [lastF, DFile.none]
  · have hl := h.len
    rcases List.eq_nil_or_concat rss with rfl | ⟨js, r, rfl⟩
    · simp at hl
    · rw [List.concat_eq_append] at *
      obtain ⟨h1, h2⟩ := ChainJ.snoc.1 h
      rw [lastF_snoc, h2.serial, h2.to_]
      simp
      omega
theorem keys_put {seen : List DPair} {nm v k : List UInt8} : k ∈ (putK DPair.key ⟨nm, v⟩ seen).map DPair.key ↔ k = nm ∨ k ∈ seen.map DPair.key := by
  simp only [List.mem_map]
  constructor
  · rintro ⟨x, hx, rfl⟩
    rcases mem_putK.1 hx with rfl | ⟨h1, _⟩
    · exact .inl rfl
    · exact .inr ⟨x, h1, rfl⟩
  · rintro (rfl | ⟨x, hx, rfl⟩)
    · exact ⟨_, mem_putK.2 (.inl rfl), rfl⟩
    · by_cases h : x.key = nm
      · exact ⟨⟨nm, v⟩, mem_putK.2 (.inl rfl), h.symm⟩
      · exact ⟨x, mem_putK.2 (.inr ⟨hx, h⟩), rfl⟩
theorem tooLong_not {recs : List (List UInt8)} (h : ∀ r ∈ recs, r.length ≤ 1048576) : tooLong recs = false := by
  unfold tooLong
  rw [List.any_eq_false]
  intro r hr
  have := h r hr
  simpa using this
theorem dataB_no {seen : List DPair} {k : List UInt8} (h : k ∉ seen.map DPair.key) : dataB seen k = [] := by
  unfold dataB
  rw [getK_none.2 (fun x hx e => h (List.mem_map.2 ⟨x, hx, e⟩))]
  rfl
/-- An append: either there is no room, or the records stand behind the others. -/
theorem JInv.append {pre : List UInt8} {D : DDr} {L : DLog} {s f : Nat} {rss : List (List (List UInt8))} {recs : List (List UInt8)} (h : JInv pre D L s f rss) (hne : recs ≠ []) (hr : ∀ r ∈ recs, r.length ≤ 1048576) (hs : s + L.files.length + 1 < 100) :
    appendJ pre D L recs = ((D, L), 0, 8) ∨ ∃ rss', rss'.flatten = rss.flatten ++ recs ∧ (appendJ pre D L recs).2 = (f + rss.flatten.length, 0) ∧ JInv pre (appendJ pre D L recs).1.1 (appendJ pre D L recs).1.2 s f rss' ∧ (appendJ pre D L recs).1.1 = (appendD D (nameB pre (openF L).serial) (dataL L recs)).1 ∧ (appendJ pre D L recs).1.2 = pushL L recs ∧ ¬ D.room - (usedB D.seen : Int) < ((dataL L recs).length : Int) := by
  obtain ⟨hl1, hl2⟩ := h.chain.last h.start
  have hA : appendJ pre D L recs = if (appendD D (nameB pre (openF L).serial) (dataL L recs)).2 = 0 then (((appendD D (nameB pre (openF L).serial) (dataL L recs)).1, pushL L recs), (lastF L.files).to_, 0) else (((appendD D (nameB pre (openF L).serial) (dataL L recs)).1, L), 0, (appendD D (nameB pre (openF L).serial) (dataL L recs)).2) := by
    unfold appendJ
    rw [if_neg hne, if_neg (by rw [tooLong_not hr]; simp)]
  by_cases hroom : D.room - (usedB D.seen : Int) < ((dataL L recs).length : Int)
  · rw [appendD_full h.dead h.armed hroom] at hA
    exact .inl (by rw [hA]; rfl)
  · have hok := appendD_ok (s := nameB pre (openF L).serial) h.dead h.armed hroom
    rw [hok] at hA
    rw [if_pos rfl] at hA
    refine .inr ?_
    rw [hA, hok]
    by_cases hfr : freshL L = true
    · have e1 : openF L = ⟨s + L.files.length + 1, f + rss.flatten.length, f + rss.flatten.length, 0⟩ := by unfold openF; rw [if_pos hfr, hl1, hl2]
      have e2 : dataL L recs = fileB (s + L.files.length + 1) (f + rss.flatten.length) recs := by unfold dataL headL; rw [if_pos hfr, e1, hl2]; rfl
      have e3 : nameB pre (openF L).serial ∉ D.seen.map DPair.key := fun hm => by
        obtain ⟨n, h1, h2, h3⟩ := (h.names _).1 hm
        rw [e1] at h3
        have := nameB_inj (by show s + L.files.length + 1 < 100; omega) (by omega) h3
        simp only at this
        omega
      rw [dataB_no e3, e2, e1]
      have e4 : pushL L recs = { L with files := L.files ++ [⟨s + L.files.length + 1, f + rss.flatten.length, f + rss.flatten.length + recs.length, ((fileB (s + L.files.length + 1) (f + rss.flatten.length) recs).length : Int)⟩], closed := false } := by
        unfold pushL grownF
        rw [hfr, e1, e2]
        simp
      refine ⟨rss ++ [recs], by simp, by simp [hl2], ⟨h.dead, h.armed, ?_, ?_, h.rising.put, fun hx => ?_⟩, rfl, rfl, by rw [e2] at hroom; exact hroom⟩
      · rw [e4]
        refine ChainJ.snoc.2 ⟨h.chain.congr (fun n h1 h2 => ?_), ⟨rfl, rfl, rfl, rfl, ?_, ?_, hr⟩⟩
        · have hn : nameB pre n ≠ nameB pre (s + L.files.length + 1) := fun he => by
            have := nameB_inj (by omega) (by omega) he
            omega
          simp only [dataB_put, thereB_put, if_neg hn]
          exact ⟨trivial, trivial⟩
        · simp only [thereB_put, if_pos]
        · simp only [dataB_put, if_pos, List.nil_append]
      · rw [e4]
        intro k
        simp only [keys_put, List.length_append, List.length_singleton]
        rw [h.names k]
        constructor
        · rintro (rfl | ⟨n, h1, h2, rfl⟩)
          · exact ⟨_, by omega, by omega, rfl⟩
          · exact ⟨n, h1, by omega, rfl⟩
        · rintro ⟨n, h1, h2, rfl⟩
          by_cases hn : n = s + L.files.length + 1
          · subst hn; exact .inl rfl
          · exact .inr ⟨n, h1, by omega, rfl⟩
      · rw [e4] at hx; simp at hx
    · have hff : freshL L = false := by simpa using hfr
      rcases files_cases L.files with h0 | ⟨i, F0, h0⟩
      · exact absurd (by unfold freshL; rw [h0]; rfl) hfr
      have hlen := h.chain.len
      have hch := h.chain
      rcases List.eq_nil_or_concat rss with rfl | ⟨js, r, rfl⟩
      · rw [h0] at hlen; simp at hlen
      rw [List.concat_eq_append] at *
      rw [h0] at hch
      obtain ⟨c1, c2⟩ := ChainJ.snoc.1 hch
      have e1 : openF L = F0 := by unfold openF; rw [if_neg (by rw [hff]; simp), h0, lastF_snoc]
      have e2 : dataL L recs = sealsB recs := by unfold dataL headL; rw [if_neg (by rw [hff]; simp), List.nil_append]
      have e0 := c2.serial
      have e5 : fileB F0.serial (f + js.flatten.length) r ++ sealsB recs = fileB F0.serial (f + js.flatten.length) (r ++ recs) := (fileB_snoc _ _ _ _).symm
      rw [e1, e2, c2.data, e5]
      have e4 : pushL L recs = { L with files := i ++ [⟨F0.serial, F0.from_, F0.to_ + recs.length, ((fileB F0.serial (f + js.flatten.length) (r ++ recs)).length : Int)⟩], closed := false } := by
        unfold pushL grownF
        rw [hff, e1, e2, h0, c2.size, ← e5]
        simp
      have hln : L.files.length = i.length + 1 := by rw [h0]; simp
      refine ⟨js ++ [r ++ recs], by simp, by simp [hl2], ⟨h.dead, h.armed, ?_, ?_, h.rising.put, fun hx => ?_⟩, rfl, rfl, by rw [e2] at hroom; exact hroom⟩
      · rw [e4]
        refine ChainJ.snoc.2 ⟨c1.congr (fun n h1 h2 => ?_), ⟨e0, c2.from_, by show F0.to_ + recs.length = f + js.flatten.length + (r ++ recs).length; rw [c2.to_, List.length_append]; omega, rfl, ?_, ?_, fun x hx => ?_⟩⟩
        · have hn : nameB pre n ≠ nameB pre F0.serial := fun he => by
            have := nameB_inj (by omega) (by omega) he
            omega
          simp only [dataB_put, thereB_put, if_neg hn]
          exact ⟨trivial, trivial⟩
        · simp only [thereB_put, if_pos]
        · simp only [dataB_put, if_pos]
        · rcases List.mem_append.1 hx with hx | hx
          · exact c2.recs x hx
          · exact hr x hx
      · rw [e4]
        intro k
        simp only [keys_put, List.length_append, List.length_singleton]
        rw [h.names k, hln]
        constructor
        · rintro (rfl | ⟨n, h1, h2, rfl⟩)
          · exact ⟨F0.serial, by omega, by omega, rfl⟩
          · exact ⟨n, h1, by omega, rfl⟩
        · rintro ⟨n, h1, h2, rfl⟩
          exact .inr ⟨n, h1, by omega, rfl⟩
      · rw [e4] at hx; simp at hx
end Go.Proofs.YthebdlkmoailaaaGreatDoor

namespace Go.Proofs.YthebdlkmoailaaaGreatDoor
open Go.RowKit Go.Gr Go.Maps
set_option linter.unusedSimpArgs false
set_option linter.unusedVariables false
theorem usedB_cons (x : DPair) (l : List DPair) : usedB (x :: l) = x.value.length + usedB l := by simp [usedB]
theorem usedB_ins (x : DPair) (l : List DPair) : usedB (insK DPair.key x l) = x.value.length + usedB l := by
  induction l with
  | nil => simp [insK, usedB]
  | cons y l ih =>
    unfold insK
    split
    · rw [usedB_cons]
    · rw [usedB_cons, ih, usedB_cons]; omega
theorem dropK_none {k : List UInt8} {l : List DPair} (h : ∀ x ∈ l, x.key ≠ k) : dropK DPair.key k l = l := by
  unfold dropK
  rw [List.filter_eq_self]
  intro x hx
  simpa using h x hx
theorem usedB_drop {l : List DPair} (h : Rising DPair.key l) (k : List UInt8) : usedB l = usedB (dropK DPair.key k l) + (dataB l k).length := by
  induction l with
  | nil => simp [dropK, dataB, getK, usedB]
  | cons y l ih =>
    obtain ⟨h1, h2⟩ := List.pairwise_cons.1 h
    by_cases hk : y.key = k
    · have h3 : ∀ x ∈ l, x.key ≠ k := fun x hx e => cmpB_ne (h1 x hx) (hk.trans e.symm)
      have e1 : dropK DPair.key k (y :: l) = l := by
        rw [show dropK DPair.key k (y :: l) = dropK DPair.key k l from by unfold dropK; rw [List.filter_cons]; simp [hk], dropK_none h3]
      have e2 : dataB (y :: l) k = y.value := by unfold dataB getK; simp [hk]
      rw [e1, e2, usedB_cons]
      omega
    · have e1 : dropK DPair.key k (y :: l) = y :: dropK DPair.key k l := by unfold dropK; rw [List.filter_cons]; simp [hk]
      have e2 : dataB (y :: l) k = dataB l k := by unfold dataB getK; simp [hk]
      rw [e1, e2, usedB_cons, usedB_cons, ih h2]
      omega
theorem usedB_put {l : List DPair} (h : Rising DPair.key l) (k d : List UInt8) : usedB (putK DPair.key ⟨k, dataB l k ++ d⟩ l) = usedB l + d.length := by
  unfold putK
  rw [usedB_ins, usedB_drop h k, List.length_append]
  simp only
  omega
theorem dataB_le {l : List DPair} (h : Rising DPair.key l) (k : List UInt8) : (dataB l k).length ≤ usedB l := by
  rw [usedB_drop h k]
  omega
/-- An append's room, of a journal in order. -/
theorem JInv.roomJ {pre : List UInt8} {D : DDr} {L : DLog} {s f : Nat} {rss : List (List (List UInt8))} {recs : List (List UInt8)} (h : JInv pre D L s f rss) (hp : pre.length ≤ 998) (hs : s + L.files.length + 1 < 100) (hu : (usedB D.seen : Int) ≤ D.room) (hr : D.room ≤ 1099511627776) (hq : D.safe.length + D.queue.length < 1000000)
    (hd : (dataL L recs).length ≤ 4294967296) (hf : f + rss.flatten.length + recs.length < 18446744073709551616) (hu2 : usedB D.seen ≤ 4294967296) : RoomJ pre D L recs := by
  obtain ⟨hl1, hl2⟩ := h.chain.last h.start
  have hd1 := dataB_le h.rising (nameB pre (openF L).serial)
  refine ⟨hp, ?_, by omega, by omega, hr, hd, by omega, hq, by omega, by rw [hl2]; exact hf, ?_⟩
  · unfold openF
    split
    · show (lastF L.files).serial + 1 < 100; omega
    · omega
  · unfold openF
    split
    · refine ⟨Int.le_refl _, ?_⟩
      show (0 : Int) + _ ≤ _
      omega
    · rcases files_cases L.files with h0 | ⟨i, F, h0⟩
      · rw [h0]; simp [lastF, DFile.none]; omega
      · have hF : F ∈ L.files := by rw [h0]; simp
        obtain ⟨_, _, _, _, _, _, h6⟩ := h.chain.mem hF
        have h7 := dataB_le h.rising (nameB pre F.serial)
        rw [h6.data] at h7
        rw [h0, lastF_snoc, h6.size]
        omega
end Go.Proofs.YthebdlkmoailaaaGreatDoor

namespace Go.Proofs.YthebdlkmoailaaaGreatDoor
open Go.RowKit Go.Gr
set_option linter.unusedSimpArgs false
set_option linter.unusedVariables false
def shortB (xs : List (List UInt8)) : List (List UInt8) := (xs.take 10).map (·.take 600)
theorem stShort : SliceTy Tryz.prog 30 40 Ty.bytes.n := .mk' (z := .slice none 0 0) (by_ := 24) Tryz.underlying30 (by kernel_rfl) rfl (by decide) (by omega)
set_option maxRecDepth 100000 in
set_option maxHeartbeats 4000000 in
theorem shorts_ {w : World} {M : Nat → Prop} {v : Value} {xs : List (List UInt8)} (h : (Ty.slice Ty.bytes).rep w M [v] xs) :
    Calls Tryz.prog 13 #[v] w fun e w' => ∃ v', e = .returned v' ∧ Gr.Own Ty.bytes 40 w' M w.heap.size v' (shortB xs) ∧ Step w w' := by
  obtain ⟨a, c, rfl, _, _, hl⟩ := Ty.slice_val h
  rw [lim_eq] at hl
  have H := Lib.hid h
  clear h
  go_enter Tryz.func13, Tryz.ntmps13
  go_wp2
  go_loopw [3, 4] (fun ov iv w' => ∃ k : Nat, iv = .int .i64 (k : Int) ∧ k ≤ xs.length ∧ k ≤ 10 ∧ Hid (Gr.Own Ty.bytes 40 w' M w.heap.size ov ((xs.take k).map (·.take 600))) ∧ Hid (Step w w')) (fun _ iv _ => 10 - (Go.RowKit.intOf iv).toNat)
  case atStart => exact ⟨0, rfl, Nat.zero_le _, Nat.zero_le _, Lib.hid Gr.Own.nil, Lib.hid (Step.refl _)⟩
  case round =>
    obtain ⟨k, rfl, hk, hk10, HA, HS⟩ := hrel
    obtain ⟨oa, on, oc, rfl, HON⟩ := HA.out.valN
    by_cases hlt : k < xs.length
    · have hd : decide ((k : Int) < (xs.length : Int)) = true := decide_eq_true (by omega)
      by_cases h10 : k < 10
      · have hd2 : decide ((k : Int) < 10) = true := decide_eq_true (by omega)
        obtain ⟨b1, o1, u1, rfl, hb1, _, hu1, hc1⟩ := Ty.slice_at1 rfl H.out hlt
        have htk : Hid ((xs.take (k + 1)).map (·.take 600) = (xs.take k).map (·.take 600) ++ [xs[k].take 600]) := Lib.hid (by rw [List.take_succ_eq_append_getElem hlt, List.map_append]; rfl)
        have hu2 := Ty.bytes.keep hu1 (w' := w) (M' := fun b => M b ∨ w.heap.size ≤ b) (fun c hc hm => ⟨rfl, fun h => h.elim hm (fun h => by omega)⟩)
        generalize xs[k] = K at *
        obtain ⟨va, vc, rfl, h1, h2, hvl⟩ := Ty.slice_val hu1
        rw [lim_eq] at hvl
        have hc2 : wr.cell? ⟨b1, o1 + k, none⟩ = some (.slice va K.length vc) := (HS.out.cell hb1 _).trans hc1
        have hlim : Hid (((xs.take k).map (·.take 600)).length + 1 ≤ lim) := Lib.hid (by rw [List.length_map, List.length_take, lim_eq]; omega)
        have HLT : Hid (k + 1 ≤ xs.length) := Lib.hid hlt
        by_cases hbig : 600 < K.length
        · have hdb : decide ((600 : Int) < (K.length : Int)) = true := decide_eq_true (by omega)
          have HU := Lib.hid (slice_takeP hu2 (k := 600) (by omega))
          clear hu1 hu2 hc1
          generalize hkl : K.length = n at *
          clear hkl
          go_wp2_with (at_builtin; refine wpList_append_acc (w0 := w) (E := Ty.bytes) (ys := [K.take 600]) rfl (.tmp 25) (.tmp 27) rfl stShort (HS.out.trans stp) (Gr.Own.step HA.out stp) (Src.oneAt (E := Ty.bytes) (y := K.take 600) (by first | rfl | simp) (Ty.bytes.keep (Ty.step _ HU.out (HS.out.trans stp)) (fun c hc hm => ⟨rfl, fun h => hm (h.imp id (fun e => (HA.out.lt e).1))⟩))) hlim.out (by rfl) (by rfl) ?_; intro v7 w7 hA7 hB7 hG7 hn7; have HA7 := Lib.hid hA7; have HS7 := Lib.hid hB7; clear hA7 hB7 hG7 hn7)
          go_roundw
          case rel => exact ⟨k + 1, by go_num, HLT.out, by omega, by rw [htk.out]; exact HA7, HS7⟩
          case measure => simp [Go.RowKit.intOf]; omega

        · have hdb : decide ((600 : Int) < (K.length : Int)) = false := decide_eq_false (by omega)
          have HU := Lib.hid hu2
          rw [← List.take_of_length_le (show K.length ≤ 600 by omega)] at HU
          rw [List.length_take, Nat.min_eq_right (by omega)] at HU
          clear hu1 hu2 hc1
          generalize hkl : K.length = n at *
          clear hkl
          go_wp2_with (at_builtin; refine wpList_append_acc (w0 := w) (E := Ty.bytes) (ys := [K.take 600]) rfl (.tmp 25) (.tmp 27) rfl stShort (HS.out.trans stp) (Gr.Own.step HA.out stp) (Src.oneAt (E := Ty.bytes) (y := K.take 600) (by first | rfl | simp) (Ty.bytes.keep (Ty.step _ HU.out (HS.out.trans stp)) (fun c hc hm => ⟨rfl, fun h => hm (h.imp id (fun e => (HA.out.lt e).1))⟩))) hlim.out (by rfl) (by rfl) ?_; intro v7 w7 hA7 hB7 hG7 hn7; have HA7 := Lib.hid hA7; have HS7 := Lib.hid hB7; clear hA7 hB7 hG7 hn7)
          go_roundw
          case rel => exact ⟨k + 1, by go_num, HLT.out, by omega, by rw [htk.out]; exact HA7, HS7⟩
          case measure => simp [Go.RowKit.intOf]; omega

      · have hd2 : decide ((k : Int) < 10) = false := decide_eq_false (by omega)
        have hke : Hid (shortB xs = (xs.take k).map (·.take 600)) := Lib.hid (by unfold shortB; rw [show k = 10 by omega])
        go_wp2
        go_ret
        rw [hke.out]
        exact ⟨_, rfl, HA.out, HS.out⟩
    · have hd : decide ((k : Int) < (xs.length : Int)) = false := decide_eq_false (by omega)
      have hke : Hid (shortB xs = (xs.take k).map (·.take 600)) := Lib.hid (by unfold shortB; rw [List.take_of_length_le (show xs.length ≤ 10 by omega), List.take_of_length_le (show xs.length ≤ k by omega)])
      go_wp2
      go_ret
      rw [hke.out]
      exact ⟨_, rfl, HA.out, HS.out⟩
end Go.Proofs.YthebdlkmoailaaaGreatDoor

namespace Go.Proofs.YthebdlkmoailaaaGreatDoor
open Go.RowKit Go.Gr Go.Maps
set_option linter.unusedSimpArgs false
set_option linter.unusedVariables false
theorem sealsB_small : ∀ (rs : List (List UInt8)), (∀ r ∈ rs, r.length ≤ 600) → (sealsB rs).length ≤ rs.length * 620
  | [], _ => by simp [sealsB]
  | r :: rs, h => by
    have h1 := sealsB_small rs (fun x hx => h x (List.mem_cons_of_mem _ hx))
    have h2 := h r List.mem_cons_self
    rw [sealsB_cons, List.length_append, sealB_len, List.length_cons]
    omega
theorem dataL_small {L : DLog} {recs : List (List UInt8)} (h : ∀ r ∈ recs, r.length ≤ 600) (hc : recs.length ≤ 10) (h1 : (openF L).serial < 18446744073709551616) (h2 : (lastF L.files).to_ < 18446744073709551616) : (dataL L recs).length ≤ 10000 := by
  have h3 := sealsB_small recs h
  unfold dataL headL
  rw [List.length_append]
  split
  · unfold headB
    rw [sealB_len]
    have := numsB2_len h1 h2
    omega
  · simp only [List.length_nil]
    omega
end Go.Proofs.YthebdlkmoailaaaGreatDoor
