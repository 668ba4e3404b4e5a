/-
  Plain words: the reference's journal, and how it goes with a journal in order.
  A journal in order upon a drive that neither dies nor crashes: what its calls answer, and the reference's journal beside it.
-/
import Derived.Test.YthebdlkmoailaaaGreatDoorZN0
import Derived.Test.YthebdlkmoailaaaGreatDoorZP11
import Derived.Test.YthebdlkmoailaaaGreatDoorZP13
import Derived.Test.YthebdlkmoailaaaGreatDoorZP9
import Derived.Test.YthebdlkmoailaaaGreatDoorZK7
set_option linter.unusedVariables false
set_option linter.unusedSimpArgs false
namespace Go.Proofs.YthebdlkmoailaaaGreatDoor
open Go.RowKit Go.Gr Go.Maps
set_option linter.unusedSimpArgs false
set_option linter.unusedVariables false
/-- A journal's files with their records, as the reference has them. -/
def zipR : List DFile → List (List (List UInt8)) → List RFile
  | F :: fs, rs :: rss => ⟨F.from_, rs, F.size⟩ :: zipR fs rss
  | _, _ => []
theorem zipR_len : ∀ {fs : List DFile} {rss : List (List (List UInt8))}, rss.length = fs.length → (zipR fs rss).length = fs.length
  | [], [], _ => rfl
  | F :: fs, rs :: rss, h => by
    show (zipR fs rss).length + 1 = fs.length + 1
    rw [zipR_len (by simpa using h)]
theorem zipR_all : ∀ {fs : List DFile} {rss : List (List (List UInt8))}, rss.length = fs.length → rAll (zipR fs rss) = rss.flatten
  | [], [], _ => rfl
  | F :: fs, rs :: rss, h => by
    have := zipR_all (fs := fs) (rss := rss) (by simpa using h)
    unfold rAll at this ⊢
    simp only [zipR, List.map_cons, List.flatten_cons, this]
theorem zipR_snoc {F : DFile} {rs : List (List UInt8)} : ∀ {fs : List DFile} {rss : List (List (List UInt8))}, rss.length = fs.length → zipR (fs ++ [F]) (rss ++ [rs]) = zipR fs rss ++ [⟨F.from_, rs, F.size⟩]
  | [], [], _ => rfl
  | G :: fs, qs :: rss, h => by
    simp only [List.cons_append, zipR]
    rw [zipR_snoc (by simpa using h)]
section
variable {pre : List UInt8} {seen : List DPair}
theorem ChainJ.zipAt : ∀ {s f : Nat} {fs : List DFile} {rss : List (List (List UInt8))} {k : Nat}, ChainJ pre seen s f fs rss → (hk : k < fs.length) → (hk2 : k < (zipR fs rss).length) → ((zipR fs rss)[k]).from_ = (fs[k]).from_ ∧ rEnd (zipR fs rss)[k] = (fs[k]).to_ ∧ (fs[k]).from_ ≤ (fs[k]).to_
  | s, f, F :: fs, rs :: rss, 0, h, _, _ => by
    refine ⟨rfl, ?_, ?_⟩
    · show F.from_ + rs.length = F.to_
      rw [h.1.from_, h.1.to_]
    · show F.from_ ≤ F.to_
      rw [h.1.from_, h.1.to_]; exact Nat.le_add_right _ _
  | s, f, F :: fs, rs :: rss, k + 1, h, hk, hk2 => ChainJ.zipAt (k := k) h.2 (by simpa using hk) (by simpa [zipR] using hk2)
/-- The last file, on both sides. -/
theorem ChainJ.zipLast {s f : Nat} {fs : List DFile} {rss : List (List (List UInt8))} (h : ChainJ pre seen s f fs rss) : (lastR (zipR fs rss)).from_ = (lastF fs).from_ ∧ rEnd (lastR (zipR fs rss)) = (lastF fs).to_ ∧ (lastR (zipR fs rss)).size = (lastF fs).size ∧ (lastF fs).from_ ≤ (lastF fs).to_ := by
  have hl := h.len
  rcases files_cases fs with rfl | ⟨i, F, rfl⟩
  · obtain rfl : rss = [] := List.length_eq_zero_iff.1 (by simpa using hl)
    exact ⟨rfl, rfl, rfl, Nat.le_refl _⟩
  · rcases List.eq_nil_or_concat rss with rfl | ⟨js, r, rfl⟩
    · simp at hl
    · rw [List.concat_eq_append] at *
      obtain ⟨h1, h2⟩ := ChainJ.snoc.1 h
      rw [zipR_snoc (by simpa using hl), lastR_snoc, lastF_snoc]
      refine ⟨rfl, ?_, rfl, by rw [h2.from_, h2.to_]; exact Nat.le_add_right _ _⟩
      show F.from_ + r.length = F.to_
      rw [h2.from_, h2.to_]
theorem ChainJ.zipFirst : ∀ {s f : Nat} {fs : List DFile} {rss : List (List (List UInt8))}, ChainJ pre seen s f fs rss → rFirst (zipR fs rss) = firstL fs
  | _, _, [], [], _ => rfl
  | s, f, F :: fs, rs :: rss, h => rfl
theorem ChainJ.zipEmpty : ∀ {s f : Nat} {fs : List DFile} {rss : List (List (List UInt8))}, ChainJ pre seen s f fs rss → (zipR fs rss).isEmpty = fs.isEmpty
  | _, _, [], [], _ => rfl
  | s, f, F :: fs, rs :: rss, h => rfl
theorem ChainJ.lens : ∀ {s f : Nat} {fs : List DFile} {rss : List (List (List UInt8))}, ChainJ pre seen s f fs rss → rss.map List.length = fs.map (fun F => F.to_ - F.from_)
  | _, _, [], [], _ => rfl
  | s, f, F :: fs, rs :: rss, h => by
    simp only [List.map_cons]
    rw [ChainJ.lens h.2, h.1.from_, h.1.to_, Nat.add_sub_cancel_left]
end
/-- The reference's journal that goes with a journal in order. -/
def refOf (L : DLog) (s : Nat) (rss : List (List (List UInt8))) : RLog := ⟨zipR L.files rss, s + L.files.length, L.closed⟩
section
variable {pre : List UInt8} {seen : List DPair} {L : DLog} {s f : Nat} {rss : List (List (List UInt8))}
theorem refOf_next (h : ChainJ pre seen s f L.files rss) (h0 : L.files = [] → s = 0 ∧ f = 0) : rNext (refOf L s rss).files = f + rss.flatten.length := by
  show rEnd (lastR (zipR L.files rss)) = _
  rw [h.zipLast.2.1, (h.last h0).2]
theorem refOf_first (h : ChainJ pre seen s f L.files rss) (h0 : L.files = [] → s = 0 ∧ f = 0) : rFirst (refOf L s rss).files = f := by
  show rFirst (zipR L.files rss) = _
  rw [h.zipFirst, firstL_le h h0]
theorem refOf_fresh (h : ChainJ pre seen s f L.files rss) : rFresh (refOf L s rss) L.most = freshL L := by
  obtain ⟨h1, h2, h3, h4⟩ := h.zipLast
  unfold rFresh freshL refOf
  simp only [h.zipEmpty, h3]
  have : decide (0 < (lastR (zipR L.files rss)).recs.length) = decide ((lastF L.files).from_ < (lastF L.files).to_) := by
    unfold rEnd at h2
    rw [h1] at h2
    rw [← h2]
    simp
  rw [this]
theorem refOf_closed (h : ChainJ pre seen s f L.files rss) (h0 : L.files = [] → s = 0 ∧ f = 0) : rClosed (refOf L s rss) = if L.closed then f + rss.flatten.length else (lastF L.files).from_ := by
  obtain ⟨h1, h2, h3, h4⟩ := h.zipLast
  have hn := refOf_next h h0
  unfold rClosed
  have he : (refOf L s rss).files.isEmpty = L.files.isEmpty := h.zipEmpty
  have hc : (refOf L s rss).closed = L.closed := rfl
  rw [he, hc, hn]
  cases hcl : L.closed with
  | true => simp
  | false =>
    rcases files_cases L.files with h5 | ⟨i, F, h5⟩
    · rw [h5]
      obtain ⟨rfl, rfl⟩ := h0 h5
      have hl := h.len
      obtain rfl : rss = [] := List.length_eq_zero_iff.1 (by rw [hl, h5]; rfl)
      rfl
    · have : L.files.isEmpty = false := by rw [h5]; simp
      rw [this]
      simp only [Bool.false_or, Bool.false_eq_true, if_false]
      exact h1
/-- An append, on both sides. -/
theorem refOf_append {seen' : List DPair} {rss' : List (List (List UInt8))} {recs : List (List UInt8)} (h : ChainJ pre seen s f L.files rss) (h0 : L.files = [] → s = 0 ∧ f = 0) (hne : recs ≠ []) (h' : ChainJ pre seen' s f (pushL L recs).files rss') (hf : rss'.flatten = rss.flatten ++ recs) : rAppend (refOf L s rss) L.most recs = refOf (pushL L recs) s rss' := by
  obtain ⟨h1, h2, h3, h4⟩ := h.zipLast
  obtain ⟨e1, e2⟩ := h.last h0
  have hfe := refOf_fresh h
  have hl := h.len
  have hlens := h'.lens
  unfold rAppend
  rw [if_neg hne]
  by_cases hfr : freshL L = true
  · have hop : openF L = ⟨(lastF L.files).serial + 1, (lastF L.files).to_, (lastF L.files).to_, 0⟩ := by unfold openF; rw [if_pos hfr]
    have hpf : (pushL L recs).files = L.files ++ [grownF L recs] := by unfold pushL; simp [hfr]
    have hgl : (grownF L recs).to_ - (grownF L recs).from_ = recs.length := by unfold grownF; rw [hop]; simp
    have hrs : rss' = rss ++ [recs] := by
      refine List.eq_iff_flatten_eq.2 ⟨by rw [hf]; simp, ?_⟩
      rw [hlens, hpf, List.map_append, List.map_append, h.lens]
      simp [hgl]
    have hro : rOpen (refOf L s rss) L.most = ⟨(lastF L.files).to_, [], ((headB (s + L.files.length + 1) (lastF L.files).to_).length : Int)⟩ := by
      unfold rOpen
      rw [hfe, if_pos hfr]
      show RFile.mk (rEnd (lastR (zipR L.files rss))) [] _ = _
      rw [h2]
      show RFile.mk _ [] ((headB (s + L.files.length + 1) (rEnd (lastR (zipR L.files rss)))).length : Int) = _
      rw [h2]
    rw [hfe, if_pos hfr, if_pos hfr, hro]
    unfold refOf
    rw [hrs, hpf, zipR_snoc hl]
    have hg : (grownF L recs).size = ((headB (s + L.files.length + 1) (lastF L.files).to_).length : Int) + ((sealsB recs).length : Int) := by
      unfold grownF dataL headL
      rw [if_pos hfr, hop]
      simp only [List.length_append, e1]
      omega
    have hg2 : (grownF L recs).from_ = (lastF L.files).to_ := by unfold grownF; rw [hop]
    rw [hg, hg2]
    simp [rGrown, pushL]
    omega
  · have hff : freshL L = false := by simpa using hfr
    rcases files_cases L.files with h5 | ⟨i, F0, h5⟩
    · exact absurd (by unfold freshL; rw [h5]; rfl) hfr
    rcases List.eq_nil_or_concat rss with rfl | ⟨js, r, rfl⟩
    · rw [h5] at hl; simp at hl
    rw [List.concat_eq_append] at *
    rw [h5] at h
    obtain ⟨c1, c2⟩ := ChainJ.snoc.1 h
    have hl2 : js.length = i.length := c1.len
    have hop : openF L = F0 := by unfold openF; rw [if_neg hfr, h5, lastF_snoc]
    have hpf : (pushL L recs).files = i ++ [grownF L recs] := by unfold pushL; simp [hff, h5]
    have hgl : (grownF L recs).to_ - (grownF L recs).from_ = r.length + recs.length := by
      unfold grownF
      rw [hop]
      show F0.to_ + recs.length - F0.from_ = _
      rw [c2.from_, c2.to_]
      omega
    have hrs : rss' = js ++ [r ++ recs] := by
      refine List.eq_iff_flatten_eq.2 ⟨by rw [hf]; simp, ?_⟩
      rw [hlens, hpf, List.map_append, List.map_append, c1.lens]
      simp [hgl]
    have hz : (refOf L s (js ++ [r])).files = zipR i js ++ [⟨F0.from_, r, F0.size⟩] := by
      show zipR L.files _ = _
      rw [h5, zipR_snoc hl2]
    have hro : rOpen (refOf L s (js ++ [r])) L.most = ⟨F0.from_, r, F0.size⟩ := by
      unfold rOpen
      rw [hfe, if_neg hfr, hz, lastR_snoc]
    rw [hfe, if_neg hfr, if_neg hfr, hro, hz]
    have hg : (grownF L recs).size = F0.size + ((sealsB recs).length : Int) := by
      unfold grownF dataL headL
      rw [if_neg hfr, hop, List.nil_append]
    have hg2 : (grownF L recs).from_ = F0.from_ := by unfold grownF; rw [hop]
    unfold refOf
    rw [hrs, hpf, zipR_snoc hl2, hg, hg2, h5]
    simp [rGrown, pushL]
end
/-- Drop, on both sides. -/
theorem drop_ref {pre : List UInt8} {below : Nat} : ∀ (fs : List DFile) (D : DDr) (s f : Nat) (rss : List (List (List UInt8))), D.dead = false → D.armed = false → GoodJ pre D.seen s f fs rss → s + fs.length < 100 →
    ∃ D' fs' s' f' rss', dropJ pre below D fs = ((D', fs'), 0) ∧ D'.dead = false ∧ D'.armed = false ∧ GoodJ pre D'.seen s' f' fs' rss' ∧ s' + fs'.length = s + fs.length ∧ usedB D'.seen ≤ usedB D.seen ∧ D'.room = D.room ∧ D'.safe = D.safe ∧ D'.queue.length ≤ D.queue.length + fs.length ∧ f' + rss'.flatten.length = f + rss.flatten.length ∧ rss'.flatten.length ≤ rss.flatten.length ∧ rDrop below (zipR fs rss) = zipR fs' rss'
  | [], D, s, f, [], h1, h2, hg, hs => ⟨D, [], s, f, [], rfl, h1, h2, hg, rfl, Nat.le_refl _, rfl, rfl, Nat.le_refl _, rfl, Nat.le_refl _, rfl⟩
  | [], D, s, f, r :: rss, h1, h2, hg, hs => hg.chain.elim
  | [F], D, s, f, [], h1, h2, hg, hs => hg.chain.elim
  | [F], D, s, f, [r], h1, h2, hg, hs => ⟨D, [F], s, f, [r], rfl, h1, h2, hg, rfl, Nat.le_refl _, rfl, rfl, Nat.le_add_right _ _, rfl, Nat.le_refl _, rfl⟩
  | [F], D, s, f, r :: q :: rss, h1, h2, hg, hs => hg.chain.2.elim
  | F :: G :: fs, D, s, f, [], h1, h2, hg, hs => hg.chain.elim
  | F :: G :: fs, D, s, f, [r], h1, h2, hg, hs => hg.chain.2.elim
  | F :: G :: fs, D, s, f, r :: q :: rss, h1, h2, hg, hs => by
    have hre : rEnd ⟨F.from_, r, F.size⟩ = F.to_ := by
      show F.from_ + r.length = F.to_
      rw [hg.chain.1.from_, hg.chain.1.to_]
    have hz : rDrop below (zipR (F :: G :: fs) (r :: q :: rss)) = if F.to_ ≤ below then rDrop below (zipR (G :: fs) (q :: rss)) else zipR (F :: G :: fs) (r :: q :: rss) := by
      show (if rEnd ⟨F.from_, r, F.size⟩ ≤ below then _ else _) = _
      rw [hre]
      rfl
    by_cases hle : F.to_ ≤ below
    · have hth : thereB D.seen (nameB pre F.serial) = true := hg.chain.1.there
      have hr := removeD_ok h1 h2 hth
      simp only [List.length_cons] at hs
      have hg2 := hg.dropFirst (by simp) (by simp only [List.length_cons]; omega)
      obtain ⟨D', fs', s', f', rss', e1, e2, e3, e4, e5, e6, e7, e8, e9, e10, e11, e12⟩ := drop_ref (below := below) (G :: fs) { D with seen := dropK DPair.key (nameB pre F.serial) D.seen, queue := D.queue ++ [.rm (nameB pre F.serial)] } (s + 1) (f + r.length) (q :: rss) h1 h2 hg2 (by simp only [List.length_cons]; omega)
      refine ⟨D', fs', s', f', rss', ?_, e2, e3, e4, ?_, Nat.le_trans e6 (usedB_drop_le hg.rising _), e7, e8, ?_, ?_, ?_, ?_⟩
      · rw [dropJ, if_pos hle, hr, if_pos rfl]
        exact e1
      · simp only [List.length_cons] at e5 ⊢; omega
      · simp only [List.length_append, List.length_cons, List.length_nil] at e9 ⊢; omega
      · rw [List.flatten_cons, List.length_append]; omega
      · rw [List.flatten_cons (l := r), List.length_append]; omega
      · rw [hz, if_pos hle]
        exact e12
    · exact ⟨D, F :: G :: fs, s, f, r :: q :: rss, by rw [dropJ, if_neg hle], h1, h2, hg, rfl, Nat.le_refl _, rfl, rfl, Nat.le_add_right _ _, rfl, Nat.le_refl _, by rw [hz, if_neg hle]⟩
end Go.Proofs.YthebdlkmoailaaaGreatDoor

namespace Go.Proofs.YthebdlkmoailaaaGreatDoor
open Go.RowKit Go.Gr Go.Maps
open Go.Proofs (encStr)
set_option linter.unusedSimpArgs false
set_option linter.unusedVariables false
/-- Records between two indexes. -/
theorem ChainJ.some {pre : List UInt8} {seen : List DPair} {a z : Nat} (haz : a ≤ z) : ∀ {s f : Nat} {fs : List DFile} {rss : List (List (List UInt8))}, ChainJ pre seen s f fs rss → s + fs.length < 100 → f + rss.flatten.length < 18446744073709551616 → recsJ pre seen a z fs = (rss.flatten.take (z - f)).drop (a - f)
  | _, _, [], [], _, _, _ => by simp [recsJ]
  | s, f, F :: fs, rs :: rss, h, h1, h2 => by
    have e := ChainJ.some haz h.2 (by simp at h1; omega) (by simp at h2 ⊢; omega)
    have h5 := h.1.serial
    simp at h1 h2
    have e2 : partF pre seen a z F = (rs.take (z - f)).drop (a - f) := by
      unfold partF
      rw [h.1.recsF (by omega) (by omega), h.1.from_, h.1.to_]
      by_cases hc : f + rs.length ≤ a ∨ z ≤ f
      · rw [if_pos hc]
        symm
        rw [List.drop_eq_nil_iff, List.length_take]
        omega
      · rw [if_neg hc, List.drop_take]
        rcases Nat.le_total a f with h3 | h3
        · rw [Nat.max_eq_right h3, show f - f = a - f by omega]
          rcases Nat.le_total z (f + rs.length) with h4 | h4
          · rw [Nat.min_eq_left h4]
          · rw [Nat.min_eq_right h4, List.take_of_length_le (by simp <;> omega), List.take_of_length_le (by simp <;> omega)]
        · rw [Nat.max_eq_left h3]
          rcases Nat.le_total z (f + rs.length) with h4 | h4
          · rw [Nat.min_eq_left h4]
          · rw [Nat.min_eq_right h4, List.take_of_length_le (by simp <;> omega), List.take_of_length_le (by simp <;> omega)]
    unfold recsJ at e ⊢
    rw [List.map_cons, List.flatten_cons, e2, e, List.flatten_cons, List.take_append, List.drop_append, List.length_take, Nat.sub_sub a f]
    congr 1
    rcases Nat.le_total (z - f) rs.length with h3 | h3
    · rw [show z - (f + rs.length) = 0 by omega, show z - f - rs.length = 0 by omega]
      simp
    · rw [Nat.min_eq_right h3, Nat.sub_sub]
/-- A journal in order, upon a drive that does not die. -/
structure PSess (pre : List UInt8) (w : World) (M : Nat → Prop) (xb b l : Nat) (D : DDr) (L : DLog) (s f : Nat) (rss : List (List (List UInt8))) (q U C : Nat) : Prop where
  mem : ∃ sf sn g, DriveAt w M b sf sn D ∧ LogAt w M l b g pre L ∧ M xb ∧ ¬ JM b sf sn l g xb
  inv : JInv pre D L s f rss
  few : s + L.files.length ≤ q
  used : usedB D.seen ≤ U
  cnt : D.safe.length + D.queue.length ≤ C
theorem seen_keys {pre : List UInt8} {seen : List DPair} {s m : Nat} (h : NamesIn pre seen s m) (hp : pre.length ≤ 998) : ∀ x ∈ seen, x.key.length ≤ 1000 ∧ ∃ r, x.key = pre ++ r := fun x hx => by
  obtain ⟨n, _, _, hn⟩ := (h x.key).1 (List.mem_map.2 ⟨x, hx, rfl⟩)
  have := nameB_len pre n
  exact ⟨by rw [hn]; omega, decS n, hn⟩
section
variable {pre : List UInt8} {w : World} {M : Nat → Prop} {xb b l : Nat} {D : DDr} {L : DLog} {s f : Nat} {rss : List (List (List UInt8))} {q U C : Nat}
theorem PSess.step {w' : World} (h : PSess pre w M xb b l D L s f rss q U C) (hs : Step w w') : PSess pre w' M xb b l D L s f rss q U C := by
  obtain ⟨⟨sf, sn, g, h1, h2, hx⟩, h3, h4, h5, h6⟩ := h
  exact ⟨⟨sf, sn, g, h1.step hs, h2.step hs, hx⟩, h3, h4, h5, h6⟩
theorem PSess.old (h : PSess pre w M xb b l D L s f rss q U C) : ∀ c, M c → c < w.heap.size := by
  obtain ⟨sf, sn, g, hD, hL, hx, hn⟩ := h.mem
  exact hD.old
theorem PSess.more {q' U' C' : Nat} (h : PSess pre w M xb b l D L s f rss q U C) (hq : q ≤ q') (hU : U ≤ U') (hC : C ≤ C') : PSess pre w M xb b l D L s f rss q' U' C' :=
  ⟨h.mem, h.inv, Nat.le_trans h.few hq, Nat.le_trans h.used hU, Nat.le_trans h.cnt hC⟩
theorem PSess.append {M2 : Nat → Prop} {U' : Nat} {rv : Value} {recs : List (List UInt8)} (h : PSess pre w M xb b l D L s f rss q U C) (hp : pre.length ≤ 998) (hq : q < 98) (hrep : (Ty.slice Ty.bytes).rep w M2 [rv] recs) (hr : ∀ r ∈ recs, r.length ≤ 1048576)
    (hU : U + (dataL L recs).length ≤ U') (hU2 : (U' : Int) ≤ D.room) (hU3 : U' ≤ 4294967296) (hro : D.room ≤ 1099511627776) (hC : C < 900000) (hf : f + rss.flatten.length + recs.length < 18446744073709551616) :
    Calls Tryz.prog 14 #[.pointer (some ⟨l, 0, none⟩), rv] w fun e w' => e = .returned (.tuple #[.int .u64 ((f + rss.flatten.length : Nat) : Int), .int .i64 0]) ∧ ∃ M' D' L' rss', PSess pre w' M' xb b l D' L' s f rss' (q + 1) U' (C + 1) ∧ XGo w w' M M' xb ∧ D'.room = D.room ∧ L'.most = L.most ∧ rss'.flatten = rss.flatten ++ recs ∧ rAppend (refOf L s rss) L.most recs = refOf L' s rss' := by
  obtain ⟨sf, sn, g, hD, hL, hx, hn⟩ := h.mem
  obtain ⟨hl1, hl2⟩ := h.inv.chain.last h.inv.start
  have hfew := h.few
  have hcnt := h.cnt
  have hus := h.used
  have hRJ : RoomJ pre D L recs := h.inv.roomJ hp (by omega) (by omega) hro (by omega) (by omega) hf (by omega)
  refine (jAppend_ hD hL hrep hRJ).mono ?_
  rintro e w' ⟨rfl, M', sf', sn', g', hD', hL', hGo⟩
  obtain ⟨hcg, hx1, hx2⟩ := hGo.xgo hD hL hx hn
  by_cases h0 : recs = []
  · subst h0
    have e1 : appendJ pre D L [] = ((D, L), (lastF L.files).to_, 0) := if_pos rfl
    rw [e1] at hD' hL' ⊢
    exact ⟨by rw [hl2], M', D, L, rss, ⟨⟨sf', sn', g', hD', hL', hx1, hx2⟩, h.inv, by omega, by omega, by omega⟩, hcg, rfl, rfl, by simp, rfl⟩
  · have hroom : ¬ D.room - (usedB D.seen : Int) < ((dataL L recs).length : Int) := by omega
    rcases h.inv.append h0 hr (by omega) with e1 | ⟨rss', h1, h2, h3, h4, h5, h6⟩
    · exfalso
      have hA : appendJ pre D L recs = if (appendD D (nameB pre (openF L).serial) (dataL L recs)).2 = 0 then (((appendD D (nameB pre (openF L).serial) (dataL L recs)).1, pushL L recs), (lastF L.files).to_, 0) else (((appendD D (nameB pre (openF L).serial) (dataL L recs)).1, L), 0, (appendD D (nameB pre (openF L).serial) (dataL L recs)).2) := by
        unfold appendJ
        rw [if_neg h0, if_neg (by rw [tooLong_not hr]; simp)]
      rw [appendD_ok (s := nameB pre (openF L).serial) h.inv.dead h.inv.armed hroom, if_pos rfl] at hA
      rw [hA] at e1
      simp at e1
    · have hok := appendD_ok (s := nameB pre (openF L).serial) h.inv.dead h.inv.armed h6
      have h4' := h4
      rw [hok] at h4'
      refine ⟨by rw [h2], M', _, _, rss', ⟨⟨sf', sn', g', hD', hL', hx1, hx2⟩, h3, ?_, ?_, ?_⟩, hcg, by rw [h4'], by rw [h5]; rfl, h1, ?_⟩
      · rw [h5]
        unfold pushL
        rw [List.length_append, List.length_singleton]
        split
        · omega
        · rw [List.length_dropLast]; omega
      · rw [h4']
        show usedB (putK _ _ D.seen) ≤ _
        rw [usedB_put h.inv.rising]
        omega
      · rw [h4']
        show D.safe.length + (D.queue ++ _).length ≤ C + 1
        rw [List.length_append, List.length_singleton]
        omega
      · have hch := h3.chain
        rw [h5] at hch ⊢
        exact refOf_append h.inv.chain h.inv.start h0 hch h1
/-- Records of which one is too long are refused. -/
theorem PSess.big {M2 : Nat → Prop} {rv : Value} {recs : List (List UInt8)} (h : PSess pre w M xb b l D L s f rss q U C) (hp : pre.length ≤ 998) (hq : q < 98) (hrep : (Ty.slice Ty.bytes).rep w M2 [rv] recs) (hr : tooLong recs = true)
    (hd : (dataL L recs).length ≤ 4294967296) (hU2 : (U : Int) ≤ D.room) (hU3 : U ≤ 4294967296) (hro : D.room ≤ 1099511627776) (hC : C < 900000) (hf : f + rss.flatten.length + recs.length < 18446744073709551616) :
    Calls Tryz.prog 14 #[.pointer (some ⟨l, 0, none⟩), rv] w fun e w' => e = .returned (.tuple #[.int .u64 0, .int .i64 2]) ∧ ∃ M', PSess pre w' M' xb b l D L s f rss q U C ∧ XGo w w' M M' xb := by
  obtain ⟨sf, sn, g, hD, hL, hx, hn⟩ := h.mem
  have hfew := h.few
  have hcnt := h.cnt
  have hus := h.used
  have hne : recs ≠ [] := fun h0 => by rw [h0] at hr; simp [tooLong] at hr
  have hRJ : RoomJ pre D L recs := h.inv.roomJ hp (by omega) (by omega) hro (by omega) hd hf (by omega)
  have e1 : appendJ pre D L recs = ((D, L), 0, 2) := by
    unfold appendJ
    rw [if_neg hne, if_pos hr]
  have hc := jAppend_ hD hL hrep hRJ
  rw [e1] at hc
  refine hc.mono ?_
  rintro e w' ⟨rfl, M', sf', sn', g', hD', hL', hGo⟩
  obtain ⟨hcg, hx1, hx2⟩ := hGo.xgo hD hL hx hn
  exact ⟨rfl, M', ⟨⟨sf', sn', g', hD', hL', hx1, hx2⟩, h.inv, h.few, h.used, h.cnt⟩, hcg⟩
theorem PSess.flush (h : PSess pre w M xb b l D L s f rss q U C) (hq : q < 99) :
    Calls Tryz.prog 31 #[.pointer (some ⟨b, 0, none⟩)] w fun e w' => e = .returned (.int .i64 0) ∧ ∃ M' D', PSess pre w' M' xb b l D' L s f rss q U 100 ∧ XGo w w' M M' xb ∧ D'.room = D.room := by
  obtain ⟨sf, sn, g, hD, hL, hx, hn⟩ := h.mem
  have hfew := h.few
  have hlen := h.inv.goodJ.few (by omega)
  have hfl := flushD_ok h.inv.dead h.inv.armed
  have hc := dFlush_ hD
  rw [hfl] at hc
  refine hc.mono ?_
  rintro e w' ⟨rfl, M', sf', sn', h1, h2⟩
  obtain ⟨hcg, hx1, hx2⟩ := (JGo.of (l := l) g h2).xgo hD hL hx hn
  exact ⟨rfl, M', _, ⟨⟨sf', sn', g, h1, hL.beside hD h2, hx1, hx2⟩, ⟨h.inv.dead, h.inv.armed, h.inv.chain, h.inv.names, h.inv.rising, h.inv.start⟩, h.few, h.used, by show D.seen.length + 0 ≤ 100; omega⟩, hcg, rfl⟩
theorem PSess.close (h : PSess pre w M xb b l D L s f rss q U C) (hq : q < 99) :
    Calls Tryz.prog 32 #[.pointer (some ⟨l, 0, none⟩)] w fun e w' => e = .returned (.int .i64 0) ∧ ∃ M' D', PSess pre w' M' xb b l D' { L with closed := true } s f rss q U 100 ∧ XGo w w' M M' xb ∧ D'.room = D.room := by
  obtain ⟨sf, sn, g, hD, hL, hx, hn⟩ := h.mem
  have hfew := h.few
  have hfl := flushD_ok h.inv.dead h.inv.armed
  have hc := jClose_ hD hL
  rw [hfl] at hc
  have hcl : closeJ D L = { L with closed := true } := by
    unfold closeJ
    rw [hfl]
    simp
  rw [hcl] at hc
  refine hc.mono ?_
  rintro e w' ⟨rfl, M', sf', sn', g', h1, h2, h3⟩
  have hgj := h.inv.goodJ
  have hlen := hgj.few (by omega)
  obtain ⟨hcg, hx1, hx2⟩ := h3.xgo hD hL hx hn
  exact ⟨rfl, M', _, ⟨⟨sf', sn', g', h1, h2, hx1, hx2⟩, ⟨h.inv.dead, h.inv.armed, h.inv.chain, h.inv.names, h.inv.rising, h.inv.start⟩, hfew, h.used, by show D.seen.length + 0 ≤ 100; omega⟩, hcg, rfl⟩
theorem PSess.drop {below : Nat} (h : PSess pre w M xb b l D L s f rss q U C) (hp : pre.length ≤ 998) (hq : q < 99) (hb : below < 18446744073709551616) (hC : C + 100 < 1000000) :
    Calls Tryz.prog 33 #[.pointer (some ⟨l, 0, none⟩), .int .u64 (below : Int)] w fun e w' => e = .returned (.int .i64 0) ∧ ∃ M' D' fs' s' f' rss', PSess pre w' M' xb b l D' { L with files := fs' } s' f' rss' q U (C + 100) ∧ XGo w w' M M' xb ∧ D'.room = D.room ∧ f' + rss'.flatten.length = f + rss.flatten.length ∧ s' + fs'.length = s + L.files.length ∧ rDrop below (zipR L.files rss) = zipR fs' rss' := by
  obtain ⟨sf, sn, g, hD, hL, hx, hn⟩ := h.mem
  have hfew := h.few
  have hcnt := h.cnt
  have hus := h.used
  obtain ⟨D', fs', s', f', rss', e1, e2, e3, e4, e5, e6, e7, e8, e9, e10, e11, e12⟩ := drop_ref (below := below) L.files D s f rss h.inv.dead h.inv.armed h.inv.goodJ (by omega)
  have hser : ∀ F ∈ L.files, F.serial < 100 := fun F hF => by
    obtain ⟨i, _, _, hi, _, _, h6⟩ := h.inv.chain.mem hF
    have := h6.serial
    omega
  have hc := jDrop_ (below := below) hD hL hp hb hser (by omega)
  rw [e1] at hc
  refine hc.mono ?_
  rintro e w' ⟨rfl, M', sf', sn', g', k1, k2, k3⟩
  obtain ⟨hcg, hx1, hx2⟩ := k3.xgo hD hL hx hn
  exact ⟨rfl, M', D', fs', s', f', rss', ⟨⟨sf', sn', g', k1, k2, hx1, hx2⟩, GoodJ.inv (L := { L with files := fs' }) e4 e2 e3, by show s' + fs'.length ≤ q; omega, by omega, by rw [e8]; omega⟩, hcg, e7, e10, e5, e12⟩
theorem PSess.open_ {most : Int} (h : PSess pre w M xb b l D L s f rss q U C) (hm : I64 most) (hp : pre.length ≤ 998) (hq : q < 99) (hU : U ≤ 68719476736) (hf : f + rss.flatten.length < 18446744073709551616) :
    Calls Tryz.prog 12 #[.pointer (some ⟨b, 0, none⟩), encStr pre, .int .i64 most] w fun e w' => ∃ l', e = .returned (.tuple #[.pointer (some ⟨l', 0, none⟩), .int .i64 0]) ∧ ∃ M', PSess pre w' M' xb b l' D ⟨max 1 most, L.files, true⟩ s f rss q U C ∧ XGo w w' M M' xb := by
  obtain ⟨sf, sn, g, hD, hL, hx, hn⟩ := h.mem
  have hfew := h.few
  have hus := h.used
  obtain ⟨_, ns, hns, hG⟩ := h.inv.good (by omega) hf (by omega)
  refine (jOpen_ hD h.inv.dead hm hp hns hG).mono ?_
  rintro e w' ⟨l', g', M', rfl, hS, hl, hD', hL', h1, h2, h3⟩
  exact ⟨l', rfl, M', ⟨⟨sf, sn, g', hD', hL', h1 xb hx, fun hj => hj.elim (fun hj => hn (.inl hj)) (fun hj => hj.elim (fun e => by have := hD.old xb hx; omega) (fun e => by have h5 := h3 xb e; have := hD.old xb hx; omega))⟩, ⟨h.inv.dead, h.inv.armed, h.inv.chain, h.inv.names, h.inv.rising, h.inv.start⟩, h.few, h.used, h.cnt⟩, ⟨(Turn.of hS).mono fun c hc hx => by omega, h2⟩⟩
theorem PSess.first (h : PSess pre w M xb b l D L s f rss q U C) : Calls Tryz.prog 39 #[.pointer (some ⟨l, 0, none⟩)] w fun e w' => e = .returned (.int .u64 (f : Int)) ∧ w' = w := by
  obtain ⟨sf, sn, g, hD, hL, hx, hn⟩ := h.mem
  obtain ⟨fv, h1, h2, _⟩ := hL.row
  have := jFirst_ h1 h2
  rw [firstL_le h.inv.chain h.inv.start] at this
  exact this
theorem PSess.next (h : PSess pre w M xb b l D L s f rss q U C) : Calls Tryz.prog 17 #[.pointer (some ⟨l, 0, none⟩)] w fun e w' => e = .returned (.int .u64 ((f + rss.flatten.length : Nat) : Int)) ∧ Step w w' := by
  obtain ⟨sf, sn, g, hD, hL, hx, hn⟩ := h.mem
  obtain ⟨fv, h1, h2, _⟩ := hL.row
  have := jNext_ h1 h2
  rw [(h.inv.chain.last h.inv.start).2] at this
  exact this
theorem PSess.spans (h : PSess pre w M xb b l D L s f rss q U C) : Calls Tryz.prog 40 #[.pointer (some ⟨l, 0, none⟩)] w fun e w' => ∃ v, e = .returned v ∧ Gr.Own tSpan 75 w' (fun _ => False) w.heap.size v (spansL L.files) ∧ Step w w' := by
  obtain ⟨sf, sn, g, hD, hL, hx, hn⟩ := h.mem
  obtain ⟨fv, h1, h2, _⟩ := hL.row
  exact jSpans_ h1 h2
theorem PSess.closed (h : PSess pre w M xb b l D L s f rss q U C) : Calls Tryz.prog 41 #[.pointer (some ⟨l, 0, none⟩)] w fun e w' => e = .returned (.int .u64 ((rClosed (refOf L s rss) : Nat) : Int)) ∧ Step w w' := by
  obtain ⟨sf, sn, g, hD, hL, hx, hn⟩ := h.mem
  obtain ⟨fv, h1, h2, _⟩ := hL.row
  have := jClosed_ h1 h2
  rw [(h.inv.chain.last h.inv.start).2, ← refOf_closed h.inv.chain h.inv.start] at this
  exact this
theorem PSess.records {a z : Nat} (h : PSess pre w M xb b l D L s f rss q U C) (hp : pre.length ≤ 998) (hq : q < 99) (hU : U ≤ 68719476736) (hf : f + rss.flatten.length < 18446744073709551616) (hr : rss.flatten.length ≤ 1000000000) (haz : a ≤ z) (ha : f ≤ a) (hz : z ≤ f + rss.flatten.length) :
    Calls Tryz.prog 16 #[.pointer (some ⟨l, 0, none⟩), .int .u64 (a : Int), .int .u64 (z : Int)] w fun e w' => ∃ v ds, e = .returned (.tuple #[v, .int .i64 0]) ∧ Gr.Own (tGB 5) 40 w' (· < w.heap.size) w.heap.size v ds ∧ Step w w' ∧ Hid (ds.map Prod.fst = (rss.flatten.take (z - f)).drop (a - f)) ∧ ApartD ds := by
  obtain ⟨sf, sn, g, hD, hL, hx, hn⟩ := h.mem
  obtain ⟨hl1, hl2⟩ := h.inv.chain.last h.inv.start
  have hfew := h.few
  have hus := h.used
  obtain ⟨hro, _⟩ := h.inv.good (by omega) hf (by omega)
  have hall := h.inv.chain.some haz (by omega) hf
  have hl : ((rss.flatten.take (z - f)).drop (a - f)).length ≤ 1000000000 := by
    rw [List.length_drop, List.length_take]
    omega
  have := jRecords_ (a := a) (z := z) hD h.inv.dead hL hp haz (by rw [firstL_le h.inv.chain h.inv.start]; exact ha) (by rw [hl2]; exact hz) (by omega) (h.inv.chain.ok hro) (by rw [hall]; exact hl)
  rw [hall] at this
  exact this
theorem PSess.list (h : PSess pre w M xb b l D L s f rss q U C) (hp : pre.length ≤ 998) (hq : q < 99) :
    Calls Tryz.prog 37 #[.pointer (some ⟨b, 0, none⟩), encStr pre] w fun e w' => ∃ v, e = .returned v ∧ Gr.Own tNam 9 w' (fun _ => False) w.heap.size v (listB D) ∧ Step w w' ∧ Hid ((listB D).length = L.files.length) := by
  obtain ⟨sf, sn, g, hD, hL, hx, hn⟩ := h.mem
  have hfew := h.few
  have hlen := h.inv.goodJ.few (by omega)
  refine (dList_ hD (seen_keys h.inv.names hp)).mono ?_
  rintro e w' ⟨v, rfl, hA, hS⟩
  refine ⟨v, rfl, hA, hS, Lib.hid ?_⟩
  unfold listB
  rw [h.inv.dead]
  simpa using hlen
end
end Go.Proofs.YthebdlkmoailaaaGreatDoor
