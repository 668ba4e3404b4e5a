/-
  Plain words: what Open makes of a drive behind a crash.
  Walk: Begin.
  A journal upon a drive that may crash: what appends, Close, Crash and Open make of it.
  What a journal upon a drive that may crash answers; what stays beside it.
  Close and Drop of a journal upon a drive that may crash.
  A journal upon a drive that may die at any deed: what Append, Flush, Close and Drop make of it.
  Plain words for JournalSpans: a session's bounds are widened; spans join on.
  What a round of JournalSpans knows of its journal; what each act makes of it.
-/
import Derived.Test.YthebdlkmoailaaaGreatDoorZP11
import Derived.Test.YthebdlkmoailaaaGreatDoorZP12
import Derived.Test.YthebdlkmoailaaaGreatDoorZP10
import Derived.Test.YthebdlkmoailaaaGreatDoorZL6
import Derived.Test.YthebdlkmoailaaaGreatDoorZL19
set_option linter.unusedVariables false
set_option linter.unusedSimpArgs false
namespace Go.Proofs.YthebdlkmoailaaaGreatDoor
open Go.RowKit Go.Gr Go.Maps
set_option linter.unusedSimpArgs false
set_option linter.unusedVariables false
theorem allO_tail {n f : Nat} {rs : List (List UInt8)} {t : List UInt8} (hn : n < 18446744073709551616) (hf : f < 18446744073709551616) (hr : ∀ r ∈ rs, r.length ≤ 1048576) (hd : DeadT t) : allO (fileB n f rs ++ t) 0 [] = (numsB [n, f] :: rs, (fileB n f rs).length) := by
  have h := allO_seals (numsB [n, f] :: rs) [] t [] (fun r h => by
    rcases List.mem_cons.1 h with rfl | h
    · have := numsB2_len hn hf; omega
    · exact hr r h) (fun b _ => hd b)
  simpa [fileB_seals] using h
theorem fileJ_tail {n f : Nat} {rs : List (List UInt8)} {t : List UInt8} (hn : n < 100) (hf : f + rs.length < 18446744073709551616) (hr : ∀ r ∈ rs, r.length ≤ 1048576) (ht : t ≠ []) (hd : DeadT t) : fileJ n (fileB n f rs ++ t) = (⟨n, f, f + rs.length, (fileB n f rs).length⟩, true, false) := by
  have hl : 0 < t.length := List.length_pos_iff.2 ht
  unfold fileJ
  rw [allO_tail (by omega) (by omega) hr hd]
  simp only [headN_file (show n < 18446744073709551616 by omega) (show f < 18446744073709551616 by omega)]
  simp
  exact ⟨by omega, ht⟩
/-- A drive that has no deeds that aren't safe. -/
def calmD (x : List DPair) (room : Int) : DDr := ⟨x, x, [], room, false, 0, false⟩
theorem GoodJ.good {pre : List UInt8} {seen : List DPair} {s f : Nat} {fs : List DFile} {rss : List (List (List UInt8))} (h : GoodJ pre seen s f fs rss) (hs : s + fs.length < 100) (hf : f + rss.flatten.length < 18446744073709551616) (hu : usedB seen ≤ 68719476736) : ChainRoom s f fs rss ∧ ∃ ns, JNames pre seen ns ∧ GoodFs pre seen ns fs :=
  (GoodJ.inv (D := calmD seen 0) (L := ⟨1, fs, true⟩) h rfl rfl).good hs hf hu
theorem ser_at {pre : List UInt8} {seen : List DPair} {s f : Nat} {fs : List DFile} {rss : List (List (List UInt8))} (h : ChainJ pre seen s f fs rss) {k : Nat} (hk : k < fs.length) : fs[k].serial = s + 1 + k := by
  have h1 := congrArg (fun l => l[k]?) h.serials
  simp only [List.getElem?_map, List.getElem?_range hk, List.getElem?_eq_getElem hk, Option.map_some, Option.some.injEq] at h1
  exact h1
theorem GoodJ.cut {pre : List UInt8} {seen x : List DPair} {s f : Nat} {fs : List DFile} {rss : List (List (List UInt8))} {t : List UInt8} (h : GoodJ pre seen s f fs rss) (hne : fs ≠ []) (hs : s + fs.length < 100) (hf : f + rss.flatten.length < 18446744073709551616) (ht : t ≠ []) (hd : DeadT t)
    (hx : x = putK DPair.key ⟨nameB pre (s + fs.length), dataB seen (nameB pre (s + fs.length)) ++ t⟩ seen) (hu : usedB x ≤ 68719476736) :
    (lastF fs).serial = s + fs.length ∧ (∃ ns, JNames pre x ns ∧ CutFs pre x ns fs) ∧ (lastF fs).size.toNat = (dataB seen (nameB pre (s + fs.length))).length := by
  rcases files_cases fs with h0 | ⟨i, F, h0⟩
  · exact absurd h0 hne
  subst h0
  rcases List.eq_nil_or_concat rss with rfl | ⟨js, r, rfl⟩
  · have := h.chain.len; simp at this
  rw [List.concat_eq_append] at *
  obtain ⟨c1, c2⟩ := ChainJ.snoc.1 h.chain
  have hln : (i ++ [F]).length = i.length + 1 := by simp
  have hser : F.serial = s + (i ++ [F]).length := by rw [c2.serial, hln]; omega
  have hfl : (js ++ [r]).flatten.length = js.flatten.length + r.length := by simp
  have hrise : Rising DPair.key x := by rw [hx]; exact h.rising.put
  have hdl : ∀ nm, (dataB x nm).length ≤ 68719476736 := fun nm => Nat.le_trans (dataB_le hrise nm) hu
  have hdF : dataB x (nameB pre F.serial) = fileB F.serial (f + js.flatten.length) r ++ t := by
    rw [hx, ← hser, dataB_put, if_pos rfl, c2.data]
  have huS : usedB seen ≤ 68719476736 := by
    have h1 : seen = putK DPair.key ⟨nameB pre (s + (i ++ [F]).length), dataB seen (nameB pre (s + (i ++ [F]).length))⟩ seen := (putK_same h.rising (by rw [← hser]; exact c2.there)).symm
    rw [h1]
    refine Nat.le_trans (usedB_le_put h.rising _ _ _ ?_) (by rw [← hx]; exact hu)
    simp
  obtain ⟨hr, ns0, hn0, hg0⟩ := h.good hs hf huS
  have hnm : NamesIn pre x s (i ++ [F]).length := fun k => by
    rw [hx, keys_put, h.names k]
    constructor
    · rintro (rfl | hk)
      · exact ⟨_, by omega, by omega, rfl⟩
      · exact hk
    · exact .inr
  obtain ⟨ns, hn1, hn2⟩ := names_of (rising_nodup hrise) hnm hs
  refine ⟨by rw [lastF_snoc, hser], ⟨ns, hn1, ⟨by rw [hn2, h.chain.serials], fun k hk => ?_, h.chain.joins, by omega, hne, fun k hk => ?_⟩⟩, by rw [lastF_snoc, c2.size, ← hser, c2.data]; simp⟩
  · have hgk := hg0.ok _ (List.getElem_mem hk)
    have hsk := ser_at h.chain hk
    by_cases hl : k + 1 < (i ++ [F]).length
    · have hnn : nameB pre (i ++ [F])[k].serial ≠ nameB pre (s + (i ++ [F]).length) := fun he => by
        have := nameB_inj (by omega) (by omega) he
        omega
      have e1 : dataB x (nameB pre (i ++ [F])[k].serial) = dataB seen (nameB pre (i ++ [F])[k].serial) := by rw [hx, dataB_put, if_neg hnn]
      have e2 : thereB x (nameB pre (i ++ [F])[k].serial) = thereB seen (nameB pre (i ++ [F])[k].serial) := by rw [hx, thereB_put, if_neg hnn]
      rw [e1, e2, decide_eq_true hl]
      exact hgk
    · have hFk : (i ++ [F])[k] = F := by
        rw [List.getElem_append_right (by omega)]
        simp
      rw [hFk] at hgk ⊢
      refine ⟨hgk.1, hgk.2.1, by rw [hx, thereB_put, if_pos (by rw [hser])], hdl _, ?_⟩
      rw [hdF, fileJ_tail hgk.2.1 (by omega) c2.recs ht hd, decide_eq_false hl]
      have e1 := c2.from_
      have e2 := c2.to_
      have e3 := c2.size
      obtain ⟨q1, q2, q3, q4⟩ := F
      simp only at e1 e2 e3
      subst e1 e2 e3
      rfl
  · have hgk := hg0.ok _ (List.getElem_mem hk)
    obtain ⟨i2, g2, rs2, _, _, _, h6⟩ := h.chain.mem (List.getElem_mem hk)
    refine ⟨by rw [h6.size]; omega, ?_⟩
    rw [h6.size, Int.toNat_natCast, ← h6.data, hx, dataB_put]
    split
    · rename_i he
      rw [he]
      simp
    · exact Nat.le_refl _
theorem GoodJ.few {pre : List UInt8} {seen : List DPair} {s f : Nat} {fs : List DFile} {rss : List (List (List UInt8))} (h : GoodJ pre seen s f fs rss) (hs : s + fs.length < 100) : seen.length = fs.length := by
  obtain ⟨ns, h1, h2⟩ := names_of (rising_nodup h.rising) h.names hs
  have e1 : seen.length = ns.length := by have := congrArg List.length h1.1; simpa using this
  have e2 : (sortN ns).length = fs.length := by rw [h2]; simp
  rw [e1, ← e2]
  exact (sortN_len ns).symm
end Go.Proofs.YthebdlkmoailaaaGreatDoor

namespace Go.Proofs.YthebdlkmoailaaaGreatDoor
open Go.RowKit Go.Gr Go.Maps
open Go.Proofs (encStr)
set_option linter.unusedSimpArgs false
set_option linter.unusedVariables false
end Go.Proofs.YthebdlkmoailaaaGreatDoor

namespace Go.Proofs.YthebdlkmoailaaaGreatDoor
open Go.RowKit Go.Gr Go.Maps
open Go.Proofs (encStr)
set_option linter.unusedSimpArgs false
set_option linter.unusedVariables false
/-- What an act turns. -/
structure CGo (w w' : World) (M M' : Nat → Prop) : Prop where
  turn : Turn M w w'
  less : ∀ c, c < w.heap.size → M' c → M c
theorem JGo.cgo {w w' : World} {M M' : Nat → Prop} {b l : Nat} {sf sn g sf' sn' g' : Option Nat} {pre : List UInt8} {D : DDr} {L : DLog} (h : JGo b l w M sf sn g w' M' sf' sn' g') (hD : DriveAt w M b sf sn D) (hL : LogAt w M l b g pre L) : CGo w w' M M' :=
  ⟨h.turn.mono fun c hc hx => hx.elim (fun h => by omega) (fun hx => by
    rcases hx with hx | rfl | hx
    · exact hD.own c hx
    · exact hL.own
    · exact (hL.gown c hx).1), h.less⟩
end Go.Proofs.YthebdlkmoailaaaGreatDoor

namespace Go.Proofs.YthebdlkmoailaaaGreatDoor
open Go.RowKit Go.Gr Go.Maps
open Go.Proofs (encStr)
set_option linter.unusedSimpArgs false
set_option linter.unusedVariables false
theorem CGo.keep {α : Type} {E : Ty α} {w w' : World} {M M' : Nat → Prop} {cs : List Value} {x : α} (h : CGo w w' M M') (hr : E.rep w M cs x) : E.rep w' M' cs x :=
  E.keep hr (fun c hc hm => ⟨h.turn.block c hc hm, fun hx => hm (h.less c hc hx)⟩)
theorem CGo.fresh {w w' : World} {M M' : Nat → Prop} {k : Nat} (h : CGo w w' M M') (hf : ∀ c, M c → k ≤ c) (hk : k ≤ w.heap.size) : ∀ c, M' c → k ≤ c := fun c hc => by
  rcases Nat.lt_or_ge c w.heap.size with h1 | h1
  · exact hf c (h.less c h1 hc)
  · omega
theorem CGo.step {w0 w w' : World} {M M' : Nat → Prop} (h : CGo w w' M M') (hs : Step w0 w) (hf : ∀ c, M c → w0.heap.size ≤ c) : Step w0 w' := Turn.step hs h.turn hf
section
variable {pre : List UInt8} {w : World} {M : Nat → Prop} {b l : Nat} {D : DDr} {L : DLog} {s f : Nat} {rss : List (List (List UInt8))} {q U C : Nat} {P : Nat → List (List UInt8) → Prop}
end
end Go.Proofs.YthebdlkmoailaaaGreatDoor

namespace Go.Proofs.YthebdlkmoailaaaGreatDoor
open Go.RowKit Go.Gr Go.Maps
open Go.Proofs (encStr)
set_option linter.unusedSimpArgs false
set_option linter.unusedVariables false
theorem flushD_ok {D : DDr} (h1 : D.dead = false) (h2 : D.armed = false) : flushD D = ({ D with safe := D.seen, queue := [] }, 0) := by
  obtain ⟨a1, a2, a3, a4, a5, a6, a7⟩ := D
  simp only at h1 h2
  subst h1 h2
  rfl
theorem removeD_ok {D : DDr} {nm : List UInt8} (h1 : D.dead = false) (h2 : D.armed = false) (h : thereB D.seen nm = true) : removeD D nm = ({ D with seen := dropK DPair.key nm D.seen, queue := D.queue ++ [.rm nm] }, 0) := by
  obtain ⟨a1, a2, a3, a4, a5, a6, a7⟩ := D
  simp only at h1 h2 h
  subst h1 h2
  have hn : noneB a2 nm = 0 := if_pos h
  unfold removeD
  simp only [hn]
  rfl
end Go.Proofs.YthebdlkmoailaaaGreatDoor

namespace Go.Proofs.YthebdlkmoailaaaGreatDoor
open Go.RowKit Go.Gr Go.Maps
open Go.Proofs (encStr)
set_option linter.unusedSimpArgs false
set_option linter.unusedVariables false
/-- From w to w' what is M's has turned, but not xb. -/
structure XGo (w w' : World) (M M' : Nat → Prop) (xb : Nat) : Prop where
  turn : Turn (fun c => M c ∧ c ≠ xb) w w'
  less : ∀ c, c < w.heap.size → M' c → M c
theorem XGo.cgo {w w' : World} {M M' : Nat → Prop} {xb : Nat} (h : XGo w w' M M' xb) : CGo w w' M M' := ⟨h.turn.mono fun c _ hx => hx.1, h.less⟩
theorem JGo.xgo {b l xb : Nat} {w w' : World} {M M' : Nat → Prop} {sf sn g sf' sn' g' : Option Nat} {pre : List UInt8} {D : DDr} {L : DLog} (h : JGo b l w M sf sn g w' M' sf' sn' g') (hD : DriveAt w M b sf sn D) (hL : LogAt w M l b g pre L) (hx : M xb) (hn : ¬ JM b sf sn l g xb) : XGo w w' M M' xb ∧ M' xb ∧ ¬ JM b sf' sn' l g' xb :=
  ⟨⟨h.turn.mono fun c hc hm => hm.elim (fun h => by omega) (fun hm => ⟨by
    rcases hm with hm | rfl | hm
    · exact hD.own c hm
    · exact hL.own
    · exact (hL.gown c hm).1, fun e => hn (e ▸ hm)⟩), h.less⟩, h.more xb hx, fun hm => hn (h.own xb (hD.old xb hx) hm)⟩
theorem DGo.xgo {b xb : Nat} {w w' : World} {M M' : Nat → Prop} {sf sn sf' sn' : Option Nat} {D : DDr} (h : DGo b w M sf sn w' M' sf' sn') (hD : DriveAt w M b sf sn D) (hx : M xb) (hn : ¬ DM b sf sn xb) : XGo w w' M M' xb ∧ M' xb ∧ ¬ DM b sf' sn' xb :=
  ⟨⟨h.turn.mono fun c hc hm => hm.elim (fun h => by omega) (fun hm => ⟨hD.own c hm, fun e => hn (e ▸ hm)⟩), h.less⟩, h.more xb hx, fun hm => hn (h.own xb (hD.old xb hx) hm)⟩
section
variable {pre : List UInt8} {w : World} {M : Nat → Prop} {xb b l : Nat} {D : DDr} {L : DLog} {s f : Nat} {rss : List (List (List UInt8))} {q U C : Nat} {P : Nat → List (List UInt8) → Prop}
end
end Go.Proofs.YthebdlkmoailaaaGreatDoor

namespace Go.Proofs.YthebdlkmoailaaaGreatDoor
open Go.RowKit Go.Gr Go.Maps
set_option linter.unusedSimpArgs false
set_option linter.unusedVariables false
/-- Where the k-th span must begin. -/
def spanAt (f : Nat) (fs : List DFile) (k : Nat) : Nat := match k with
  | 0 => f
  | k + 1 => (fs.getD k DFile.none).to_
theorem ChainJ.spans {pre : List UInt8} {seen : List DPair} {s f : Nat} {fs : List DFile} {rss : List (List (List UInt8))} (h : ChainJ pre seen s f fs rss) {k : Nat} (hk : k < fs.length) : fs[k].from_ = spanAt f fs k ∧ fs[k].from_ ≤ fs[k].to_ ∧ spanAt f fs (k + 1) = fs[k].to_ := by
  refine ⟨?_, ?_, ?_⟩
  · rcases k with _ | k
    · rcases fs with _ | ⟨F, fs⟩
      · simp at hk
      · rcases rss with _ | ⟨r, rss⟩
        · exact h.elim
        · exact h.1.from_
    · rw [(h.joins k hk).2]
      unfold spanAt
      simp only [List.getD_eq_getElem?_getD, List.getElem?_eq_getElem (show k < fs.length by omega), Option.getD_some]
  · obtain ⟨i, g, rs, _, _, _, h6⟩ := h.mem (List.getElem_mem hk)
    rw [h6.from_, h6.to_]
    exact Nat.le_add_right _ _
  · unfold spanAt
    simp only [List.getD_eq_getElem?_getD, List.getElem?_eq_getElem hk, Option.getD_some]
end Go.Proofs.YthebdlkmoailaaaGreatDoor

namespace Go.Proofs.YthebdlkmoailaaaGreatDoor
open Go.RowKit Go.Gr Go.Maps
open Go.Proofs (encStr)
set_option linter.unusedSimpArgs false
set_option linter.unusedVariables false
section
variable {w0 w : World} {M : Nat → Prop} {b l : Nat} {D : DDr} {L : DLog} {s f : Nat} {rss : List (List (List UInt8))} {k : Nat} {rv : Value} {acs : List DAct}
end
theorem smallB_mem {acts : List DAct} {n : Nat} {x : DAct} (h : x ∈ smallB acts n) : (∀ r ∈ x.records, r.length ≤ 600) ∧ x.records.length ≤ 10 := by
  unfold smallB at h
  obtain ⟨y, _, rfl⟩ := List.mem_map.1 h
  show (∀ r ∈ shortB y.records, _) ∧ (shortB y.records).length ≤ 10
  unfold shortB
  refine ⟨fun r hr => ?_, by rw [List.length_map, List.length_take]; omega⟩
  obtain ⟨z, _, rfl⟩ := List.mem_map.1 hr
  rw [List.length_take]
  omega
end Go.Proofs.YthebdlkmoailaaaGreatDoor
