/-
  Plain words: what Open makes of a drive behind a crash.
  Walk: Begin.
  A journal upon a drive that may crash: what appends, Close, Crash and Open make of it.
  What a journal upon a drive that may crash answers; what stays beside it.
  Close and Drop of a journal upon a drive that may crash.
  A journal upon a drive that may die at any deed: what Append, Flush, Close and Drop make of it.
  Walk: Open upon a drive that may die.
  Open, cut at some deed: what lies there is a journal's still.
  Plain words for JournalSpans: a session's bounds are widened; spans join on.
  What JournalCrashes knows of its run; a journal that is only looked at.
  What a round of JournalSpans knows of its journal; what each act makes of it.
-/
import Derived.Test.YthebdlkmoailaaaGreatDoorZP11
import Derived.Test.YthebdlkmoailaaaGreatDoorZP12
import Derived.Test.YthebdlkmoailaaaGreatDoorZP10
import Derived.Test.YthebdlkmoailaaaGreatDoorZL6
import Derived.Test.YthebdlkmoailaaaGreatDoorZQ2
import Derived.Test.YthebdlkmoailaaaGreatDoorZL19
set_option linter.unusedVariables false
set_option linter.unusedSimpArgs false
namespace Go.Proofs.YthebdlkmoailaaaGreatDoor
open Go.RowKit Go.Gr Go.Maps
set_option linter.unusedSimpArgs false
set_option linter.unusedVariables false
theorem allO_tail {n f : Nat} {rs : List (List UInt8)} {t : List UInt8} (hn : n < 18446744073709551616) (hf : f < 18446744073709551616) (hr : ∀ r ∈ rs, r.length ≤ 1048576) (hd : DeadT t) : allO (fileB n f rs ++ t) 0 [] = (numsB [n, f] :: rs, (fileB n f rs).length) := by
  have h := allO_seals (numsB [n, f] :: rs) [] t [] (fun r h => by
    rcases List.mem_cons.1 h with rfl | h
    · have := numsB2_len hn hf; omega
    · exact hr r h) (fun b _ => hd b)
  simpa [fileB_seals] using h
theorem fileJ_tail {n f : Nat} {rs : List (List UInt8)} {t : List UInt8} (hn : n < 100) (hf : f + rs.length < 18446744073709551616) (hr : ∀ r ∈ rs, r.length ≤ 1048576) (ht : t ≠ []) (hd : DeadT t) : fileJ n (fileB n f rs ++ t) = (⟨n, f, f + rs.length, (fileB n f rs).length⟩, true, false) := by
  have hl : 0 < t.length := List.length_pos_iff.2 ht
  unfold fileJ
  rw [allO_tail (by omega) (by omega) hr hd]
  simp only [headN_file (show n < 18446744073709551616 by omega) (show f < 18446744073709551616 by omega)]
  simp
  exact ⟨by omega, ht⟩
theorem fileJ_dead {n : Nat} {t : List UInt8} (hd : DeadT t) : fileJ n t = (DFile.none, false, false) := by
  have h := hd []
  rw [List.nil_append, List.length_nil] at h
  unfold fileJ
  rw [allO_end h]
/-- A drive that has no deeds that aren't safe. -/
def calmD (x : List DPair) (room : Int) : DDr := ⟨x, x, [], room, false, 0, false⟩
theorem GoodJ.good {pre : List UInt8} {seen : List DPair} {s f : Nat} {fs : List DFile} {rss : List (List (List UInt8))} (h : GoodJ pre seen s f fs rss) (hs : s + fs.length < 100) (hf : f + rss.flatten.length < 18446744073709551616) (hu : usedB seen ≤ 68719476736) : ChainRoom s f fs rss ∧ ∃ ns, JNames pre seen ns ∧ GoodFs pre seen ns fs :=
  (GoodJ.inv (D := calmD seen 0) (L := ⟨1, fs, true⟩) h rfl rfl).good hs hf hu
theorem ser_at {pre : List UInt8} {seen : List DPair} {s f : Nat} {fs : List DFile} {rss : List (List (List UInt8))} (h : ChainJ pre seen s f fs rss) {k : Nat} (hk : k < fs.length) : fs[k].serial = s + 1 + k := by
  have h1 := congrArg (fun l => l[k]?) h.serials
  simp only [List.getElem?_map, List.getElem?_range hk, List.getElem?_eq_getElem hk, Option.map_some, Option.some.injEq] at h1
  exact h1
theorem GoodJ.cut {pre : List UInt8} {seen x : List DPair} {s f : Nat} {fs : List DFile} {rss : List (List (List UInt8))} {t : List UInt8} (h : GoodJ pre seen s f fs rss) (hne : fs ≠ []) (hs : s + fs.length < 100) (hf : f + rss.flatten.length < 18446744073709551616) (ht : t ≠ []) (hd : DeadT t)
    (hx : x = putK DPair.key ⟨nameB pre (s + fs.length), dataB seen (nameB pre (s + fs.length)) ++ t⟩ seen) (hu : usedB x ≤ 68719476736) :
    (lastF fs).serial = s + fs.length ∧ (∃ ns, JNames pre x ns ∧ CutFs pre x ns fs) ∧ (lastF fs).size.toNat = (dataB seen (nameB pre (s + fs.length))).length := by
  rcases files_cases fs with h0 | ⟨i, F, h0⟩
  · exact absurd h0 hne
  subst h0
  rcases List.eq_nil_or_concat rss with rfl | ⟨js, r, rfl⟩
  · have := h.chain.len; simp at this
  rw [List.concat_eq_append] at *
  obtain ⟨c1, c2⟩ := ChainJ.snoc.1 h.chain
  have hln : (i ++ [F]).length = i.length + 1 := by simp
  have hser : F.serial = s + (i ++ [F]).length := by rw [c2.serial, hln]; omega
  have hfl : (js ++ [r]).flatten.length = js.flatten.length + r.length := by simp
  have hrise : Rising DPair.key x := by rw [hx]; exact h.rising.put
  have hdl : ∀ nm, (dataB x nm).length ≤ 68719476736 := fun nm => Nat.le_trans (dataB_le hrise nm) hu
  have hdF : dataB x (nameB pre F.serial) = fileB F.serial (f + js.flatten.length) r ++ t := by
    rw [hx, ← hser, dataB_put, if_pos rfl, c2.data]
  have huS : usedB seen ≤ 68719476736 := by
    have h1 : seen = putK DPair.key ⟨nameB pre (s + (i ++ [F]).length), dataB seen (nameB pre (s + (i ++ [F]).length))⟩ seen := (putK_same h.rising (by rw [← hser]; exact c2.there)).symm
    rw [h1]
    refine Nat.le_trans (usedB_le_put h.rising _ _ _ ?_) (by rw [← hx]; exact hu)
    simp
  obtain ⟨hr, ns0, hn0, hg0⟩ := h.good hs hf huS
  have hnm : NamesIn pre x s (i ++ [F]).length := fun k => by
    rw [hx, keys_put, h.names k]
    constructor
    · rintro (rfl | hk)
      · exact ⟨_, by omega, by omega, rfl⟩
      · exact hk
    · exact .inr
  obtain ⟨ns, hn1, hn2⟩ := names_of (rising_nodup hrise) hnm hs
  refine ⟨by rw [lastF_snoc, hser], ⟨ns, hn1, ⟨by rw [hn2, h.chain.serials], fun k hk => ?_, h.chain.joins, by omega, hne, fun k hk => ?_⟩⟩, by rw [lastF_snoc, c2.size, ← hser, c2.data]; simp⟩
  · have hgk := hg0.ok _ (List.getElem_mem hk)
    have hsk := ser_at h.chain hk
    by_cases hl : k + 1 < (i ++ [F]).length
    · have hnn : nameB pre (i ++ [F])[k].serial ≠ nameB pre (s + (i ++ [F]).length) := fun he => by
        have := nameB_inj (by omega) (by omega) he
        omega
      have e1 : dataB x (nameB pre (i ++ [F])[k].serial) = dataB seen (nameB pre (i ++ [F])[k].serial) := by rw [hx, dataB_put, if_neg hnn]
      have e2 : thereB x (nameB pre (i ++ [F])[k].serial) = thereB seen (nameB pre (i ++ [F])[k].serial) := by rw [hx, thereB_put, if_neg hnn]
      rw [e1, e2, decide_eq_true hl]
      exact hgk
    · have hFk : (i ++ [F])[k] = F := by
        rw [List.getElem_append_right (by omega)]
        simp
      rw [hFk] at hgk ⊢
      refine ⟨hgk.1, hgk.2.1, by rw [hx, thereB_put, if_pos (by rw [hser])], hdl _, ?_⟩
      rw [hdF, fileJ_tail hgk.2.1 (by omega) c2.recs ht hd, decide_eq_false hl]
      have e1 := c2.from_
      have e2 := c2.to_
      have e3 := c2.size
      obtain ⟨q1, q2, q3, q4⟩ := F
      simp only at e1 e2 e3
      subst e1 e2 e3
      rfl
  · have hgk := hg0.ok _ (List.getElem_mem hk)
    obtain ⟨i2, g2, rs2, _, _, _, h6⟩ := h.chain.mem (List.getElem_mem hk)
    refine ⟨by rw [h6.size]; omega, ?_⟩
    rw [h6.size, Int.toNat_natCast, ← h6.data, hx, dataB_put]
    split
    · rename_i he
      rw [he]
      simp
    · exact Nat.le_refl _
theorem GoodJ.bad {pre : List UInt8} {seen x : List DPair} {s f : Nat} {fs : List DFile} {rss : List (List (List UInt8))} {t : List UInt8} (h : GoodJ pre seen s f fs rss) (hs : s + fs.length + 1 < 100) (hf : f + rss.flatten.length < 18446744073709551616) (hd : DeadT t)
    (hnew : nameB pre (s + fs.length + 1) ∉ seen.map DPair.key) (hx : x = putK DPair.key ⟨nameB pre (s + fs.length + 1), t⟩ seen) (hu : usedB x ≤ 68719476736) (huS : usedB seen ≤ 68719476736) :
    ∃ ns, JNames pre x ns ∧ BadFs pre x ns fs (s + fs.length + 1) := by
  have hrise : Rising DPair.key x := by rw [hx]; exact h.rising.put
  obtain ⟨hr, ns0, hn0, hg0⟩ := h.good (by omega) hf huS
  have hnm : NamesIn pre x s (fs.length + 1) := fun k => by
    rw [hx, keys_put, h.names k]
    constructor
    · rintro (rfl | ⟨n, h1, h2, rfl⟩)
      · exact ⟨_, by omega, by omega, rfl⟩
      · exact ⟨n, h1, by omega, rfl⟩
    · rintro ⟨n, h1, h2, rfl⟩
      by_cases hn : n = s + fs.length + 1
      · subst hn; exact .inl rfl
      · exact .inr ⟨n, h1, by omega, rfl⟩
  obtain ⟨ns, hn1, hn2⟩ := names_of (rising_nodup hrise) hnm (by omega)
  refine ⟨ns, hn1, ⟨?_, fun F hF => ?_, h.chain.joins, by omega, ?_⟩⟩
  · rw [hn2, h.chain.serials, List.range_succ, List.map_append]
    simp only [List.map_cons, List.map_nil]
    rw [show s + 1 + fs.length = s + fs.length + 1 by omega]
  · obtain ⟨k, hk, rfl⟩ := List.getElem_of_mem hF
    have hgk := hg0.ok _ (List.getElem_mem hk)
    have hsk := ser_at h.chain hk
    have hnn : nameB pre fs[k].serial ≠ nameB pre (s + fs.length + 1) := fun he => by
      have := nameB_inj (by omega) (by omega) he
      omega
    rw [hx, dataB_put, if_neg hnn, thereB_put, if_neg hnn]
    exact hgk
  · refine ⟨by omega, by rw [hx, thereB_put, if_pos rfl], Nat.le_trans (dataB_le hrise _) hu, ?_⟩
    rw [hx, dataB_put, if_pos rfl]
    exact fileJ_dead hd
theorem GoodJ.few {pre : List UInt8} {seen : List DPair} {s f : Nat} {fs : List DFile} {rss : List (List (List UInt8))} (h : GoodJ pre seen s f fs rss) (hs : s + fs.length < 100) : seen.length = fs.length := by
  obtain ⟨ns, h1, h2⟩ := names_of (rising_nodup h.rising) h.names hs
  have e1 : seen.length = ns.length := by have := congrArg List.length h1.1; simpa using this
  have e2 : (sortN ns).length = fs.length := by rw [h2]; simp
  rw [e1, ← e2]
  exact (sortN_len ns).symm
theorem flush_calm {x s : List DPair} {q : List DDeed} {room : Int} : flushD ⟨x, s, q, room, false, 0, false⟩ = (calmD s room, 0) := rfl
theorem trim_calm {x : List DPair} {room : Int} {nm : List UInt8} {z : Nat} (h : thereB x nm = true) : trimD (calmD x room) nm z = (⟨x, putK DPair.key ⟨nm, (dataB x nm).take z⟩ x, [.tr nm z], room, false, 0, false⟩, 0) := by
  have hn : noneB (calmD x room).seen nm = 0 := if_pos h
  unfold trimD
  rw [hn]
  rfl
theorem remove_calm {x : List DPair} {room : Int} {nm : List UInt8} (h : thereB x nm = true) : removeD (calmD x room) nm = (⟨x, dropK DPair.key nm x, [.rm nm], room, false, 0, false⟩, 0) := by
  have hn : noneB (calmD x room).seen nm = 0 := if_pos h
  unfold removeD
  rw [hn]
  rfl
/-- Open behind a crash: the journal has a good core of what lies there. -/
theorem jOpenC_ {w : World} {M : Nat → Prop} {b q U : Nat} {sf sn : Option Nat} {x : List DPair} {room : Int} {pre : List UInt8} {most : Int} {P : Nat → List (List UInt8) → Prop} (h : DriveAt w M b sf sn (calmD x room)) (hm : I64 most) (hp : pre.length ≤ 998) (hst : StJ pre q U P x) (hq : q < 99) (hU : U ≤ 68719476736) (hP : ∀ f rs, P f rs → f + rs.length < 18446744073709551616) :
    Calls Tryz.prog 12 #[.pointer (some ⟨b, 0, none⟩), encStr pre, .int .i64 most] w fun e w' => ∃ l, e = .returned (.tuple #[.pointer (some ⟨l, 0, none⟩), .int .i64 0]) ∧ ∃ seen s f fs rss, GoodJ pre seen s f fs rss ∧ s + fs.length ≤ q ∧ usedB seen ≤ U ∧ P f rss.flatten ∧ OpenedAt w w' M b sf sn pre (calmD seen room) ⟨max 1 most, fs, true⟩ l := by
  obtain ⟨seen, s, f, fs, rss, hg, hsq, hux, hPf, hc⟩ := hst
  have hf := hP _ _ hPf
  have hsl := hg.few (by omega)
  have hI : I64 (max 1 most) := by unfold I64 at hm ⊢; omega
  rcases hc with rfl | ⟨hne, t, ht, hthere, hx, hd⟩ | ⟨hs1, t, hnew, hx, hd⟩
  · obtain ⟨_, ns, hn, hG⟩ := hg.good (by omega) hf (by omega)
    refine (jOpenG_ h rfl hm (LoadsTo.good (D := calmD x room) rfl hp hn hG) (fun hlt => absurd hlt (Nat.lt_irrefl _))).mono ?_
    rintro e w' ⟨l, rfl, ho⟩
    rw [if_neg (Nat.lt_irrefl _)] at ho
    exact ⟨l, rfl, x, s, f, fs, rss, hg, hsq, hux, hPf, ho⟩
  · have hl : x.length ≤ 100 := by
      rw [hx]
      exact Nat.le_trans putK_length (by omega)
    obtain ⟨e1, ⟨ns, hn, hG⟩, e2⟩ := hg.cut hne (by omega) hf ht hd hx (by omega)
    have hth : thereB x (nameB pre (s + fs.length)) = true := by rw [hx, thereB_put, if_pos rfl]
    have hdx : (dataB x (nameB pre (s + fs.length))).take (lastF fs).size.toNat = dataB seen (nameB pre (s + fs.length)) := by
      rw [hx, dataB_put, if_pos rfl, e2, List.take_left']
      rfl
    have hT := trim_calm (room := room) (z := (lastF fs).size.toNat) hth
    rw [hdx] at hT
    have hback : putK DPair.key ⟨nameB pre (s + fs.length), dataB seen (nameB pre (s + fs.length))⟩ x = seen := by rw [hx, putK_twice hg.rising, putK_same hg.rising hthere]
    rw [hback] at hT
    have hus : usedB seen ≤ U := by
      refine Nat.le_trans ?_ hux
      rw [hx]
      conv => lhs; rw [← putK_same hg.rising hthere]
      exact usedB_le_put hg.rising _ _ _ (by simp)
    have hLD : LoadsTo pre (max 1 most) b sf sn (calmD x room) fs (trimD (calmD x room) (nameB pre (s + fs.length)) (lastF fs).size.toNat).1 := fun W M0 l hD hM hlb hL => by
      have := jLoadT_ hD hM hlb rfl hL hp hn hG (by show x.length + 0 < 1000000; omega)
      rw [e1, hT] at this
      rw [hT]
      exact this
    rw [hT] at hLD
    refine (jOpenG_ h rfl hm hLD (fun _ => by rw [flush_calm])).mono ?_
    rintro e w' ⟨l, rfl, ho⟩
    exact ⟨l, rfl, seen, s, f, fs, rss, hg, hsq, hus, hPf, ho⟩
  · have hl : x.length ≤ 100 := by
      rw [hx]
      exact Nat.le_trans putK_length (by omega)
    have hus : usedB seen ≤ U := by
      refine Nat.le_trans ?_ hux
      have hu := usedB_put (k := nameB pre (s + fs.length + 1)) (d := t) hg.rising
      rw [dataB_no hnew, List.nil_append] at hu
      rw [hx, hu]
      exact Nat.le_add_right _ _
    obtain ⟨ns, hn, hG⟩ := hg.bad (by omega) hf hd hnew hx (by omega) (by omega)
    have hth : thereB x (nameB pre (s + fs.length + 1)) = true := by rw [hx, thereB_put, if_pos rfl]
    have hT := remove_calm (room := room) hth
    have hback : dropK DPair.key (nameB pre (s + fs.length + 1)) x = seen := by rw [hx, dropK_put hg.rising hnew]
    rw [hback] at hT
    have hR : removeJ pre (calmD x room) [s + fs.length + 1] = (⟨x, seen, [.rm (nameB pre (s + fs.length + 1))], room, false, 0, false⟩, 0) := by
      unfold removeJ
      rw [hT]
      rfl
    have hLD : LoadsTo pre (max 1 most) b sf sn (calmD x room) fs (removeJ pre (calmD x room) [s + fs.length + 1]).1 := fun W M0 l hD hM hlb hL => by
      have := jLoadR_ hD hM hlb rfl hL hp hn hG (by show x.length + 0 + 1 < 1000000; omega)
      rw [hR] at this
      rw [hR]
      exact this
    rw [hR] at hLD
    refine (jOpenG_ h rfl hm hLD (fun _ => by rw [flush_calm])).mono ?_
    rintro e w' ⟨l, rfl, ho⟩
    exact ⟨l, rfl, seen, s, f, fs, rss, hg, hsq, hus, hPf, ho⟩
end Go.Proofs.YthebdlkmoailaaaGreatDoor

namespace Go.Proofs.YthebdlkmoailaaaGreatDoor
open Go.RowKit Go.Gr Go.Maps
open Go.Proofs (encStr)
set_option linter.unusedSimpArgs false
set_option linter.unusedVariables false
/-- A journal takes another row of files, of a fresh block. -/
theorem log_row {w w' : World} {M : Nat → Prop} {b l : Nat} {sf sn : Option Nat} {D : DDr} {pre : List UInt8} {L : DLog} {v : Value} {fs : List DFile} (hD : DriveAt w M b sf sn D) (hL : LogAt w M l b none pre L) (T : Turn (fun c => c = l) w w') (hlg : LgAt w' l b pre L.most v L.closed) (hfr : FRow w' v fs) (hbk : ∀ c, blkOf v = some c → w.heap.size ≤ c) :
    ∃ M', DriveAt w' M' b sf sn D ∧ LogAt w' M' l b (blkOf v) pre { L with files := fs } ∧ (∀ c, M c → M' c) ∧ ∀ c, c < w.heap.size → M' c → M c := by
  obtain ⟨fv, h1, _, _⟩ := hL.row
  have hl := hD.notDM (l := l) h1 hL.ne
  have hless : ∀ c, c < w.heap.size → (M c ∨ blkOf v = some c) → M c := fun c hc h => h.elim id (fun e => by have := hbk c e; omega)
  refine ⟨fun c => M c ∨ blkOf v = some c, hD.beside T (fun c hc hx => by rw [hx]; exact ⟨hL.own, hl⟩) (fun c h => .inl h) hless (fun c hc => hc.elim (fun h => Nat.lt_of_lt_of_le (hD.old c h) T.size) (fun e => hfr.lt e)), ⟨⟨v, hlg, hfr, rfl⟩, .inl hL.own, fun c hc => ⟨.inr hc, ?_, ?_⟩, hL.ne, hL.most⟩, fun c h => .inl h, hless⟩
  · have := hbk c hc; have := h1.lt; omega
  · have := hbk c hc; have := hD.lt (.inl rfl : DM b sf sn b); omega
/-- A fresh journal without files upon a drive: the drive's blocks are one more. -/
theorem log_fresh {w W : World} {M : Nat → Prop} {b l : Nat} {sf sn : Option Nat} {D : DDr} {pre : List UInt8} {mm : Int} (h : DriveAt w M b sf sn D) (hW : Step w W) (hl : w.heap.size ≤ l) (hL : LgAt W l b pre mm (.slice none 0 0) true) (hm : I64 mm) :
    DriveAt W (fun c => M c ∨ c = l) b sf sn D ∧ LogAt W (fun c => M c ∨ c = l) l b none pre ⟨mm, [], true⟩ := by
  have hbw : b < w.heap.size := h.lt (.inl rfl)
  exact ⟨h.keep (fun c hc => ⟨hW.heap (h.lt hc), .inl (h.own c hc)⟩) (fun c hc hn => ⟨hW.heap hc, fun hx => hx.elim hn (fun e => by omega)⟩) (fun c hc => hc.elim (fun hc => Nat.lt_of_lt_of_le (h.old c hc) hW.size) (fun e => by rw [e]; exact hL.lt)), ⟨⟨_, hL, FRow.nil _, rfl⟩, .inr rfl, fun c hc => (by cases hc), (by omega), hm⟩⟩
theorem append_calm {room : Int} {nm d : List UInt8} (h : (d.length : Int) ≤ room) : appendD (calmD [] room) nm d = (⟨[], putK DPair.key ⟨nm, writeB [] 0 (d.take (d.length + 1 - 1))⟩ [], [.wr nm 0 d], room, false, 0, false⟩, 0) := by
  unfold appendD
  rw [if_neg (by show ¬ (room - ((usedB [] : Nat) : Int) < _); have : usedB [] = 0 := rfl; omega)]
  rfl
set_option maxRecDepth 100000 in
set_option maxHeartbeats 8000000 in
theorem jBegin_ {w : World} {M : Nat → Prop} {b at_ : Nat} {sf sn : Option Nat} {room : Int} {pre : List UInt8} {most : Int} (h : DriveAt w M b sf sn (calmD [] room)) (hr0 : 1000 ≤ room) (hr1 : room ≤ 1048576) (hm : I64 most) (hp : pre.length ≤ 998) (hat : at_ < 18446744073709551616) :
    Calls Tryz.prog 42 #[.pointer (some ⟨b, 0, none⟩), encStr pre, .int .i64 most, .int .u64 (at_ : Int)] w fun e w' => ∃ l, e = .returned (.tuple #[.pointer (some ⟨l, 0, none⟩), .int .i64 0]) ∧ OpenedAt w w' M b sf sn pre (calmD [⟨nameB pre 1, headB 1 at_⟩] room) ⟨max 1 most, [⟨1, at_, at_, ((headB 1 at_).length : Int)⟩], true⟩ l := by
  obtain ⟨queue, hr, hq⟩ := h.row
  have HDEAD : Hid (∀ W : World, Step w W → Calls Tryz.prog 45 #[.pointer (some ⟨b, 0, none⟩)] W fun e w' => e = .returned (.bool false) ∧ w' = W) := Lib.hid (fun W hW => by
    obtain ⟨qa, qc, rfl, _, _, hql⟩ := Ty.slice_val hq
    exact dDead_ (CellsAt.step hr hW))
  obtain ⟨mm, hmm⟩ : ∃ mm, mm = max 1 most := ⟨_, rfl⟩
  have hmI : I64 mm := by rw [hmm]; unfold I64 at hm ⊢; omega
  have hbw : b < w.heap.size := h.lt (.inl rfl)
  have hln := nameB_len pre 1
  have hdl : (headB 1 at_).length ≤ 100 := by
    have := numsB2_len (show 1 < 18446744073709551616 by omega) hat
    unfold headB
    rw [sealB_len]
    omega
  have HSER : Hid (∀ (W : World) (l : Nat), Step w W → w.heap.size ≤ l → LgAt W l b pre mm (.slice none 0 0) true → Calls Tryz.prog 74 #[.pointer (some ⟨l, 0, none⟩)] W fun e w' => ∃ v, e = .returned v ∧ Gr.Own Ty.u64 32 w' (fun _ => False) W.heap.size v [] ∧ Step W w') := Lib.hid (fun W l hW hl hL => by
    have hs := jSerials_ (ns := []) (log_fresh h hW hl hL hmI).1 rfl hL hp ⟨rfl, by simp⟩
    rw [show sortN [] = [] by simp [sortN]] at hs
    exact hs)
  have HAP : Hid (∀ (W : World) (l : Nat) (dv : Value) (M2 : Nat → Prop), Step w W → w.heap.size ≤ l → LgAt W l b pre mm (.slice none 0 0) true → Ty.bytes.rep W M2 [dv] (headB 1 at_) → Calls Tryz.prog 27 #[.pointer (some ⟨b, 0, none⟩), encStr (nameB pre 1), dv] W fun y w' => y = .returned (.int .i64 0) ∧ ∃ M1 sf1 sn1, DriveAt w' M1 b sf1 sn1 (appendD (calmD [] room) (nameB pre 1) (headB 1 at_)).1 ∧ LogAt w' M1 l b none pre ⟨mm, [], true⟩ ∧ DGo b W (fun c => M c ∨ c = l) sf sn w' M1 sf1 sn1) := Lib.hid (fun W l dv M2 hW hl hL hd => by
    obtain ⟨h1, h2⟩ := log_fresh h hW hl hL hmI
    have hap := dAppend_ (s := nameB pre 1) h1 hd (by omega) (by show 0 ≤ 1099511627776; omega) (by show 0 ≤ room; omega) (by show room ≤ 1099511627776; omega) (by show 0 + (headB 1 at_).length ≤ _; omega) (by show 0 + 0 < 1000000; omega)
    refine hap.mono ?_
    rintro y w' ⟨rfl, M1, sf1, sn1, h3, h4⟩
    exact ⟨by rw [append_calm (by omega)], M1, sf1, sn1, h3, h2.beside h1 h4, h4⟩)
  have HAC : Hid ((flushD (appendD (calmD [] room) (nameB pre 1) (headB 1 at_)).1) = (calmD [⟨nameB pre 1, headB 1 at_⟩] room, 0)) := Lib.hid (by
    rw [append_calm (by omega), flush_calm]
    rw [show (headB 1 at_).length + 1 - 1 = (headB 1 at_).length by omega, List.take_length, show writeB [] 0 (headB 1 at_) = headB 1 at_ from writeB_end [] _]
    rfl)
  have HH := Lib.hid (fun W : World => jHead_ (w := W) (show 1 < 18446744073709551616 by omega) hat)
  have HW0 := Lib.hid h
  have HMM := Lib.hid hmm
  rw [← hmm]
  clear h hr hq hmm
  go_enter Tryz.func42, Tryz.ntmps42
  go_upto_region 4 with (go_at_call 45; refine (HDEAD.out _ stp).mono ?_; rintro e w1 ⟨rfl, hw1⟩; subst w1)
  obtain ⟨l, hl⟩ : ∃ l, l = w.heap.size := ⟨_, rfl⟩
  rw [← hl]
  refine wp_code (fun wx => LgAt wx l b pre mm (.slice none 0 0) true ∧ Step w wx) ⟨by rw [HMM.out]; exact CellsAt.new hl, by (repeat (first | exact Step.refl _ | refine Step.alloc ?_ _ | refine Step.drew ?_ | refine Step.drewN ?_ _ | refine Step.setCell ?_ (by first | exact Nat.le_refl _ | assumption | omega | (simp; done) | (simp; omega)) _ | assumption | refine Step.trans ?_ (by assumption : Step _ _)))⟩ ?_
  have hwl := Lib.hid (Nat.le_of_eq hl.symm)
  rintro w1 ⟨hl1, hS1⟩
  have HL1 := Lib.hid hl1
  have HS1 := Lib.hid hS1
  clear hl hl1 hS1 HDEAD
  go_upto_region 8 with (first
    | (go_at_call 74; refine (HSER.out _ _ (HS1.out.trans stp) hwl.out (CellsAt.step HL1.out stp)).mono ?_; rintro e w2 ⟨v2, rfl, hA2, hS2⟩; obtain ⟨a2, n2, c2, rfl, HN2⟩ := hA2.valN; obtain rfl : n2 = 0 := HN2.out; have HS2 : Hid (Step w1 w2) := Lib.hid (Step.trans stp hS2); clear hA2 hS2 HN2)
    | (go_at_call 49; refine (HH.out _).mono ?_; rintro e w3 ⟨v3, rfl, hA3, hS3⟩; obtain ⟨a3, n3, c3, rfl, HN3⟩ := hA3.valN; have HA3 := Lib.hid hA3; have HS3 : Hid (Step w1 w3) := Lib.hid (HS2.out.trans (Step.trans stp hS3)); clear hA3 hS3))
  have HR3 : Hid (Ty.bytes.rep w3 (fun _ => False) [.slice a3 n3 c3] (headB 1 at_)) := Lib.hid ((Gr.Own.less HA3.out (M' := fun _ => False) (fun _ _ h => h.elim)).rep' (fun _ _ h => h))
  have HNM : Hid (∀ W : World, Step w1 W → Calls Tryz.prog 51 #[.pointer (some ⟨l, 0, none⟩), .int .u64 ((1 : Nat) : Int)] W fun e w' => e = .returned (encStr (nameB pre 1)) ∧ ∃ m, w' = W.drewN m) := Lib.hid (fun W hW => jName_ (CellsAt.step HL1.out hW) (by omega) (by omega))
  clear HSER HH
  go_upto_region 13 with (first
    | (go_at_call 51; refine (HNM.out _ (HS3.out.trans stp)).mono ?_; rintro e w4 ⟨rfl, m4, rfl⟩)
    | (go_at_call 27; refine (HAP.out _ l _ _ (HS1.out.trans (HS3.out.trans stp)) hwl.out (CellsAt.step HL1.out (HS3.out.trans stp)) (Ty.step _ HR3.out stp)).mono ?_; rintro e w5 ⟨rfl, M5, sf5, sn5, hD5, hO5, hG5⟩; have HG5 : Hid (DGo b w3 (fun c => M c ∨ c = l) sf sn w5 M5 sf5 sn5) := Lib.hid (DGo.from stp (log_fresh HW0.out (HS1.out.trans HS3.out) hwl.out (CellsAt.step HL1.out HS3.out) hmI).1.old hG5); have HD5 := Lib.hid hD5; have HO5 := Lib.hid hO5; clear hD5 hO5 hG5)
    | (go_at_call 31; refine (dFlush_ (HD5.out.step stp)).mono ?_; rintro e w6 ⟨rfl, M6, sf6, sn6, hD6, hG6⟩; rw [HAC.out] at hD6 ⊢; have HG6 : Hid (DGo b w5 M5 sf5 sn5 w6 M6 sf6 sn6) := Lib.hid (DGo.from stp HD5.out.old hG6); have HO6 := Lib.hid (HO5.out.beside HD5.out HG6.out); have HD6 := Lib.hid hD6; clear hD6 hG6))
  obtain ⟨fv6, hlg6, -, -⟩ := HO6.out.row
  have l3 : w6.cell? ⟨l, 3, none⟩ = some fv6 := hlg6.cell 3
  have f3 : w6.frozen? ⟨l, 3, none⟩ = false := hlg6.frozen 3
  have HLG6 := Lib.hid hlg6
  have hl6 : l < w6.heap.size := hlg6.lt
  clear hlg6
  go_upto_region 14 with fail
  have hn3 : n3 ≤ 100 := by rw [HN3.out]; exact hdl
  refine wp_code (fun wx => LgAt wx l b pre mm (.slice (some ⟨w6.heap.size, 0, none⟩) 1 1) true ∧ FRow wx (.slice (some ⟨w6.heap.size, 0, none⟩) 1 1) [⟨1, at_, at_, (n3 : Int)⟩] ∧ Turn (fun c => c = l) w6 wx) ⟨?_, ?_, ?_⟩ ?_
  · exact CellsAt.step (CellsAt.set HLG6.out 3 (.slice (some ⟨w6.heap.size, 0, none⟩) 1 1)) stp
  · refine FRow.fresh (fs := [⟨1, at_, at_, (n3 : Int)⟩]) (cap := 1) (cur := #[.int .u64 1, .int .u64 (at_ : Int), .int .u64 (at_ : Int), .int .i64 (n3 : Int)]) (by simp) (fun f hf => ?_) ?_ (by simp) (by unfold maxLen; omega) (by simp) rfl
    · obtain rfl : f = ⟨1, at_, at_, (n3 : Int)⟩ := by simpa using hf
      exact ⟨by show 1 < 1000; omega, hat, hat, by show (0 : Int) ≤ (n3 : Int) ∧ (n3 : Int) ≤ 1152921504606846976; omega⟩
    · exact CellsAt.new (World.size_setCell ..).symm
  · exact ((Turn.refl (fun c => c = l) w6).setCell (p := ⟨l, 3, none⟩) (fun _ => rfl) _).then stp
  rintro w7 ⟨hl7, hf7, hT7⟩
  have HL7 := Lib.hid hl7
  have HF7 := Lib.hid hf7
  have HT7 := Lib.hid hT7
  clear hl7 hf7 hT7 l3 f3
  go_wp2
  go_ret2
  have hz1 := HS1.out.size
  have hz3 := HS3.out.size
  have hz5 := HG5.out.turn.size
  have hz6 := HG6.out.turn.size
  have hw := hwl.out
  have hG06 : DGo b w M sf sn w6 M6 sf6 sn6 := by
    have h1 := HG5.out.trans HG6.out
    exact ⟨(Turn.of (HS1.out.trans HS3.out)).trans (h1.turn.mono fun c _ hc => hc.imp (fun h => by omega) id), fun c hc => h1.more c (.inl hc), fun c hc hx => (h1.less c (by omega) hx).elim id (fun e => by omega), fun c hc hx => h1.own c (by omega) hx⟩
  have hn := HN3.out
  subst hn
  obtain ⟨M7, k1, k2, k3, k4⟩ := log_row HD6.out HO6.out HT7.out HL7.out HF7.out (fun c hc => by
    obtain rfl : w6.heap.size = c := by simpa [blkOf] using hc
    exact Nat.le_refl _)
  refine ⟨l, rfl, hw, some w6.heap.size, M7, sf6, sn6, k1.step stp, k2.step stp, ⟨(hG06.turn.trans (HT7.out.mono fun c _ hc => .inl (by omega))).then stp, fun c hc => k3 c (hG06.more c hc), fun c hc hx => hG06.less c hc (k4 c (by omega) hx), hG06.own⟩, fun c hc => ?_⟩
  obtain rfl : w6.heap.size = c := by simpa using hc
  omega
set_option maxRecDepth 100000 in
set_option maxHeartbeats 8000000 in
/-- Where a file lies there already, Begin refuses. -/
theorem jBeginNo_ {w : World} {M : Nat → Prop} {b at_ : Nat} {sf sn : Option Nat} {D : DDr} {ns : List Nat} {pre : List UInt8} {most : Int} (h : DriveAt w M b sf sn D) (hdead : D.dead = false) (hm : I64 most) (hp : pre.length ≤ 998) (hn : JNames pre D.seen ns) (hne : ns ≠ []) :
    Calls Tryz.prog 42 #[.pointer (some ⟨b, 0, none⟩), encStr pre, .int .i64 most, .int .u64 (at_ : Int)] w fun e w' => e = .returned (.tuple #[.pointer none, .int .i64 7]) ∧ Step w w' := by
  obtain ⟨queue, hr, hq⟩ := h.row
  have HDEAD : Hid (∀ W : World, Step w W → Calls Tryz.prog 45 #[.pointer (some ⟨b, 0, none⟩)] W fun e w' => e = .returned (.bool false) ∧ w' = W) := Lib.hid (fun W hW => by
    obtain ⟨qa, qc, rfl, _, _, hql⟩ := Ty.slice_val hq
    have h2 := dDead_ (CellsAt.step hr hW)
    rw [hdead] at h2
    exact h2)
  obtain ⟨mm, hmm⟩ : ∃ mm, mm = max 1 most := ⟨_, rfl⟩
  have hmI : I64 mm := by rw [hmm]; unfold I64 at hm ⊢; omega
  have hnl : 0 < (sortN ns).length := by rw [sortN_len]; exact List.length_pos_iff.2 hne
  have hnm : (sortN ns).length ≤ 1000000 := by
    rw [sortN_len]
    have h1 := congrArg List.length hn.keys
    have h2 := h.wf.seenFew
    simp only [List.length_map] at h1
    omega
  have HSER : Hid (∀ (W : World) (l : Nat), Step w W → w.heap.size ≤ l → LgAt W l b pre mm (.slice none 0 0) true → Calls Tryz.prog 74 #[.pointer (some ⟨l, 0, none⟩)] W fun e w' => ∃ v, e = .returned v ∧ Gr.Own Ty.u64 32 w' (fun _ => False) W.heap.size v (sortN ns) ∧ Step W w') := Lib.hid (fun W l hW hl hL => jSerials_ (log_fresh h hW hl hL hmI).1 hdead hL hp hn)
  have HMM := Lib.hid hmm
  clear h hr hq hmm
  go_enter Tryz.func42, Tryz.ntmps42
  go_upto_region 4 with (go_at_call 45; refine (HDEAD.out _ stp).mono ?_; rintro e w1 ⟨rfl, hw1⟩; subst w1)
  obtain ⟨l, hl⟩ : ∃ l, l = w.heap.size := ⟨_, rfl⟩
  rw [← hl]
  refine wp_code (fun wx => LgAt wx l b pre mm (.slice none 0 0) true ∧ Step w wx) ⟨by rw [HMM.out]; exact CellsAt.new hl, by (repeat (first | exact Step.refl _ | refine Step.alloc ?_ _ | refine Step.drew ?_ | refine Step.drewN ?_ _ | refine Step.setCell ?_ (by first | exact Nat.le_refl _ | assumption | omega | (simp; done) | (simp; omega)) _ | assumption | refine Step.trans ?_ (by assumption : Step _ _)))⟩ ?_
  have hwl := Lib.hid (Nat.le_of_eq hl.symm)
  rintro w1 ⟨hl1, hS1⟩
  have HL1 := Lib.hid hl1
  have HS1 := Lib.hid hS1
  clear hl hl1 hS1 HDEAD
  generalize hN : (sortN ns).length = N at *
  have HNN := Lib.hid hN
  clear hN
  have hd : decide ((0 : Int) < (N : Int)) = true := decide_eq_true (by omega)
  go_wp2_with (go_at_call 74; refine (HSER.out _ _ (HS1.out.trans stp) hwl.out (CellsAt.step HL1.out stp)).mono ?_; rintro e w2 ⟨v2, rfl, hA2, hS2⟩; obtain ⟨a2, n2, c2, rfl, HN2⟩ := hA2.valN; obtain rfl : n2 = N := HN2.out.trans HNN.out; have HS2 : Hid (Step w w2) := Lib.hid (HS1.out.trans (Step.trans stp hS2)); clear hA2 hS2 HN2)
  go_ret2
  exact ⟨rfl, HS2.out.trans stp⟩
end Go.Proofs.YthebdlkmoailaaaGreatDoor

namespace Go.Proofs.YthebdlkmoailaaaGreatDoor
open Go.RowKit Go.Gr Go.Maps
open Go.Proofs (encStr)
set_option linter.unusedSimpArgs false
set_option linter.unusedVariables false
theorem replay_zero (q : List DDeed) (f : List DPair) : replay q 0 f = f := by
  cases q with
  | nil => rfl
  | cons x q => exact if_pos (Nat.zero_min _)
theorem replay_snoc (x : DDeed) : ∀ (q : List DDeed) (k : Nat) (f : List DPair), replay (q ++ [x]) k f = if k ≤ allU q then replay q k f else replay [x] (k - allU q) (doAll q f)
  | [], k, f => by
    show replay [x] k f = if k ≤ 0 then f else replay [x] (k - 0) f
    split
    · rw [show k = 0 by omega, replay_zero]
    · rfl
  | y :: q, k, f => by
    have hu := y.units_pos
    have hA : allU (y :: q) = y.units + allU q := by simp [allU]
    rcases Nat.eq_zero_or_pos k with rfl | hk
    · rw [replay_zero, if_pos (Nat.zero_le _), replay_zero]
    · show (if min k y.units = 0 then f else replay (q ++ [x]) (k - min k y.units) (y.doB (min k y.units) f)) = if k ≤ allU (y :: q) then (if min k y.units = 0 then f else replay q (k - min k y.units) (y.doB (min k y.units) f)) else replay [x] (k - allU (y :: q)) (doAll q (y.doB y.units f))
      have hmin : ¬ min k y.units = 0 := by omega
      rw [if_neg hmin, if_neg hmin, replay_snoc x q, hA]
      rcases Nat.lt_or_ge y.units k with h | h
      · rw [Nat.min_eq_right (by omega)]
        by_cases h2 : k ≤ y.units + allU q
        · rw [if_pos (by omega), if_pos h2]
        · rw [if_neg (by omega), if_neg h2, Nat.sub_sub]
      · rw [Nat.min_eq_left h, Nat.sub_self, if_pos (Nat.zero_le _), if_pos (by omega)]
/-- Whichever beginning of the queue is kept: what lies there then is a journal's. -/
def CrashOk (pre : List UInt8) (q U : Nat) (P : Nat → List (List UInt8) → Prop) (D : DDr) : Prop := ∀ k, StJ pre q U P (replay D.queue k D.safe)
theorem CrashOk.calm {pre : List UInt8} {q U : Nat} {P : Nat → List (List UInt8) → Prop} {x : List DPair} {room : Int} (h : StJ pre q U P x) : CrashOk pre q U P (calmD x room) := fun _ => h
theorem CrashOk.more {pre : List UInt8} {q q' U U' : Nat} {P P' : Nat → List (List UInt8) → Prop} {D : DDr} (h : CrashOk pre q U P D) (hq : q ≤ q') (hU : U ≤ U') (hP : ∀ f rs, P f rs → P' f rs) : CrashOk pre q' U' P' D := fun k => (h k).more hq hU hP
theorem CrashOk.push {pre : List UInt8} {q U : Nat} {P : Nat → List (List UInt8) → Prop} {D D' : DDr} {x : DDeed} (h : CrashOk pre q U P D) (hs : D.seen = doAll D.queue D.safe) (h1 : D'.safe = D.safe) (h2 : D'.queue = D.queue ++ [x]) (hx : ∀ n, 0 < n → n ≤ x.units → StJ pre q U P (x.doB n D.seen)) : CrashOk pre q U P D' := fun k => by
  rw [h1, h2, replay_snoc]
  split
  · exact h k
  · have hu := x.units_pos
    rw [← hs]
    show StJ pre q U P (if min (k - allU D.queue) x.units = 0 then D.seen else x.doB (min (k - allU D.queue) x.units) D.seen)
    rw [if_neg (by omega)]
    exact hx _ (by omega) (Nat.min_le_right _ _)
/-- A journal in order upon a drive that may crash. q: so many files were ever begun; U: so many bytes; C: deeds and files; P: what holds of the first index and the records behind whichever crash. -/
structure CSess (pre : List UInt8) (w : World) (M : Nat → Prop) (b l : Nat) (D : DDr) (L : DLog) (s f : Nat) (rss : List (List (List UInt8))) (q U C : Nat) (P : Nat → List (List UInt8) → Prop) : Prop where
  mem : ∃ sf sn g, DriveAt w M b sf sn D ∧ LogAt w M l b g pre L
  inv : JInv pre D L s f rss
  crash : CrashOk pre q U P D
  few : s + L.files.length ≤ q
  used : usedB D.seen ≤ U
  cnt : D.safe.length + D.queue.length ≤ C
theorem CSess.step {pre : List UInt8} {w w' : World} {M : Nat → Prop} {b l : Nat} {D : DDr} {L : DLog} {s f : Nat} {rss : List (List (List UInt8))} {q U C : Nat} {P : Nat → List (List UInt8) → Prop} (h : CSess pre w M b l D L s f rss q U C P) (hs : Step w w') : CSess pre w' M b l D L s f rss q U C P := by
  obtain ⟨⟨sf, sn, g, h1, h2⟩, h3, h4, h5, h6, h7⟩ := h
  exact ⟨⟨sf, sn, g, h1.step hs, h2.step hs⟩, h3, h4, h5, h6, h7⟩
/-- What an act turns. -/
structure CGo (w w' : World) (M M' : Nat → Prop) : Prop where
  turn : Turn M w w'
  less : ∀ c, c < w.heap.size → M' c → M c
theorem JGo.cgo {w w' : World} {M M' : Nat → Prop} {b l : Nat} {sf sn g sf' sn' g' : Option Nat} {pre : List UInt8} {D : DDr} {L : DLog} (h : JGo b l w M sf sn g w' M' sf' sn' g') (hD : DriveAt w M b sf sn D) (hL : LogAt w M l b g pre L) : CGo w w' M M' :=
  ⟨h.turn.mono fun c hc hx => hx.elim (fun h => by omega) (fun hx => by
    rcases hx with hx | rfl | hx
    · exact hD.own c hx
    · exact hL.own
    · exact (hL.gown c hx).1), h.less⟩
theorem CSess.append {pre : List UInt8} {w : World} {M M2 : Nat → Prop} {b l : Nat} {D : DDr} {L : DLog} {s f : Nat} {rss : List (List (List UInt8))} {q U U' C : Nat} {P P' : Nat → List (List UInt8) → Prop} {rv : Value} {recs : List (List UInt8)} (h : CSess pre w M b l D L s f rss q U C P) (hp : pre.length ≤ 998) (hq : q < 98) (hrep : (Ty.slice Ty.bytes).rep w M2 [rv] recs) (hr : ∀ r ∈ recs, r.length ≤ 1048576)
    (hU : U + (dataL L recs).length ≤ U') (hU2 : (U' : Int) ≤ D.room) (hU3 : U' ≤ 4294967296) (hro : D.room ≤ 1099511627776) (hC : C < 900000) (hf : f + rss.flatten.length + recs.length < 18446744073709551616) (hPP : ∀ f rs, P f rs → P' f rs) (hP : ∀ j, j ≤ recs.length → P' f (rss.flatten ++ recs.take j)) :
    Calls Tryz.prog 14 #[.pointer (some ⟨l, 0, none⟩), rv] w fun e w' => e = .returned (.tuple #[.int .u64 ((f + rss.flatten.length : Nat) : Int), .int .i64 0]) ∧ ∃ M' D' L' rss', CSess pre w' M' b l D' L' s f rss' (q + 1) U' (C + 1) P' ∧ CGo w w' M M' ∧ D'.room = D.room ∧ L'.most = L.most ∧ rss'.flatten = rss.flatten ++ recs := by
  obtain ⟨sf, sn, g, hD, hL⟩ := h.mem
  obtain ⟨hl1, hl2⟩ := h.inv.chain.last h.inv.start
  have hfew := h.few
  have hcnt := h.cnt
  have hus := h.used
  have hRJ : RoomJ pre D L recs := h.inv.roomJ hp (by omega) (by omega) hro (by omega) (by omega) hf (by omega)
  refine (jAppend_ hD hL hrep hRJ).mono ?_
  rintro e w' ⟨rfl, M', sf', sn', g', hD', hL', hGo⟩
  have hcg := hGo.cgo hD hL
  by_cases h0 : recs = []
  · subst h0
    have e1 : appendJ pre D L [] = ((D, L), (lastF L.files).to_, 0) := if_pos rfl
    rw [e1] at hD' hL' ⊢
    exact ⟨by rw [hl2], M', D, L, rss, ⟨⟨sf', sn', g', hD', hL'⟩, h.inv, h.crash.more (by omega) (by omega) hPP, by omega, by omega, by omega⟩, hcg, rfl, rfl, by simp⟩
  · have hroom : ¬ D.room - (usedB D.seen : Int) < ((dataL L recs).length : Int) := by omega
    rcases h.inv.append h0 hr (by omega) with e1 | ⟨rss', h1, h2, h3, h4, h5, h6⟩
    · exfalso
      have hA : appendJ pre D L recs = if (appendD D (nameB pre (openF L).serial) (dataL L recs)).2 = 0 then (((appendD D (nameB pre (openF L).serial) (dataL L recs)).1, pushL L recs), (lastF L.files).to_, 0) else (((appendD D (nameB pre (openF L).serial) (dataL L recs)).1, L), 0, (appendD D (nameB pre (openF L).serial) (dataL L recs)).2) := by
        unfold appendJ
        rw [if_neg h0, if_neg (by rw [tooLong_not hr]; simp)]
      rw [appendD_ok (s := nameB pre (openF L).serial) h.inv.dead h.inv.armed hroom, if_pos rfl] at hA
      rw [hA] at e1
      simp at e1
    · have hok := appendD_ok (s := nameB pre (openF L).serial) h.inv.dead h.inv.armed h6
      have h4' := h4
      rw [hok] at h4'
      refine ⟨by rw [h2], M', _, _, rss', ⟨⟨sf', sn', g', hD', hL'⟩, h3, ?_, ?_, ?_, ?_⟩, hcg, by rw [h4'], by rw [h5]; rfl, h1⟩
      · refine CrashOk.push (x := .wr (nameB pre (openF L).serial) (dataB D.seen (nameB pre (openF L).serial)).length (dataL L recs)) (h.crash.more (q' := q + 1) (by omega) (by omega) hPP) hD.wf.same (by rw [h4']) (by rw [h4']) (fun n _ _ => ?_)
        show StJ pre (q + 1) U' P' (putK DPair.key ⟨_, writeB _ _ ((dataL L recs).take (n - 1))⟩ D.seen)
        rw [writeB_end]
        exact h.inv.goodJ.part hr (by omega) (by omega) (by omega) (by omega) hP _
      · rw [h5]
        unfold pushL
        rw [List.length_append, List.length_singleton]
        split
        · omega
        · rw [List.length_dropLast]; omega
      · rw [h4']
        show usedB (putK _ _ D.seen) ≤ _
        rw [usedB_put h.inv.rising]
        omega
      · rw [h4']
        show D.safe.length + (D.queue ++ _).length ≤ C + 1
        rw [List.length_append, List.length_singleton]
        omega
/-- Behind Open, upon a drive without deeds that aren't safe. -/
theorem OpenedAt.sess {pre : List UInt8} {w w' : World} {M : Nat → Prop} {b l : Nat} {sf sn : Option Nat} {seen : List DPair} {room : Int} {L : DLog} {s f : Nat} {rss : List (List (List UInt8))} {q U : Nat} {P : Nat → List (List UInt8) → Prop} {D0 : DDr} (h : OpenedAt w w' M b sf sn pre (calmD seen room) L l) (hD : DriveAt w M b sf sn D0) (hg : GoodJ pre seen s f L.files rss) (hq : s + L.files.length ≤ q) (hq2 : q < 99) (hU : usedB seen ≤ U) (hP : P f rss.flatten) :
    ∃ M', CSess pre w' M' b l (calmD seen room) L s f rss q U 100 P ∧ CGo w w' M M' := by
  obtain ⟨_, g, M', sf', sn', h1, h2, h3, _⟩ := h
  refine ⟨M', ⟨⟨sf', sn', g, h1, h2⟩, hg.inv rfl rfl, CrashOk.calm (hg.st hq hU hP), hq, hU, ?_⟩, h3.turn.mono fun c hc hx => hx.elim (fun h => by omega) (fun hx => hD.own c hx), h3.less⟩
  have := hg.few (by omega)
  show seen.length + 0 ≤ 100
  omega
/-- A crash, and Open behind it. -/
theorem CSess.crashed {pre : List UInt8} {w : World} {M : Nat → Prop} {b l : Nat} {D : DDr} {L : DLog} {s f : Nat} {rss : List (List (List UInt8))} {q U C : Nat} {P : Nat → List (List UInt8) → Prop} {keep : Int} (h : CSess pre w M b l D L s f rss q U C P) (hk : I64 keep) :
    Calls Tryz.prog 38 #[.pointer (some ⟨b, 0, none⟩), .int .i64 keep] w fun e w' => e = .returned (.tuple #[]) ∧ ∃ M' sf sn x, DriveAt w' M' b sf sn (calmD x D.room) ∧ StJ pre q U P x ∧ CGo w w' M M' := by
  obtain ⟨sf, sn, g, hD, hL⟩ := h.mem
  refine (dCrash_ hD hk).mono ?_
  rintro e w' ⟨rfl, M', sf', sn', h1, h2⟩
  exact ⟨rfl, M', sf', sn', crashF D keep, h1, h.crash _, h2.turn.mono fun c hc hx => hx.elim (fun h => by omega) (fun hx => hD.own c hx), h2.less⟩
theorem open_st {w : World} {M : Nat → Prop} {b q U : Nat} {sf sn : Option Nat} {x : List DPair} {room : Int} {pre : List UInt8} {most : Int} {P : Nat → List (List UInt8) → Prop} (h : DriveAt w M b sf sn (calmD x room)) (hm : I64 most) (hp : pre.length ≤ 998) (hst : StJ pre q U P x) (hq : q < 99) (hU : U ≤ 68719476736) (hP : ∀ f rs, P f rs → f + rs.length < 18446744073709551616) :
    Calls Tryz.prog 12 #[.pointer (some ⟨b, 0, none⟩), encStr pre, .int .i64 most] w fun e w' => ∃ l, e = .returned (.tuple #[.pointer (some ⟨l, 0, none⟩), .int .i64 0]) ∧ ∃ M' seen fs s f rss, CSess pre w' M' b l (calmD seen room) ⟨max 1 most, fs, true⟩ s f rss q U 100 P ∧ P f rss.flatten ∧ CGo w w' M M' := by
  refine (jOpenC_ h hm hp hst hq hU hP).mono ?_
  rintro e w' ⟨l, rfl, seen, s, f, fs, rss, h1, h2, h3, h4, h5⟩
  obtain ⟨M', k1, k2⟩ := h5.sess h h1 h2 hq h3 h4
  exact ⟨l, rfl, M', seen, fs, s, f, rss, k1, h4, k2⟩
end Go.Proofs.YthebdlkmoailaaaGreatDoor

namespace Go.Proofs.YthebdlkmoailaaaGreatDoor
open Go.RowKit Go.Gr Go.Maps
open Go.Proofs (encStr)
set_option linter.unusedSimpArgs false
set_option linter.unusedVariables false
theorem CGo.keep {α : Type} {E : Ty α} {w w' : World} {M M' : Nat → Prop} {cs : List Value} {x : α} (h : CGo w w' M M') (hr : E.rep w M cs x) : E.rep w' M' cs x :=
  E.keep hr (fun c hc hm => ⟨h.turn.block c hc hm, fun hx => hm (h.less c hc hx)⟩)
theorem CGo.fresh {w w' : World} {M M' : Nat → Prop} {k : Nat} (h : CGo w w' M M') (hf : ∀ c, M c → k ≤ c) (hk : k ≤ w.heap.size) : ∀ c, M' c → k ≤ c := fun c hc => by
  rcases Nat.lt_or_ge c w.heap.size with h1 | h1
  · exact hf c (h.less c h1 hc)
  · omega
theorem CGo.step {w0 w w' : World} {M M' : Nat → Prop} (h : CGo w w' M M') (hs : Step w0 w) (hf : ∀ c, M c → w0.heap.size ≤ c) : Step w0 w' := Turn.step hs h.turn hf
theorem CSess.old {pre : List UInt8} {w : World} {M : Nat → Prop} {b l : Nat} {D : DDr} {L : DLog} {s f : Nat} {rss : List (List (List UInt8))} {q U C : Nat} {P : Nat → List (List UInt8) → Prop} (h : CSess pre w M b l D L s f rss q U C P) : ∀ c, M c → c < w.heap.size := by
  obtain ⟨sf, sn, g, hD, hL⟩ := h.mem
  exact hD.old
section
variable {pre : List UInt8} {w : World} {M : Nat → Prop} {b l : Nat} {D : DDr} {L : DLog} {s f : Nat} {rss : List (List (List UInt8))} {q U C : Nat} {P : Nat → List (List UInt8) → Prop}
theorem CSess.first (h : CSess pre w M b l D L s f rss q U C P) : Calls Tryz.prog 39 #[.pointer (some ⟨l, 0, none⟩)] w fun e w' => e = .returned (.int .u64 (f : Int)) ∧ w' = w := by
  obtain ⟨sf, sn, g, hD, hL⟩ := h.mem
  obtain ⟨fv, h1, h2, _⟩ := hL.row
  have := jFirst_ h1 h2
  rw [firstL_le h.inv.chain h.inv.start] at this
  exact this
theorem CSess.next (h : CSess pre w M b l D L s f rss q U C P) : Calls Tryz.prog 17 #[.pointer (some ⟨l, 0, none⟩)] w fun e w' => e = .returned (.int .u64 ((f + rss.flatten.length : Nat) : Int)) ∧ Step w w' := by
  obtain ⟨sf, sn, g, hD, hL⟩ := h.mem
  obtain ⟨fv, h1, h2, _⟩ := hL.row
  have := jNext_ h1 h2
  rw [(h.inv.chain.last h.inv.start).2] at this
  exact this
theorem CSess.spans (h : CSess pre w M b l D L s f rss q U C P) : Calls Tryz.prog 40 #[.pointer (some ⟨l, 0, none⟩)] w fun e w' => ∃ v, e = .returned v ∧ Gr.Own tSpan 75 w' (fun _ => False) w.heap.size v (spansL L.files) ∧ Step w w' := by
  obtain ⟨sf, sn, g, hD, hL⟩ := h.mem
  obtain ⟨fv, h1, h2, _⟩ := hL.row
  exact jSpans_ h1 h2
theorem CSess.closed (h : CSess pre w M b l D L s f rss q U C P) : Calls Tryz.prog 41 #[.pointer (some ⟨l, 0, none⟩)] w fun e w' => e = .returned (.int .u64 ((if L.closed then f + rss.flatten.length else (lastF L.files).from_ : Nat) : Int)) ∧ Step w w' := by
  obtain ⟨sf, sn, g, hD, hL⟩ := h.mem
  obtain ⟨fv, h1, h2, _⟩ := hL.row
  have := jClosed_ h1 h2
  rw [(h.inv.chain.last h.inv.start).2] at this
  exact this
theorem CSess.records (h : CSess pre w M b l D L s f rss q U C P) (hp : pre.length ≤ 998) (hq : q < 99) (hU : U ≤ 68719476736) (hf : f + rss.flatten.length < 18446744073709551616) (hr : rss.flatten.length ≤ 1000000000) :
    Calls Tryz.prog 16 #[.pointer (some ⟨l, 0, none⟩), .int .u64 (f : Int), .int .u64 ((f + rss.flatten.length : Nat) : Int)] w fun e w' => ∃ v ds, e = .returned (.tuple #[v, .int .i64 0]) ∧ Gr.Own (tGB 5) 40 w' (· < w.heap.size) w.heap.size v ds ∧ Step w w' ∧ Hid (ds.map Prod.fst = rss.flatten) ∧ ApartD ds := by
  obtain ⟨sf, sn, g, hD, hL⟩ := h.mem
  obtain ⟨hl1, hl2⟩ := h.inv.chain.last h.inv.start
  have hfew := h.few
  have hus := h.used
  obtain ⟨hro, _⟩ := h.inv.good (by omega) hf (by omega)
  have hall := h.inv.chain.all (a := f) (z := f + rss.flatten.length) (by omega) hf (Nat.le_refl _) (Nat.le_refl _)
  have := jRecords_ (a := f) (z := f + rss.flatten.length) hD h.inv.dead hL hp (Nat.le_add_right _ _) (by rw [firstL_le h.inv.chain h.inv.start]; exact Nat.le_refl _) (by rw [hl2]; exact Nat.le_refl _) hf (h.inv.chain.ok hro) (by rw [hall]; exact hr)
  rw [hall] at this
  exact this
theorem CSess.notBegun {at_ : Nat} {most : Int} (h : CSess pre w M b l D L s f rss q U C P) (hm : I64 most) (hp : pre.length ≤ 998) (hq : q < 99) (hU : U ≤ 68719476736) (hf : f + rss.flatten.length < 18446744073709551616) (hne : L.files ≠ []) :
    Calls Tryz.prog 42 #[.pointer (some ⟨b, 0, none⟩), encStr pre, .int .i64 most, .int .u64 (at_ : Int)] w fun e w' => e = .returned (.tuple #[.pointer none, .int .i64 7]) ∧ Step w w' := by
  obtain ⟨sf, sn, g, hD, hL⟩ := h.mem
  have hfew := h.few
  have hus := h.used
  obtain ⟨_, ns, hn, hG⟩ := h.inv.good (by omega) hf (by omega)
  refine jBeginNo_ hD h.inv.dead hm hp hn (fun h0 => hne ?_)
  have h1 := hG.names
  rw [h0] at h1
  simpa [sortN] using h1
end
/-- Behind Begin upon a new drive. -/
theorem begin_sess {w : World} {b at_ : Nat} {r : Int} {pre : List UInt8} {most : Int} (h : DrAt w b (.map none) (.map none) (.slice none 0 0) (max 0 r) false 0 false) (hr0 : 1000 ≤ r) (hr1 : r ≤ 1048576) (hm : I64 most) (hp : pre.length ≤ 998) (hat : at_ < 18446744073709551616) :
    Calls Tryz.prog 42 #[.pointer (some ⟨b, 0, none⟩), encStr pre, .int .i64 most, .int .u64 (at_ : Int)] w fun e w' => ∃ l, e = .returned (.tuple #[.pointer (some ⟨l, 0, none⟩), .int .i64 0]) ∧ ∃ M' x, CSess pre w' M' b l (calmD x r) ⟨max 1 most, [⟨1, at_, at_, ((headB 1 at_).length : Int)⟩], true⟩ 0 at_ [[]] 1 100 100 (fun f rs => f = at_ ∧ rs = []) ∧ CGo w w' (fun c => c = b) M' := by
  have hD := DriveAt.new h
  have e0 : DDr.new r = calmD [] r := by unfold DDr.new calmD; rw [Int.max_eq_right (by omega)]
  rw [e0] at hD
  refine (jBegin_ hD hr0 hr1 hm hp hat).mono ?_
  rintro e w' ⟨l, rfl, ho⟩
  have hn0 : Rising DPair.key ([] : List DPair) := List.Pairwise.nil
  have hx : ([⟨nameB pre 1, headB 1 at_⟩] : List DPair) = putK DPair.key ⟨nameB pre 1, headB 1 at_⟩ [] := rfl
  have hdl : (headB 1 at_).length ≤ 100 := by
    have := numsB2_len (show 1 < 18446744073709551616 by omega) hat
    unfold headB
    rw [sealB_len]
    omega
  have hfb : fileB 1 at_ [] = headB 1 at_ := by simp [fileB, sealsB]
  have hus : usedB ([⟨nameB pre 1, headB 1 at_⟩] : List DPair) ≤ 100 := by
    have := usedB_put hn0 (nameB pre 1) (headB 1 at_)
    rw [dataB_no (by simp), List.nil_append, ← hx] at this
    rw [this]
    have : usedB [] = 0 := rfl
    omega
  have hg : GoodJ pre [⟨nameB pre 1, headB 1 at_⟩] 0 at_ [⟨1, at_, at_, ((headB 1 at_).length : Int)⟩] [[]] := by
    refine ⟨⟨⟨rfl, rfl, rfl, by rw [hfb], ?_, ?_, by simp⟩, trivial⟩, fun k => ?_, by rw [hx]; exact hn0.put, by simp⟩
    · rw [hx, thereB_put, if_pos rfl]
    · rw [hx, dataB_put, if_pos rfl, hfb]
    · rw [hx, keys_put]
      constructor
      · rintro (rfl | hk)
        · exact ⟨1, by omega, by simp, rfl⟩
        · simp at hk
      · rintro ⟨n, h1, h2, rfl⟩
        simp at h2
        obtain rfl : n = 1 := by omega
        exact .inl rfl
  obtain ⟨M', k1, k2⟩ := ho.sess (q := 1) (U := 100) (P := fun f rs => f = at_ ∧ rs = []) hD hg (by simp) (by omega) hus ⟨rfl, rfl⟩
  exact ⟨l, rfl, M', _, k1, k2⟩
end Go.Proofs.YthebdlkmoailaaaGreatDoor

namespace Go.Proofs.YthebdlkmoailaaaGreatDoor
open Go.RowKit Go.Gr Go.Maps
open Go.Proofs (encStr)
set_option linter.unusedSimpArgs false
set_option linter.unusedVariables false
theorem flushD_ok {D : DDr} (h1 : D.dead = false) (h2 : D.armed = false) : flushD D = ({ D with safe := D.seen, queue := [] }, 0) := by
  obtain ⟨a1, a2, a3, a4, a5, a6, a7⟩ := D
  simp only at h1 h2
  subst h1 h2
  rfl
theorem removeD_ok {D : DDr} {nm : List UInt8} (h1 : D.dead = false) (h2 : D.armed = false) (h : thereB D.seen nm = true) : removeD D nm = ({ D with seen := dropK DPair.key nm D.seen, queue := D.queue ++ [.rm nm] }, 0) := by
  obtain ⟨a1, a2, a3, a4, a5, a6, a7⟩ := D
  simp only at h1 h2 h
  subst h1 h2
  have hn : noneB a2 nm = 0 := if_pos h
  unfold removeD
  simp only [hn]
  rfl
theorem CSess.close {pre : List UInt8} {w : World} {M : Nat → Prop} {b l : Nat} {D : DDr} {L : DLog} {s f : Nat} {rss : List (List (List UInt8))} {q U C : Nat} {P : Nat → List (List UInt8) → Prop} (h : CSess pre w M b l D L s f rss q U C P) (hq : q < 99) (hP : P f rss.flatten) :
    Calls Tryz.prog 32 #[.pointer (some ⟨l, 0, none⟩)] w fun e w' => e = .returned (.int .i64 0) ∧ ∃ M' D', CSess pre w' M' b l D' { L with closed := true } s f rss q U 100 P ∧ CGo w w' M M' ∧ D'.room = D.room := by
  obtain ⟨sf, sn, g, hD, hL⟩ := h.mem
  have hfew := h.few
  have hfl := flushD_ok h.inv.dead h.inv.armed
  have hc := jClose_ hD hL
  rw [hfl] at hc
  have hcl : closeJ D L = { L with closed := true } := by
    unfold closeJ
    rw [hfl]
    simp
  rw [hcl] at hc
  refine hc.mono ?_
  rintro e w' ⟨rfl, M', sf', sn', g', h1, h2, h3⟩
  have hgj := h.inv.goodJ
  have hlen := hgj.few (by omega)
  exact ⟨rfl, M', _, ⟨⟨sf', sn', g', h1, h2⟩, ⟨h.inv.dead, h.inv.armed, h.inv.chain, h.inv.names, h.inv.rising, h.inv.start⟩, fun _ => hgj.st hfew h.used hP, hfew, h.used, by show D.seen.length + 0 ≤ 100; omega⟩, h3.cgo hD hL, rfl⟩
/-- What Drop makes of a journal in order. -/
theorem drop_words {pre : List UInt8} {below q U : Nat} {P : Nat → List (List UInt8) → Prop} (hPd : ∀ f r rs, P f (r ++ rs) → P (f + r.length) rs) (hq : q < 99) : ∀ (fs : List DFile) (D : DDr) (s f : Nat) (rss : List (List (List UInt8))), D.dead = false → D.armed = false → D.seen = doAll D.queue D.safe → GoodJ pre D.seen s f fs rss → CrashOk pre q U P D → s + fs.length ≤ q → usedB D.seen ≤ U → P f rss.flatten →
    ∃ D' fs' s' f' rss', dropJ pre below D fs = ((D', fs'), 0) ∧ D'.dead = false ∧ D'.armed = false ∧ GoodJ pre D'.seen s' f' fs' rss' ∧ CrashOk pre q U P D' ∧ s' + fs'.length = s + fs.length ∧ usedB D'.seen ≤ U ∧ P f' rss'.flatten ∧ D'.room = D.room ∧ D'.safe = D.safe ∧ D'.queue.length ≤ D.queue.length + fs.length ∧ f' + rss'.flatten.length = f + rss.flatten.length
  | [], D, s, f, rss, h1, h2, _, hg, hc, hs, hu, hp => ⟨D, [], s, f, rss, rfl, h1, h2, hg, hc, rfl, hu, hp, rfl, rfl, Nat.le_refl _, rfl⟩
  | [F], D, s, f, rss, h1, h2, _, hg, hc, hs, hu, hp => ⟨D, [F], s, f, rss, rfl, h1, h2, hg, hc, rfl, hu, hp, rfl, rfl, Nat.le_add_right _ _, rfl⟩
  | F :: G :: fs, D, s, f, rss, h1, h2, hsame, hg, hc, hs, hu, hp => by
    by_cases hle : F.to_ ≤ below
    · rcases rss with _ | ⟨r, rss⟩
      · exact hg.chain.elim
      have hth : thereB D.seen (nameB pre F.serial) = true := hg.chain.1.there
      have hr := removeD_ok h1 h2 hth
      simp only [List.length_cons] at hs
      have hg2 := hg.dropFirst (by simp) (by simp only [List.length_cons]; omega)
      have hp2 : P (f + r.length) rss.flatten := hPd f r rss.flatten (by simpa using hp)
      have hu2 : usedB (dropK DPair.key (nameB pre F.serial) D.seen) ≤ U := Nat.le_trans (usedB_drop_le hg.rising _) hu
      have hst := hg2.st (P := P) (q := q) (U := U) (by simp only [List.length_cons]; omega) hu2 hp2
      obtain ⟨D', fs', s', f', rss', e1, e2, e3, e4, e5, e6, e7, e8, e9, e10, e11, e12⟩ := drop_words hPd hq (G :: fs) { D with seen := dropK DPair.key (nameB pre F.serial) D.seen, queue := D.queue ++ [.rm (nameB pre F.serial)] } (s + 1) (f + r.length) rss h1 h2 (by rw [doAll_snoc, ← hsame]; rfl) hg2 (hc.push (x := .rm (nameB pre F.serial)) hsame rfl rfl (fun n _ _ => hst)) (by simp only [List.length_cons]; omega) hu2 hp2
      refine ⟨D', fs', s', f', rss', ?_, e2, e3, e4, e5, ?_, e7, e8, e9, e10, ?_, ?_⟩
      · rw [dropJ, if_pos hle, hr, if_pos rfl]
        exact e1
      · simp only [List.length_cons] at e6 ⊢; omega
      · simp only [List.length_append, List.length_cons, List.length_nil] at e11 ⊢; omega
      · simp only [List.flatten_cons, List.length_append]; omega
    · exact ⟨D, F :: G :: fs, s, f, rss, by rw [dropJ, if_neg hle], h1, h2, hg, hc, rfl, hu, hp, rfl, rfl, Nat.le_add_right _ _, rfl⟩
theorem CSess.drop {pre : List UInt8} {w : World} {M : Nat → Prop} {b l below : Nat} {D : DDr} {L : DLog} {s f : Nat} {rss : List (List (List UInt8))} {q U C : Nat} {P : Nat → List (List UInt8) → Prop} (h : CSess pre w M b l D L s f rss q U C P) (hp : pre.length ≤ 998) (hq : q < 99) (hb : below < 18446744073709551616) (hC : C + 100 < 1000000) (hPd : ∀ f r rs, P f (r ++ rs) → P (f + r.length) rs) (hP : P f rss.flatten) :
    Calls Tryz.prog 33 #[.pointer (some ⟨l, 0, none⟩), .int .u64 (below : Int)] w fun e w' => e = .returned (.int .i64 0) ∧ ∃ M' D' fs' s' f' rss', CSess pre w' M' b l D' { L with files := fs' } s' f' rss' q U (C + 100) P ∧ CGo w w' M M' ∧ D'.room = D.room ∧ P f' rss'.flatten := by
  obtain ⟨sf, sn, g, hD, hL⟩ := h.mem
  have hfew := h.few
  have hcnt := h.cnt
  obtain ⟨D', fs', s', f', rss', e1, e2, e3, e4, e5, e6, e7, e8, e9, e10, e11, e12⟩ := drop_words (below := below) hPd hq L.files D s f rss h.inv.dead h.inv.armed hD.wf.same h.inv.goodJ h.crash hfew h.used hP
  have hser : ∀ F ∈ L.files, F.serial < 100 := fun F hF => by
    obtain ⟨i, _, _, hi, _, _, h6⟩ := h.inv.chain.mem hF
    have := h6.serial
    omega
  have hc := jDrop_ (below := below) hD hL hp hb hser (by omega)
  rw [e1] at hc
  refine hc.mono ?_
  rintro e w' ⟨rfl, M', sf', sn', g', k1, k2, k3⟩
  exact ⟨rfl, M', D', fs', s', f', rss', ⟨⟨sf', sn', g', k1, k2⟩, GoodJ.inv (L := { L with files := fs' }) e4 e2 e3, e5, by show s' + fs'.length ≤ q; omega, e7, by rw [e10]; omega⟩, k3.cgo hD hL, e9, e8⟩
end Go.Proofs.YthebdlkmoailaaaGreatDoor

namespace Go.Proofs.YthebdlkmoailaaaGreatDoor
open Go.RowKit Go.Gr Go.Maps
open Go.Proofs (encStr)
set_option linter.unusedSimpArgs false
set_option linter.unusedVariables false
theorem raw_live {D : DDr} {x : DDeed} (h : D.dead = false) : ∃ l k, rawB D x 0 = ({ D with seen := x.doB x.units D.seen, queue := D.queue ++ [x], left := l, dead := k }, if k then 9 else 0) := by
  obtain ⟨a1, a2, a3, a4, a5, a6, a7⟩ := D
  simp only at h
  subst h
  unfold rawB mayB
  cases a5 with
  | false => exact ⟨a6, false, rfl⟩
  | true =>
    by_cases h : a6 = 0
    · exact ⟨a6, true, by simp [h]⟩
    · exact ⟨a6 - 1, false, by simp [h]⟩
theorem flush_live {D : DDr} (h : D.dead = false) : (∃ l, flushD D = ({ D with safe := D.seen, queue := [], left := l }, 0)) ∨ flushD D = ({ D with dead := true }, 9) := by
  obtain ⟨a1, a2, a3, a4, a5, a6, a7⟩ := D
  simp only at h
  subst h
  unfold flushD mayB
  cases a5 with
  | false => exact .inl ⟨a6, rfl⟩
  | true =>
    by_cases h : a6 = 0
    · exact .inr (by simp [h])
    · exact .inl ⟨a6 - 1, by simp [h]⟩
theorem append_live {D : DDr} {s d : List UInt8} (h1 : D.dead = false) (h : ¬ D.room - (usedB D.seen : Int) < (d.length : Int)) : ∃ l k, appendD D s d = ({ D with seen := putK DPair.key ⟨s, dataB D.seen s ++ d⟩ D.seen, queue := D.queue ++ [.wr s (dataB D.seen s).length d], left := l, dead := k }, if k then 9 else 0) := by
  unfold appendD
  rw [if_neg h]
  obtain ⟨l, k, hl⟩ := raw_live (x := .wr s (dataB D.seen s).length d) h1
  refine ⟨l, k, ?_⟩
  rw [hl]
  simp [DDeed.doB, DDeed.units, writeB_end]
theorem remove_live {D : DDr} {nm : List UInt8} (h1 : D.dead = false) (h : thereB D.seen nm = true) : ∃ l k, removeD D nm = ({ D with seen := dropK DPair.key nm D.seen, queue := D.queue ++ [.rm nm], left := l, dead := k }, if k then 9 else 0) := by
  have hn : noneB D.seen nm = 0 := if_pos h
  unfold removeD
  rw [hn]
  exact raw_live h1
/-- A drive's words, as if it could not die. -/
def unA (D : DDr) : DDr := ⟨D.safe, D.seen, D.queue, D.room, false, 0, false⟩
/-- From w to w' what is M's has turned, but not xb. -/
structure XGo (w w' : World) (M M' : Nat → Prop) (xb : Nat) : Prop where
  turn : Turn (fun c => M c ∧ c ≠ xb) w w'
  less : ∀ c, c < w.heap.size → M' c → M c
theorem XGo.cgo {w w' : World} {M M' : Nat → Prop} {xb : Nat} (h : XGo w w' M M' xb) : CGo w w' M M' := ⟨h.turn.mono fun c _ hx => hx.1, h.less⟩
theorem JGo.xgo {b l xb : Nat} {w w' : World} {M M' : Nat → Prop} {sf sn g sf' sn' g' : Option Nat} {pre : List UInt8} {D : DDr} {L : DLog} (h : JGo b l w M sf sn g w' M' sf' sn' g') (hD : DriveAt w M b sf sn D) (hL : LogAt w M l b g pre L) (hx : M xb) (hn : ¬ JM b sf sn l g xb) : XGo w w' M M' xb ∧ M' xb ∧ ¬ JM b sf' sn' l g' xb :=
  ⟨⟨h.turn.mono fun c hc hm => hm.elim (fun h => by omega) (fun hm => ⟨by
    rcases hm with hm | rfl | hm
    · exact hD.own c hm
    · exact hL.own
    · exact (hL.gown c hm).1, fun e => hn (e ▸ hm)⟩), h.less⟩, h.more xb hx, fun hm => hn (h.own xb (hD.old xb hx) hm)⟩
theorem DGo.xgo {b xb : Nat} {w w' : World} {M M' : Nat → Prop} {sf sn sf' sn' : Option Nat} {D : DDr} (h : DGo b w M sf sn w' M' sf' sn') (hD : DriveAt w M b sf sn D) (hx : M xb) (hn : ¬ DM b sf sn xb) : XGo w w' M M' xb ∧ M' xb ∧ ¬ DM b sf' sn' xb :=
  ⟨⟨h.turn.mono fun c hc hm => hm.elim (fun h => by omega) (fun hm => ⟨hD.own c hm, fun e => hn (e ▸ hm)⟩), h.less⟩, h.more xb hx, fun hm => hn (h.own xb (hD.old xb hx) hm)⟩
/-- A journal in order upon a drive that may be armed, but is not dead; block xb is another's. -/
structure ASess (pre : List UInt8) (w : World) (M : Nat → Prop) (xb b l : Nat) (D : DDr) (L : DLog) (s f : Nat) (rss : List (List (List UInt8))) (q U C : Nat) (P : Nat → List (List UInt8) → Prop) : Prop where
  mem : ∃ sf sn g, DriveAt w M b sf sn D ∧ LogAt w M l b g pre L ∧ M xb ∧ ¬ JM b sf sn l g xb
  dead : D.dead = false
  good : GoodJ pre D.seen s f L.files rss
  crash : CrashOk pre q U P D
  few : s + L.files.length ≤ q
  used : usedB D.seen ≤ U
  cnt : D.safe.length + D.queue.length ≤ C
/-- A dead drive. -/
structure DeadS (pre : List UInt8) (w : World) (M : Nat → Prop) (xb b : Nat) (D : DDr) (q U C : Nat) (P : Nat → List (List UInt8) → Prop) : Prop where
  mem : ∃ sf sn, DriveAt w M b sf sn D ∧ M xb ∧ ¬ DM b sf sn xb
  dead : D.dead = true
  crash : CrashOk pre q U P D
  cnt : D.safe.length + D.queue.length ≤ C
section
variable {pre : List UInt8} {w : World} {M : Nat → Prop} {xb b l : Nat} {D : DDr} {L : DLog} {s f : Nat} {rss : List (List (List UInt8))} {q U C : Nat} {P : Nat → List (List UInt8) → Prop}
theorem ASess.step {w' : World} (h : ASess pre w M xb b l D L s f rss q U C P) (hs : Step w w') : ASess pre w' M xb b l D L s f rss q U C P := by
  obtain ⟨⟨sf, sn, g, h1, h2, hx⟩, h3, h4, h5, h6, h7, h8⟩ := h
  exact ⟨⟨sf, sn, g, h1.step hs, h2.step hs, hx⟩, h3, h4, h5, h6, h7, h8⟩
theorem ASess.more {q' U' C' : Nat} {P' : Nat → List (List UInt8) → Prop} (h : ASess pre w M xb b l D L s f rss q U C P) (hq : q ≤ q') (hU : U ≤ U') (hC : C ≤ C') (hP : ∀ f rs, P f rs → P' f rs) : ASess pre w M xb b l D L s f rss q' U' C' P' :=
  ⟨h.mem, h.dead, h.good, h.crash.more hq hU hP, Nat.le_trans h.few hq, Nat.le_trans h.used hU, Nat.le_trans h.cnt hC⟩
theorem DeadS.step {w' : World} (h : DeadS pre w M xb b D q U C P) (hs : Step w w') : DeadS pre w' M xb b D q U C P := by
  obtain ⟨⟨sf, sn, h1, hx⟩, h2, h3, h4⟩ := h
  exact ⟨⟨sf, sn, h1.step hs, hx⟩, h2, h3, h4⟩
theorem DeadS.more {q' U' C' : Nat} {P' : Nat → List (List UInt8) → Prop} (h : DeadS pre w M xb b D q U C P) (hq : q ≤ q') (hU : U ≤ U') (hC : C ≤ C') (hP : ∀ f rs, P f rs → P' f rs) : DeadS pre w M xb b D q' U' C' P' :=
  ⟨h.mem, h.dead, h.crash.more hq hU hP, Nat.le_trans h.cnt hC⟩
theorem ASess.append {M2 : Nat → Prop} {U' : Nat} {P' : Nat → List (List UInt8) → Prop} {rv : Value} {recs : List (List UInt8)} (h : ASess pre w M xb b l D L s f rss q U C P) (hp : pre.length ≤ 998) (hq : q < 98) (hrep : (Ty.slice Ty.bytes).rep w M2 [rv] recs) (hr : ∀ r ∈ recs, r.length ≤ 1048576)
    (hU : U + (dataL L recs).length ≤ U') (hU2 : (U' : Int) ≤ D.room) (hU3 : U' ≤ 4294967296) (hro : D.room ≤ 1099511627776) (hC : C < 900000) (hf : f + rss.flatten.length + recs.length < 18446744073709551616) (hPP : ∀ f rs, P f rs → P' f rs) (hP : ∀ j, j ≤ recs.length → P' f (rss.flatten ++ recs.take j)) :
    Calls Tryz.prog 14 #[.pointer (some ⟨l, 0, none⟩), rv] w fun e w' => ∃ (u er : Int), e = .returned (.tuple #[.int .u64 u, .int .i64 er]) ∧ ∃ M' D', XGo w w' M M' xb ∧ D'.room = D.room ∧
      ((er = 0 ∧ ∃ L' rss', ASess pre w' M' xb b l D' L' s f rss' (q + 1) U' (C + 1) P' ∧ rss'.flatten = rss.flatten ++ recs) ∨ (er = 9 ∧ DeadS pre w' M' xb b D' (q + 1) U' (C + 1) P')) := by
  obtain ⟨sf, sn, g, hD, hL, hx, hn⟩ := h.mem
  have hI : JInv pre (unA D) L s f rss := GoodJ.inv (D := unA D) h.good rfl rfl
  have hfew := h.few
  have hcnt := h.cnt
  have hus := h.used
  have hR0 : RoomJ pre (unA D) L recs := hI.roomJ hp (by omega) (by show (usedB D.seen : Int) ≤ D.room; omega) hro (by show D.safe.length + D.queue.length < _; omega) (by omega) hf (by show usedB D.seen ≤ _; omega)
  have hRJ : RoomJ pre D L recs := ⟨hR0.1, hR0.2, hR0.3, hR0.4, hR0.5, hR0.6, hR0.7, hR0.8, hR0.9, hR0.10, hR0.11⟩
  refine (jAppend_ hD hL hrep hRJ).mono ?_
  rintro e w' ⟨rfl, M', sf', sn', g', hD', hL', hGo⟩
  obtain ⟨hcg, hx1, hx2⟩ := hGo.xgo hD hL hx hn
  by_cases h0 : recs = []
  · subst h0
    have e1 : appendJ pre D L [] = ((D, L), (lastF L.files).to_, 0) := if_pos rfl
    rw [e1] at hD' hL' ⊢
    exact ⟨_, _, rfl, M', D, hcg, rfl, .inl ⟨rfl, L, rss, ⟨⟨sf', sn', g', hD', hL', hx1, hx2⟩, h.dead, h.good, h.crash.more (by omega) (by omega) hPP, by omega, by omega, by omega⟩, by simp⟩⟩
  · have hroom : ¬ D.room - (usedB D.seen : Int) < ((dataL L recs).length : Int) := by omega
    have hA : appendJ pre D L recs = if (appendD D (nameB pre (openF L).serial) (dataL L recs)).2 = 0 then (((appendD D (nameB pre (openF L).serial) (dataL L recs)).1, pushL L recs), (lastF L.files).to_, 0) else (((appendD D (nameB pre (openF L).serial) (dataL L recs)).1, L), 0, (appendD D (nameB pre (openF L).serial) (dataL L recs)).2) := by
      unfold appendJ
      rw [if_neg h0, if_neg (by rw [tooLong_not hr]; simp)]
    obtain ⟨l2, k, hok⟩ := append_live (s := nameB pre (openF L).serial) h.dead hroom
    have hcr : CrashOk pre (q + 1) U' P' { D with seen := putK DPair.key ⟨nameB pre (openF L).serial, dataB D.seen (nameB pre (openF L).serial) ++ dataL L recs⟩ D.seen, queue := D.queue ++ [.wr (nameB pre (openF L).serial) (dataB D.seen (nameB pre (openF L).serial)).length (dataL L recs)], left := l2, dead := k } := by
      refine CrashOk.push (x := .wr (nameB pre (openF L).serial) (dataB D.seen (nameB pre (openF L).serial)).length (dataL L recs)) (h.crash.more (q' := q + 1) (by omega) (by omega) hPP) hD.wf.same rfl rfl (fun n _ _ => ?_)
      show StJ pre (q + 1) U' P' (putK DPair.key ⟨_, writeB _ _ ((dataL L recs).take (n - 1))⟩ D.seen)
      rw [writeB_end]
      exact h.good.part hr (by omega) (by omega) (by omega) (by omega) hP _
    obtain ⟨D2, hD2⟩ : ∃ D2 : DDr, D2 = { D with seen := putK DPair.key ⟨nameB pre (openF L).serial, dataB D.seen (nameB pre (openF L).serial) ++ dataL L recs⟩ D.seen, queue := D.queue ++ [.wr (nameB pre (openF L).serial) (dataB D.seen (nameB pre (openF L).serial)).length (dataL L recs)], left := l2, dead := k } := ⟨_, rfl⟩
    rw [← hD2] at hok hcr
    have t1 : D2.room = D.room := by rw [hD2]
    have t2 : D2.dead = k := by rw [hD2]
    have t3 : D2.seen = putK DPair.key ⟨nameB pre (openF L).serial, dataB D.seen (nameB pre (openF L).serial) ++ dataL L recs⟩ D.seen := by rw [hD2]
    have t4 : D2.safe.length + D2.queue.length ≤ C + 1 := by
      rw [hD2]
      show D.safe.length + (D.queue ++ _).length ≤ C + 1
      rw [List.length_append, List.length_singleton]
      omega
    clear hD2
    rw [hok] at hA
    simp only at hA
    cases k with
    | true =>
      rw [if_pos rfl, if_neg (by omega)] at hA
      rw [hA] at hD' hL' ⊢
      exact ⟨_, _, rfl, M', D2, hcg, t1, .inr ⟨rfl, ⟨sf', sn', hD', hx1, fun h => hx2 (.inl h)⟩, t2, hcr, t4⟩⟩
    | false =>
      simp only [Bool.false_eq_true, if_false, if_true] at hA
      rw [hA] at hD' hL' ⊢
      rcases hI.append h0 hr (by omega) with e1 | ⟨rss', h1, h2, h3, h4, h5, h6⟩
      · exfalso
        have hA0 : appendJ pre (unA D) L recs = if (appendD (unA D) (nameB pre (openF L).serial) (dataL L recs)).2 = 0 then (((appendD (unA D) (nameB pre (openF L).serial) (dataL L recs)).1, pushL L recs), (lastF L.files).to_, 0) else (((appendD (unA D) (nameB pre (openF L).serial) (dataL L recs)).1, L), 0, (appendD (unA D) (nameB pre (openF L).serial) (dataL L recs)).2) := by
          unfold appendJ
          rw [if_neg h0, if_neg (by rw [tooLong_not hr]; simp)]
        rw [appendD_ok (D := unA D) (s := nameB pre (openF L).serial) rfl rfl hroom, if_pos rfl] at hA0
        rw [hA0] at e1
        simp at e1
      · rw [appendD_ok (D := unA D) (s := nameB pre (openF L).serial) rfl rfl hroom] at h4
        have hg := h3.goodJ
        rw [h4, h5] at hg
        refine ⟨_, _, rfl, M', D2, hcg, t1, .inl ⟨rfl, _, rss', ⟨⟨sf', sn', g', hD', hL', hx1, hx2⟩, t2, by rw [t3]; exact hg, hcr, ?_, ?_, t4⟩, h1⟩⟩
        · unfold pushL
          rw [List.length_append, List.length_singleton]
          split
          · omega
          · rw [List.length_dropLast]; omega
        · rw [t3, usedB_put h.good.rising]
          omega
/-- What is behind a flush of the drive. -/
theorem ASess.flushed (h : ASess pre w M xb b l D L s f rss q U C P) {P' : Nat → List (List UInt8) → Prop} (hq : q < 99) (hP : P' f rss.flatten) :
    ((flushD D).2 = 0 ∧ (flushD D).1.dead = false ∧ (flushD D).1.seen = D.seen ∧ CrashOk pre q U P' (flushD D).1 ∧ (flushD D).1.room = D.room ∧ (flushD D).1.safe.length + (flushD D).1.queue.length ≤ 100) ∨ ((flushD D).2 = 9 ∧ (flushD D).1.dead = true ∧ CrashOk pre q U P (flushD D).1 ∧ (flushD D).1.room = D.room ∧ (flushD D).1.safe.length + (flushD D).1.queue.length ≤ C) := by
  have hlen := h.good.few (by have := h.few; omega)
  have hfew := h.few
  rcases flush_live h.dead with ⟨l2, hl⟩ | hl
  · rw [hl]
    exact .inl ⟨rfl, h.dead, rfl, fun _ => h.good.st h.few h.used hP, rfl, by show D.seen.length + 0 ≤ 100; omega⟩
  · rw [hl]
    exact .inr ⟨rfl, rfl, h.crash, rfl, h.cnt⟩
theorem ASess.flush (h : ASess pre w M xb b l D L s f rss q U C P) {P' : Nat → List (List UInt8) → Prop} (hq : q < 99) (hP : P' f rss.flatten) :
    Calls Tryz.prog 31 #[.pointer (some ⟨b, 0, none⟩)] w fun e w' => ∃ er : Int, e = .returned (.int .i64 er) ∧ ∃ M' D', XGo w w' M M' xb ∧ D'.room = D.room ∧ ((er = 0 ∧ ASess pre w' M' xb b l D' L s f rss q U 100 P') ∨ (er = 9 ∧ DeadS pre w' M' xb b D' q U C P)) := by
  obtain ⟨sf, sn, g, hD, hL, hx, hn⟩ := h.mem
  refine (dFlush_ hD).mono ?_
  rintro e w' ⟨rfl, M', sf', sn', h1, h2⟩
  obtain ⟨hcg, hx1, hx2⟩ := (JGo.of (l := l) g h2).xgo hD hL hx hn
  refine ⟨_, rfl, M', (flushD D).1, hcg, ?_⟩
  rcases h.flushed hq hP with ⟨e1, e2, e3, e4, e5, e6⟩ | ⟨e1, e2, e3, e4, e5⟩
  · exact ⟨e5, .inl ⟨e1, ⟨⟨sf', sn', g, h1, hL.beside hD h2, hx1, hx2⟩, e2, by rw [e3]; exact h.good, e4, h.few, by rw [e3]; exact h.used, e6⟩⟩⟩
  · exact ⟨e4, .inr ⟨e1, ⟨sf', sn', h1, hx1, fun h => hx2 (.inl h)⟩, e2, e3, e5⟩⟩
theorem ASess.close (h : ASess pre w M xb b l D L s f rss q U C P) {P' : Nat → List (List UInt8) → Prop} (hq : q < 99) (hP : P' f rss.flatten) :
    Calls Tryz.prog 32 #[.pointer (some ⟨l, 0, none⟩)] w fun e w' => ∃ er : Int, e = .returned (.int .i64 er) ∧ ∃ M' D', XGo w w' M M' xb ∧ D'.room = D.room ∧ ((er = 0 ∧ ∃ L', ASess pre w' M' xb b l D' L' s f rss q U 100 P') ∨ (er = 9 ∧ DeadS pre w' M' xb b D' q U C P)) := by
  obtain ⟨sf, sn, g, hD, hL, hx, hn⟩ := h.mem
  refine (jClose_ hD hL).mono ?_
  rintro e w' ⟨rfl, M', sf', sn', g', h1, h2, h3⟩
  obtain ⟨hcg, hx1, hx2⟩ := h3.xgo hD hL hx hn
  refine ⟨_, rfl, M', (flushD D).1, hcg, ?_⟩
  rcases h.flushed hq hP with ⟨e1, e2, e3, e4, e5, e6⟩ | ⟨e1, e2, e3, e4, e5⟩
  · exact ⟨e5, .inl ⟨e1, _, ⟨⟨sf', sn', g', h1, h2, hx1, hx2⟩, e2, by rw [e3]; exact h.good, e4, h.few, by rw [e3]; exact h.used, e6⟩⟩⟩
  · exact ⟨e4, .inr ⟨e1, ⟨sf', sn', h1, hx1, fun h => hx2 (.inl h)⟩, e2, e3, e5⟩⟩
theorem drop_wordsA {below : Nat} (hPd : ∀ f r rs, P f (r ++ rs) → P (f + r.length) rs) (hq : q < 99) : ∀ (fs : List DFile) (D : DDr) (s f : Nat) (rss : List (List (List UInt8))), D.dead = false → D.seen = doAll D.queue D.safe → GoodJ pre D.seen s f fs rss → CrashOk pre q U P D → s + fs.length ≤ q → usedB D.seen ≤ U → P f rss.flatten →
    ∃ D' fs', D'.room = D.room ∧ D'.safe = D.safe ∧ D'.queue.length ≤ D.queue.length + fs.length ∧ CrashOk pre q U P D' ∧
      ((dropJ pre below D fs = ((D', fs'), 0) ∧ D'.dead = false ∧ ∃ s' f' rss', GoodJ pre D'.seen s' f' fs' rss' ∧ s' + fs'.length = s + fs.length ∧ usedB D'.seen ≤ U ∧ P f' rss'.flatten ∧ f' + rss'.flatten.length = f + rss.flatten.length) ∨
       (dropJ pre below D fs = ((D', fs'), 9) ∧ D'.dead = true))
  | [], D, s, f, rss, h1, _, hg, hc, hs, hu, hp => ⟨D, [], rfl, rfl, Nat.le_refl _, hc, .inl ⟨rfl, h1, s, f, rss, hg, rfl, hu, hp, rfl⟩⟩
  | [F], D, s, f, rss, h1, _, hg, hc, hs, hu, hp => ⟨D, [F], rfl, rfl, Nat.le_add_right _ _, hc, .inl ⟨rfl, h1, s, f, rss, hg, rfl, hu, hp, rfl⟩⟩
  | F :: G :: fs, D, s, f, rss, h1, hsame, hg, hc, hs, hu, hp => by
    by_cases hle : F.to_ ≤ below
    · rcases rss with _ | ⟨r, rss⟩
      · exact hg.chain.elim
      have hth : thereB D.seen (nameB pre F.serial) = true := hg.chain.1.there
      obtain ⟨l2, k, hr⟩ := remove_live h1 hth
      simp only [List.length_cons] at hs
      have hg2 := hg.dropFirst (by simp) (by simp only [List.length_cons]; omega)
      have hp2 : P (f + r.length) rss.flatten := hPd f r rss.flatten (by simpa using hp)
      have hu2 : usedB (dropK DPair.key (nameB pre F.serial) D.seen) ≤ U := Nat.le_trans (usedB_drop_le hg.rising _) hu
      have hst := hg2.st (P := P) (q := q) (U := U) (by simp only [List.length_cons]; omega) hu2 hp2
      have hcr : CrashOk pre q U P { D with seen := dropK DPair.key (nameB pre F.serial) D.seen, queue := D.queue ++ [.rm (nameB pre F.serial)], left := l2, dead := k } := hc.push (x := .rm (nameB pre F.serial)) hsame rfl rfl (fun n _ _ => hst)
      obtain ⟨D2, hD2⟩ : ∃ D2 : DDr, D2 = { D with seen := dropK DPair.key (nameB pre F.serial) D.seen, queue := D.queue ++ [.rm (nameB pre F.serial)], left := l2, dead := k } := ⟨_, rfl⟩
      rw [← hD2] at hr hcr
      have t1 : D2.room = D.room := by rw [hD2]
      have t2 : D2.dead = k := by rw [hD2]
      have t3 : D2.seen = dropK DPair.key (nameB pre F.serial) D.seen := by rw [hD2]
      have t4 : D2.safe = D.safe := by rw [hD2]
      have t5 : D2.queue = D.queue ++ [.rm (nameB pre F.serial)] := by rw [hD2]
      clear hD2
      cases k with
      | true =>
        refine ⟨D2, F :: G :: fs, t1, t4, ?_, hcr, .inr ⟨?_, t2⟩⟩
        · rw [t5]; simp only [List.length_append, List.length_cons, List.length_nil]; omega
        · rw [dropJ, if_pos hle, hr, if_pos rfl]
          simp only
          rw [if_neg (by omega)]
      | false =>
        obtain ⟨D', fs', e1, e2, e3, e4, e5⟩ := drop_wordsA (below := below) hPd hq (G :: fs) D2 (s + 1) (f + r.length) rss t2 (by rw [t3, t4, t5, doAll_snoc, ← hsame]; rfl) (by rw [t3]; exact hg2) hcr (by simp only [List.length_cons]; omega) (by rw [t3]; exact hu2) hp2
        have hdj : dropJ pre below D (F :: G :: fs) = dropJ pre below D2 (G :: fs) := by
          rw [dropJ, if_pos hle, hr]
          simp only [Bool.false_eq_true, if_false, if_true]
        refine ⟨D', fs', by rw [e1, t1], by rw [e2, t4], ?_, e4, ?_⟩
        · rw [t5] at e3; simp only [List.length_append, List.length_cons, List.length_nil] at e3 ⊢; omega
        · rw [hdj]
          refine e5.imp (fun h => ?_) id
          obtain ⟨k1, k2, s', f', rss', k3, k4, k5, k6, k7⟩ := h
          refine ⟨k1, k2, s', f', rss', k3, ?_, k5, k6, ?_⟩
          · simp only [List.length_cons] at k4 ⊢; omega
          · simp only [List.flatten_cons, List.length_append]; omega
    · exact ⟨D, F :: G :: fs, rfl, rfl, Nat.le_add_right _ _, hc, .inl ⟨by rw [dropJ, if_neg hle], h1, s, f, rss, hg, rfl, hu, hp, rfl⟩⟩
theorem ASess.drop {below : Nat} (h : ASess pre w M xb b l D L s f rss q U C P) (hp : pre.length ≤ 998) (hq : q < 99) (hb : below < 18446744073709551616) (hC : C + 100 < 1000000) (hPd : ∀ f r rs, P f (r ++ rs) → P (f + r.length) rs) (hP : P f rss.flatten) :
    Calls Tryz.prog 33 #[.pointer (some ⟨l, 0, none⟩), .int .u64 (below : Int)] w fun e w' => ∃ er : Int, e = .returned (.int .i64 er) ∧ ∃ M' D', XGo w w' M M' xb ∧ D'.room = D.room ∧ ((er = 0 ∧ ∃ L' s' f' rss', ASess pre w' M' xb b l D' L' s' f' rss' q U (C + 100) P ∧ P f' rss'.flatten ∧ f' + rss'.flatten.length = f + rss.flatten.length) ∨ (er = 9 ∧ DeadS pre w' M' xb b D' q U (C + 100) P)) := by
  obtain ⟨sf, sn, g, hD, hL, hx, hn⟩ := h.mem
  have hfew := h.few
  have hcnt := h.cnt
  obtain ⟨D', fs', e1, e2, e3, e4, e5⟩ := drop_wordsA (below := below) hPd hq L.files D s f rss h.dead hD.wf.same h.good h.crash hfew h.used hP
  have hser : ∀ F ∈ L.files, F.serial < 100 := fun F hF => by
    obtain ⟨i, _, _, hi, _, _, h6⟩ := h.good.chain.mem hF
    have := h6.serial
    omega
  have hc := jDrop_ (below := below) hD hL hp hb hser (by omega)
  rcases e5 with ⟨e5, e6, s', f', rss', k1, k2, k3, k4, k5⟩ | ⟨e5, e6⟩
  · rw [e5] at hc
    refine hc.mono ?_
    rintro e w' ⟨rfl, M', sf', sn', g', j1, j2, j3⟩
    obtain ⟨hcg, hx1, hx2⟩ := j3.xgo hD hL hx hn
    exact ⟨_, rfl, M', D', hcg, e1, .inl ⟨rfl, _, s', f', rss', ⟨⟨sf', sn', g', j1, j2, hx1, hx2⟩, e6, k1, e4, by show s' + fs'.length ≤ q; omega, k3, by rw [e2]; omega⟩, k4, k5⟩⟩
  · rw [e5] at hc
    refine hc.mono ?_
    rintro e w' ⟨rfl, M', sf', sn', g', j1, j2, j3⟩
    obtain ⟨hcg, hx1, hx2⟩ := j3.xgo hD hL hx hn
    exact ⟨_, rfl, M', D', hcg, e1, .inr ⟨rfl, ⟨sf', sn', j1, hx1, fun h => hx2 (.inl h)⟩, e6, e4, by rw [e2]; omega⟩⟩
theorem ASess.arm {n : Int} (h : ASess pre w M xb b l D L s f rss q U C P) (hI : I64 n) :
    Calls Tryz.prog 44 #[.pointer (some ⟨b, 0, none⟩), .int .i64 n] w fun e w' => e = .returned (.tuple #[]) ∧ XGo w w' M M xb ∧ ASess pre w' M xb b l (armD D n) L s f rss q U C P := by
  obtain ⟨sf, sn, g, hD, hL, hx, hn⟩ := h.mem
  refine (dArm_ hD hI).mono ?_
  rintro e w' ⟨rfl, h1, h2⟩
  obtain ⟨hcg, hx1, hx2⟩ := (JGo.of (l := l) g h2).xgo hD hL hx hn
  exact ⟨rfl, hcg, ⟨⟨sf, sn, g, h1, hL.beside hD h2, hx1, hx2⟩, h.dead, h.good, h.crash, h.few, h.used, h.cnt⟩⟩
/-- A drive in words, block xb another's. -/
def DrX (w : World) (M : Nat → Prop) (xb b : Nat) (D : DDr) : Prop := ∃ sf sn, DriveAt w M b sf sn D ∧ M xb ∧ ¬ DM b sf sn xb
theorem DrX.step {w' : World} (h : DrX w M xb b D) (hs : Step w w') : DrX w' M xb b D := by
  obtain ⟨sf, sn, h1, h2⟩ := h
  exact ⟨sf, sn, h1.step hs, h2⟩
theorem DrX.old (h : DrX w M xb b D) : ∀ c, M c → c < w.heap.size := by
  obtain ⟨sf, sn, h1, _⟩ := h
  exact h1.old
theorem ASess.drx (h : ASess pre w M xb b l D L s f rss q U C P) : DrX w M xb b D := by
  obtain ⟨sf, sn, g, hD, hL, hx, hn⟩ := h.mem
  exact ⟨sf, sn, hD, hx, fun h => hn (.inl h)⟩
/-- A crash, of a drive that may be dead. -/
theorem crash_any {keep : Int} (hD : DrX w M xb b D) (hc : CrashOk pre q U P D) (hk : I64 keep) :
    Calls Tryz.prog 38 #[.pointer (some ⟨b, 0, none⟩), .int .i64 keep] w fun e w' => e = .returned (.tuple #[]) ∧ ∃ M' x, DrX w' M' xb b (calmD x D.room) ∧ StJ pre q U P x ∧ XGo w w' M M' xb := by
  obtain ⟨sf, sn, hD, hx, hn⟩ := hD
  refine (dCrash_ hD hk).mono ?_
  rintro e w' ⟨rfl, M', sf', sn', h1, h2⟩
  obtain ⟨hcg, hx1, hx2⟩ := h2.xgo hD hx hn
  exact ⟨rfl, M', crashF D keep, ⟨sf', sn', h1, hx1, hx2⟩, hc _, hcg⟩
theorem arm_any {n : Int} (hD : DrX w M xb b D) (hn : I64 n) :
    Calls Tryz.prog 44 #[.pointer (some ⟨b, 0, none⟩), .int .i64 n] w fun e w' => e = .returned (.tuple #[]) ∧ DrX w' M xb b (armD D n) ∧ XGo w w' M M xb := by
  obtain ⟨sf, sn, hD, hx, hnn⟩ := hD
  refine (dArm_ hD hn).mono ?_
  rintro e w' ⟨rfl, h1, h2⟩
  obtain ⟨hcg, hx1, hx2⟩ := h2.xgo hD hx hnn
  exact ⟨rfl, ⟨sf, sn, h1, hx1, hx2⟩, hcg⟩
theorem open_any {x : List DPair} {room : Int} {most : Int} (hD : DrX w M xb b (calmD x room)) (hm : I64 most) (hp : pre.length ≤ 998) (hst : StJ pre q U P x) (hq : q < 99) (hU : U ≤ 68719476736) (hP : ∀ f rs, P f rs → f + rs.length < 18446744073709551616) :
    Calls Tryz.prog 12 #[.pointer (some ⟨b, 0, none⟩), encStr pre, .int .i64 most] w fun e w' => ∃ l, e = .returned (.tuple #[.pointer (some ⟨l, 0, none⟩), .int .i64 0]) ∧ ∃ M' seen fs s f rss, ASess pre w' M' xb b l (calmD seen room) ⟨max 1 most, fs, true⟩ s f rss q U 100 P ∧ P f rss.flatten ∧ XGo w w' M M' xb := by
  obtain ⟨sf, sn, hD, hx, hn⟩ := hD
  refine (jOpenC_ hD hm hp hst hq hU hP).mono ?_
  rintro e w' ⟨l, rfl, seen, s, f, fs, rss, h1, h2, h3, h4, hl, g, M', sf', sn', h5, h6, h7, h8⟩
  obtain ⟨hcg, hx1, hx2⟩ := h7.xgo hD hx hn
  have hxo := hD.old xb hx
  have hfew := h1.few (by omega)
  refine ⟨l, rfl, M', seen, fs, s, f, rss, ⟨⟨sf', sn', g, h5, h6, hx1, fun hm => ?_⟩, rfl, h1, CrashOk.calm (h1.st h2 h3 h4), h2, h3, by show seen.length + 0 ≤ 100; omega⟩, h4, hcg⟩
  rcases hm with hm | hm | hm
  · exact hx2 hm
  · omega
  · have := h8 xb hm; omega
theorem ASess.csess (h : ASess pre w M xb b l D L s f rss q U C P) (ha : D.armed = false) : CSess pre w M b l D L s f rss q U C P := by
  obtain ⟨sf, sn, g, hD, hL, _⟩ := h.mem
  exact ⟨⟨sf, sn, g, hD, hL⟩, GoodJ.inv h.good h.dead ha, h.crash, h.few, h.used, h.cnt⟩
/-- Only xb has turned. -/
theorem ASess.other {w' : World} (h : ASess pre w M xb b l D L s f rss q U C P) (hk : ∀ c, c ≠ xb → w'.heap[c]? = w.heap[c]?) (hz : w'.heap.size = w.heap.size) : ASess pre w' M xb b l D L s f rss q U C P := by
  obtain ⟨⟨sf, sn, g, hD, hL, hx, hn⟩, h3, h4, h5, h6, h7, h8⟩ := h
  obtain ⟨fv, k1, k2, k3⟩ := hL.row
  refine ⟨⟨sf, sn, g, hD.keep (fun c hc => ⟨hk c (fun e => hn (e ▸ .inl hc)), hD.own c hc⟩) (fun c hc hm => ⟨hk c (fun e => hm (e ▸ hx)), hm⟩) (fun c hc => by rw [hz]; exact hD.old c hc), ⟨⟨fv, CellsAt.kept k1 (hk l (fun e => hn (.inr (.inl e.symm)))), k2.kept (fun c hc => hk c (fun e => hn (.inr (.inr (by rw [← e, ← k3, hc]))))), k3⟩, hL.own, hL.gown, hL.ne, hL.most⟩, hx, hn⟩, h3, h4, h5, h6, h7, h8⟩
end
end Go.Proofs.YthebdlkmoailaaaGreatDoor

namespace Go.Proofs.YthebdlkmoailaaaGreatDoor
open Go.RowKit Go.Gr Go.Maps
open Go.Proofs (encStr)
set_option linter.unusedSimpArgs false
set_option linter.unusedVariables false
/-- What load comes to, upon a drive at D: the error er, and the drive at D1. -/
def LoadsAny (pre : List UInt8) (most : Int) (b : Nat) (sf sn : Option Nat) (D : DDr) (er : Int) (D1 : DDr) : Prop :=
  ∀ (W : World) (M : Nat → Prop) (l : Nat), DriveAt W M b sf sn D → M l → l ≠ b → LgAt W l b pre most (.slice none 0 0) true →
    Calls Tryz.prog 47 #[.pointer (some ⟨l, 0, none⟩)] W fun e w' => e = .returned (.int .i64 er) ∧ ∃ M' sf' sn', DriveAt w' M' b sf' sn' D1 ∧ JGo b l W M sf sn none w' M' sf' sn' none
set_option maxRecDepth 100000 in
set_option maxHeartbeats 8000000 in
theorem jOpenA_ {w : World} {M : Nat → Prop} {b : Nat} {sf sn : Option Nat} {D D1 : DDr} {er : Int} {pre : List UInt8} {most : Int} (h : DriveAt w M b sf sn D) (hdead : D.dead = false) (hm : I64 most) (hld : LoadsAny pre (max 1 most) b sf sn D er D1) :
    Calls Tryz.prog 12 #[.pointer (some ⟨b, 0, none⟩), encStr pre, .int .i64 most] w fun e w' => (∃ u, e = .returned u) ∧ ∃ M' sf' sn', DriveAt w' M' b sf' sn' (if er = 0 ∧ D.queue.length < D1.queue.length then (flushD D1).1 else D1) ∧ DGo b w M sf sn w' M' sf' sn' := by
  obtain ⟨queue, hr, hq⟩ := h.row
  obtain ⟨qa, qc, rfl, _, _, hql⟩ := Ty.slice_val hq
  have HDEAD : Hid (∀ W : World, Step w W → Calls Tryz.prog 45 #[.pointer (some ⟨b, 0, none⟩)] W fun e w' => e = .returned (.bool false) ∧ w' = W) := Lib.hid (fun W hW => by
    have h2 := dDead_ (CellsAt.step hr hW)
    rw [hdead] at h2
    exact h2)
  have HQ : Hid (∀ W : World, Step w W → Calls Tryz.prog 46 #[.pointer (some ⟨b, 0, none⟩)] W fun e w' => e = .returned (.int .i64 (D.queue.length : Int)) ∧ w' = W) := Lib.hid (fun W hW => dQueue_ (CellsAt.step hr hW))
  obtain ⟨mm, hmm⟩ : ∃ mm, mm = max 1 most := ⟨_, rfl⟩
  have hbw : b < w.heap.size := h.lt (.inl rfl)
  have HLOAD : Hid (∀ (W : World) (l : Nat), Step w W → w.heap.size ≤ l → LgAt W l b pre mm (.slice none 0 0) true → Calls Tryz.prog 47 #[.pointer (some ⟨l, 0, none⟩)] W fun e w' => e = .returned (.int .i64 er) ∧ ∃ M2 sf2 sn2, DriveAt w' M2 b sf2 sn2 D1 ∧ DGo b w M sf sn w' M2 sf2 sn2) := Lib.hid (fun W l hW hl hL => by
    have hz := hW.size
    have hDx : DriveAt W (fun c => M c ∨ c = l) b sf sn D := h.keep (fun c hc => ⟨hW.heap (h.lt hc), .inl (h.own c hc)⟩) (fun c hc hn => ⟨hW.heap hc, fun hx => hx.elim hn (fun e => by omega)⟩) (fun c hc => hc.elim (fun hc => Nat.lt_of_lt_of_le (h.old c hc) hW.size) (fun e => by rw [e]; exact hL.lt))
    rw [hmm] at hL
    refine (hld W _ l hDx (.inr rfl) (by omega) hL).mono ?_
    rintro e w' ⟨rfl, M2, sf2, sn2, h4, h5⟩
    refine ⟨rfl, M2, sf2, sn2, h4, ⟨(Turn.of hW).trans (h5.turn.mono fun c hc hx => ?_), fun c hc => h5.more c (.inl hc), fun c hc hx => (h5.less c (by omega) hx).elim id (fun e => by omega), fun c hc hx => ?_⟩⟩
    · rcases hx with hx | hx | hx | hx
      · exact .inl (by omega)
      · exact .inr hx
      · exact .inl (by omega)
      · cases hx
    · rcases h5.own c (by omega) (.inl hx) with hx | hx | hx
      · exact hx
      · omega
      · cases hx)
  have HMM := Lib.hid hmm
  clear h hr hq hld
  obtain ⟨DF, hDF⟩ : ∃ DF, DF = if er = 0 ∧ D.queue.length < D1.queue.length then (flushD D1).1 else D1 := ⟨_, rfl⟩
  rw [← hDF]
  generalize hN : D.queue.length = N at *
  generalize hN1 : D1.queue.length = N1 at *
  have HN1 := Lib.hid hN1
  have HDF := Lib.hid hDF
  clear hmm hN hN1 hDF
  go_enter Tryz.func12, Tryz.ntmps12
  go_upto_region 5 with (first
    | (go_at_call 45; refine (HDEAD.out _ stp).mono ?_; rintro e w1 ⟨rfl, hw1⟩; subst w1)
    | (go_at_call 46; refine (HQ.out _ stp).mono ?_; rintro e w1 ⟨rfl, hw1⟩; subst w1))
  obtain ⟨l, hl⟩ : ∃ l, l = w.heap.size := ⟨_, rfl⟩
  rw [← hl]
  refine wp_code (fun wx => LgAt wx l b pre mm (.slice none 0 0) true ∧ Step w wx) ⟨by rw [HMM.out]; exact CellsAt.new hl, by (repeat (first | exact Step.refl _ | refine Step.alloc ?_ _ | refine Step.drew ?_ | refine Step.drewN ?_ _ | refine Step.setCell ?_ (by first | exact Nat.le_refl _ | assumption | omega | (simp; done) | (simp; omega)) _ | assumption | refine Step.trans ?_ (by assumption : Step _ _)))⟩ ?_
  have hwl := Lib.hid (Nat.le_of_eq hl.symm)
  rintro w1 ⟨hl1, hS1⟩
  have HL1 := Lib.hid hl1
  have HS1 := Lib.hid hS1
  clear hl hl1 hS1 HDEAD HQ
  go_upto_region 6 with (go_at_call 47; refine (HLOAD.out _ _ (HS1.out.trans stp) hwl.out (CellsAt.step HL1.out stp)).mono ?_; rintro e w2 ⟨rfl, M2, sf2, sn2, hD2, hG2⟩)
  obtain ⟨queue2, hr2, hq2⟩ := hD2.row
  obtain ⟨qa2, qc2, rfl, _, _, _⟩ := Ty.slice_val hq2
  clear hq2
  have HQ2 : Hid (∀ W : World, Step w2 W → Calls Tryz.prog 46 #[.pointer (some ⟨b, 0, none⟩)] W fun e w' => e = .returned (.int .i64 (N1 : Int)) ∧ w' = W) := Lib.hid (fun W hW => by rw [← HN1.out]; exact dQueue_ (CellsAt.step hr2 hW))
  obtain ⟨fe, hfe⟩ : ∃ fe, fe = (flushD D1).2 := ⟨_, rfl⟩
  have HFL : Hid (∀ W : World, Step w2 W → Calls Tryz.prog 31 #[.pointer (some ⟨b, 0, none⟩)] W fun e w' => e = .returned (.int .i64 fe) ∧ ∃ M3 sf3 sn3, DriveAt w' M3 b sf3 sn3 (flushD D1).1 ∧ DGo b w M sf sn w' M3 sf3 sn3) := Lib.hid (fun W hW => by
    have h := dFlush_ (hD2.step hW)
    rw [← hfe] at h
    refine h.mono ?_
    rintro e w' ⟨rfl, M3, sf3, sn3, h1, h2⟩
    exact ⟨rfl, M3, sf3, sn3, h1, hG2.trans (DGo.from hW hD2.old h2)⟩)
  have HD2 := Lib.hid hD2
  have HG2 := Lib.hid hG2
  clear hD2 hG2 hr2 HLOAD hfe
  by_cases her : er = 0
  · subst her
    by_cases hlt : N < N1
    · have hd : decide ((N : Int) < (N1 : Int)) = true := decide_eq_true (by omega)
      have HLT := Lib.hid hlt
      have HE : Hid (DF = (flushD D1).1) := Lib.hid (by rw [HDF.out, if_pos ⟨rfl, HLT.out⟩])
      by_cases hf0 : fe = 0
      · subst hf0
        go_wp2_with (first
          | (go_at_call 46; refine (HQ2.out _ stp).mono ?_; rintro e w3 ⟨rfl, hw3⟩; subst w3)
          | (go_at_call 31; refine (HFL.out _ stp).mono ?_; rintro e w4 ⟨rfl, M3, sf3, sn3, hD3, hG3⟩; have HD3 := Lib.hid hD3; have HG3 := Lib.hid hG3; clear hD3 hG3))
        go_ret2
        exact ⟨⟨_, rfl⟩, M3, sf3, sn3, by rw [HE.out]; exact HD3.out.step stp, ⟨HG3.out.turn.then stp, HG3.out.more, HG3.out.less, HG3.out.own⟩⟩
      · have hfe1 : (fe == 0) = false := by simp [hf0]
        go_wp2_with (first
          | (go_at_call 46; refine (HQ2.out _ stp).mono ?_; rintro e w3 ⟨rfl, hw3⟩; subst w3)
          | (go_at_call 31; refine (HFL.out _ stp).mono ?_; rintro e w4 ⟨rfl, M3, sf3, sn3, hD3, hG3⟩; have HD3 := Lib.hid hD3; have HG3 := Lib.hid hG3; clear hD3 hG3))
        go_ret2
        exact ⟨⟨_, rfl⟩, M3, sf3, sn3, by rw [HE.out]; exact HD3.out.step stp, ⟨HG3.out.turn.then stp, HG3.out.more, HG3.out.less, HG3.out.own⟩⟩
    · have hd : decide ((N : Int) < (N1 : Int)) = false := decide_eq_false (by omega)
      have HE : Hid (DF = D1) := Lib.hid (by rw [HDF.out, if_neg (fun h => hlt h.2)])
      go_wp2_with (go_at_call 46; refine (HQ2.out _ stp).mono ?_; rintro e w3 ⟨rfl, hw3⟩; subst w3)
      go_ret2
      exact ⟨⟨_, rfl⟩, M2, sf2, sn2, by rw [HE.out]; exact HD2.out.step stp, ⟨HG2.out.turn.then stp, HG2.out.more, HG2.out.less, HG2.out.own⟩⟩
  · have her1 : (er == 0) = false := by simp [her]
    have HE : Hid (DF = D1) := Lib.hid (by rw [HDF.out, if_neg (fun h => her h.1)])
    go_wp2
    go_ret2
    exact ⟨⟨_, rfl⟩, M2, sf2, sn2, by rw [HE.out]; exact HD2.out.step stp, ⟨HG2.out.turn.then stp, HG2.out.more, HG2.out.less, HG2.out.own⟩⟩
end Go.Proofs.YthebdlkmoailaaaGreatDoor

namespace Go.Proofs.YthebdlkmoailaaaGreatDoor
open Go.RowKit Go.Gr Go.Maps
open Go.Proofs (encStr)
set_option linter.unusedSimpArgs false
set_option linter.unusedVariables false
theorem trim_live {D : DDr} {nm : List UInt8} {z : Nat} (h1 : D.dead = false) (h : thereB D.seen nm = true) : ∃ l k, trimD D nm z = ({ D with seen := putK DPair.key ⟨nm, (dataB D.seen nm).take z⟩ D.seen, queue := D.queue ++ [.tr nm z], left := l, dead := k }, if k then 9 else 0) := by
  have hn : noneB D.seen nm = 0 := if_pos h
  unfold trimD
  rw [hn]
  exact raw_live h1
theorem flush_crash {pre : List UInt8} {q U : Nat} {P : Nat → List (List UInt8) → Prop} {D : DDr} (h : CrashOk pre q U P D) (hd : D.dead = false) (hs : StJ pre q U P D.seen) : CrashOk pre q U P (flushD D).1 ∧ (flushD D).1.room = D.room := by
  rcases flush_live hd with ⟨l, hl⟩ | hl
  · rw [hl]; exact ⟨fun _ => hs, rfl⟩
  · rw [hl]; exact ⟨h, rfl⟩
theorem open_armed {w : World} {M : Nat → Prop} {xb b q U : Nat} {x : List DPair} {room : Int} {D : DDr} {pre : List UInt8} {most : Int} {P : Nat → List (List UInt8) → Prop} (h0 : DrX w M xb b D) (hsa : D.safe = x) (hse : D.seen = x) (hqu : D.queue = []) (hd : D.dead = false) (hro : D.room = room) (hm : I64 most) (hp : pre.length ≤ 998) (hst : StJ pre q U P x) (hq : q < 99) (hU : U ≤ 68719476736) (hP : ∀ f rs, P f rs → f + rs.length < 18446744073709551616) :
    Calls Tryz.prog 12 #[.pointer (some ⟨b, 0, none⟩), encStr pre, .int .i64 most] w fun e w' => (∃ u, e = .returned u) ∧ ∃ M' D', DrX w' M' xb b D' ∧ CrashOk pre q U P D' ∧ D'.room = room ∧ XGo w w' M M' xb := by
  obtain ⟨sf, sn, h, hxM, hxn⟩ := h0
  have hcr0 : CrashOk pre q U P D := fun k => by rw [hqu, hsa]; exact hst
  have hsame : D.seen = doAll D.queue D.safe := by rw [hqu, hsa, hse]; rfl
  obtain ⟨seen, s, f, fs, rss, hg, hsq, hux, hPf, hcs⟩ := id hst
  have hf := hP _ _ hPf
  have hsl := hg.few (by omega)
  rcases hcs with hx | ⟨hne, t, ht, hthere, hx, hdt⟩ | ⟨hs1, t, hnew, hx, hdt⟩
  · obtain ⟨_, ns, hn, hG⟩ := hg.good (by omega) hf (by rw [← hx]; omega)
    rw [← hx, ← hse] at hn hG
    have hla : LoadsAny pre (max 1 most) b sf sn D 0 D := fun W M0 l hD hM hlb hL => by
      refine (LoadsTo.good hd hp hn hG W M0 l hD hM hlb hL).mono ?_
      rintro e w' ⟨rfl, fv, M', sf', sn', _, _, _, k1, k2⟩
      exact ⟨rfl, M', sf', sn', k1, k2⟩
    refine (jOpenA_ h hd hm hla).mono ?_
    rintro e w' ⟨he, M', sf', sn', k1, k2⟩
    rw [if_neg (fun h => Nat.lt_irrefl _ h.2)] at k1
    exact ⟨he, M', D, ⟨sf', sn', k1, (k2.xgo h hxM hxn).2⟩, hcr0, hro, (k2.xgo h hxM hxn).1⟩
  · have hl : x.length ≤ 100 := by
      rw [hx]
      exact Nat.le_trans putK_length (by omega)
    obtain ⟨e1, ⟨ns, hn, hG⟩, e2⟩ := hg.cut hne (by omega) hf ht hdt hx (by omega)
    have hth : thereB D.seen (nameB pre (s + fs.length)) = true := by rw [hse, hx, thereB_put, if_pos rfl]
    have hdx : (dataB D.seen (nameB pre (s + fs.length))).take (lastF fs).size.toNat = dataB seen (nameB pre (s + fs.length)) := by
      rw [hse, hx, dataB_put, if_pos rfl, e2, List.take_left']
      rfl
    obtain ⟨l2, k, hT⟩ := trim_live (z := (lastF fs).size.toNat) hd hth
    rw [hdx] at hT
    have hback : putK DPair.key ⟨nameB pre (s + fs.length), dataB seen (nameB pre (s + fs.length))⟩ D.seen = seen := by rw [hse, hx, putK_twice hg.rising, putK_same hg.rising hthere]
    rw [hback] at hT
    have hus : usedB seen ≤ U := by
      refine Nat.le_trans ?_ hux
      rw [hx]
      conv => lhs; rw [← putK_same hg.rising hthere]
      exact usedB_le_put hg.rising _ _ _ (by simp)
    have hst2 : StJ pre q U P seen := hg.st hsq hus hPf
    obtain ⟨D1, hD1⟩ : ∃ D1 : DDr, D1 = { D with seen := seen, queue := D.queue ++ [.tr (nameB pre (s + fs.length)) (lastF fs).size.toNat], left := l2, dead := k } := ⟨_, rfl⟩
    rw [← hD1] at hT
    have hcr : CrashOk pre q U P D1 := hcr0.push (x := .tr (nameB pre (s + fs.length)) (lastF fs).size.toNat) hsame (by rw [hD1]) (by rw [hD1]) (fun n _ _ => by
      show StJ pre q U P (putK DPair.key ⟨_, (dataB D.seen _).take _⟩ D.seen)
      rw [hdx, hback]
      exact hst2)
    have t1 : D1.dead = k := by rw [hD1]
    have t2 : D1.seen = seen := by rw [hD1]
    have t3 : D1.room = room := by rw [hD1]; exact hro
    clear hD1
    rw [← hse] at hn hG
    have hla : LoadsAny pre (max 1 most) b sf sn D (if k then 9 else 0) D1 := fun W M0 l hD hM hlb hL => by
      have hjl := jLoadT_ hD hM hlb hd hL hp hn hG (by rw [hsa, hqu]; show x.length + 0 < 1000000; omega)
      rw [e1, hT] at hjl
      refine hjl.mono ?_
      rintro e w' ⟨rfl, fv, M', sf', sn', _, _, _, k1, k2⟩
      exact ⟨rfl, M', sf', sn', k1, k2⟩
    refine (jOpenA_ h hd hm hla).mono ?_
    rintro e w' ⟨he, M', sf', sn', k1, k2⟩
    by_cases hc : (if k then (9 : Int) else 0) = 0 ∧ D.queue.length < D1.queue.length
    · rw [if_pos hc] at k1
      have hk : k = false := by
        cases k
        · rfl
        · simp at hc
      obtain ⟨j1, j2⟩ := flush_crash hcr (by rw [t1, hk]) (by rw [t2]; exact hst2)
      exact ⟨he, M', _, ⟨sf', sn', k1, (k2.xgo h hxM hxn).2⟩, j1, by rw [j2, t3], (k2.xgo h hxM hxn).1⟩
    · rw [if_neg hc] at k1
      exact ⟨he, M', D1, ⟨sf', sn', k1, (k2.xgo h hxM hxn).2⟩, hcr, t3, (k2.xgo h hxM hxn).1⟩
  · have hl : x.length ≤ 100 := by
      rw [hx]
      exact Nat.le_trans putK_length (by omega)
    have hus : usedB seen ≤ U := by
      refine Nat.le_trans ?_ hux
      have hu := usedB_put (k := nameB pre (s + fs.length + 1)) (d := t) hg.rising
      rw [dataB_no hnew, List.nil_append] at hu
      rw [hx, hu]
      exact Nat.le_add_right _ _
    obtain ⟨ns, hn, hG⟩ := hg.bad (by omega) hf hdt hnew hx (by omega) (by omega)
    have hth : thereB D.seen (nameB pre (s + fs.length + 1)) = true := by rw [hse, hx, thereB_put, if_pos rfl]
    obtain ⟨l2, k, hT⟩ := remove_live hd hth
    have hback : dropK DPair.key (nameB pre (s + fs.length + 1)) D.seen = seen := by rw [hse, hx, dropK_put hg.rising hnew]
    rw [hback] at hT
    have hst2 : StJ pre q U P seen := hg.st hsq hus hPf
    obtain ⟨D1, hD1⟩ : ∃ D1 : DDr, D1 = { D with seen := seen, queue := D.queue ++ [.rm (nameB pre (s + fs.length + 1))], left := l2, dead := k } := ⟨_, rfl⟩
    rw [← hD1] at hT
    have hcr : CrashOk pre q U P D1 := hcr0.push (x := .rm (nameB pre (s + fs.length + 1))) hsame (by rw [hD1]) (by rw [hD1]) (fun n _ _ => by
      show StJ pre q U P (dropK DPair.key _ D.seen)
      rw [hback]
      exact hst2)
    have t1 : D1.dead = k := by rw [hD1]
    have t2 : D1.seen = seen := by rw [hD1]
    have t3 : D1.room = room := by rw [hD1]; exact hro
    clear hD1
    have hR : removeJ pre D [s + fs.length + 1] = (D1, if k then 9 else 0) := by
      unfold removeJ
      rw [hT]
      cases k with
      | false => simp [removeJ]
      | true => simp
    rw [← hse] at hn hG
    have hla : LoadsAny pre (max 1 most) b sf sn D (if k then 9 else 0) D1 := fun W M0 l hD hM hlb hL => by
      have hjl := jLoadR_ hD hM hlb hd hL hp hn hG (by rw [hsa, hqu]; show x.length + 0 + 1 < 1000000; omega)
      rw [hR] at hjl
      refine hjl.mono ?_
      rintro e w' ⟨rfl, fv, M', sf', sn', _, _, _, k1, k2⟩
      exact ⟨rfl, M', sf', sn', k1, k2⟩
    refine (jOpenA_ h hd hm hla).mono ?_
    rintro e w' ⟨he, M', sf', sn', k1, k2⟩
    by_cases hc : (if k then (9 : Int) else 0) = 0 ∧ D.queue.length < D1.queue.length
    · rw [if_pos hc] at k1
      have hk : k = false := by
        cases k
        · rfl
        · simp at hc
      obtain ⟨j1, j2⟩ := flush_crash hcr (by rw [t1, hk]) (by rw [t2]; exact hst2)
      exact ⟨he, M', _, ⟨sf', sn', k1, (k2.xgo h hxM hxn).2⟩, j1, by rw [j2, t3], (k2.xgo h hxM hxn).1⟩
    · rw [if_neg hc] at k1
      exact ⟨he, M', D1, ⟨sf', sn', k1, (k2.xgo h hxM hxn).2⟩, hcr, t3, (k2.xgo h hxM hxn).1⟩
end Go.Proofs.YthebdlkmoailaaaGreatDoor

namespace Go.Proofs.YthebdlkmoailaaaGreatDoor
open Go.RowKit Go.Gr Go.Maps
set_option linter.unusedSimpArgs false
set_option linter.unusedVariables false
theorem CSess.more {pre : List UInt8} {w : World} {M : Nat → Prop} {b l : Nat} {D : DDr} {L : DLog} {s f : Nat} {rss : List (List (List UInt8))} {q q' U U' C C' : Nat} {P P' : Nat → List (List UInt8) → Prop} (h : CSess pre w M b l D L s f rss q U C P) (hq : q ≤ q') (hU : U ≤ U') (hC : C ≤ C') (hP : ∀ f rs, P f rs → P' f rs) : CSess pre w M b l D L s f rss q' U' C' P' :=
  ⟨h.mem, h.inv, h.crash.more hq hU hP, Nat.le_trans h.few hq, Nat.le_trans h.used hU, Nat.le_trans h.cnt hC⟩
/-- Where the k-th span must begin. -/
def spanAt (f : Nat) (fs : List DFile) (k : Nat) : Nat := match k with
  | 0 => f
  | k + 1 => (fs.getD k DFile.none).to_
theorem ChainJ.spans {pre : List UInt8} {seen : List DPair} {s f : Nat} {fs : List DFile} {rss : List (List (List UInt8))} (h : ChainJ pre seen s f fs rss) {k : Nat} (hk : k < fs.length) : fs[k].from_ = spanAt f fs k ∧ fs[k].from_ ≤ fs[k].to_ ∧ spanAt f fs (k + 1) = fs[k].to_ := by
  refine ⟨?_, ?_, ?_⟩
  · rcases k with _ | k
    · rcases fs with _ | ⟨F, fs⟩
      · simp at hk
      · rcases rss with _ | ⟨r, rss⟩
        · exact h.elim
        · exact h.1.from_
    · rw [(h.joins k hk).2]
      unfold spanAt
      simp only [List.getD_eq_getElem?_getD, List.getElem?_eq_getElem (show k < fs.length by omega), Option.getD_some]
  · obtain ⟨i, g, rs, _, _, _, h6⟩ := h.mem (List.getElem_mem hk)
    rw [h6.from_, h6.to_]
    exact Nat.le_add_right _ _
  · unfold spanAt
    simp only [List.getD_eq_getElem?_getD, List.getElem?_eq_getElem hk, Option.getD_some]
theorem GoodJ.spans_end {pre : List UInt8} {seen : List DPair} {s f : Nat} {fs : List DFile} {rss : List (List (List UInt8))} (h : GoodJ pre seen s f fs rss) : spanAt f fs fs.length = f + rss.flatten.length := by
  have h2 := (serial_of h).2
  rcases files_cases fs with h0 | ⟨i, F, h0⟩
  · have h3 := (h.start h0).2
    subst h0
    have h4 := h.chain.len
    have h5 : rss = [] := List.length_eq_zero_iff.1 (by simpa using h4)
    subst h5
    rfl
  · subst h0
    rw [lastF_snoc] at h2
    rw [← h2, List.length_append, List.length_singleton]
    unfold spanAt
    simp
end Go.Proofs.YthebdlkmoailaaaGreatDoor

namespace Go.Proofs.YthebdlkmoailaaaGreatDoor
open Go.RowKit Go.Gr Go.Maps
open Go.Proofs (encStr)
set_option linter.unusedSimpArgs false
set_option linter.unusedVariables false
/-- Behind whichever crash: a beginning of all, and what is sure. -/
def PC (all : List (List UInt8)) (sure f : Nat) (rs : List (List UInt8)) : Prop := sure ≤ f + rs.length ∧ f + rs.length ≤ all.length ∧ rs = (all.take (f + rs.length)).drop f
theorem PC.more {all recs : List (List UInt8)} {sure f : Nat} {rs : List (List UInt8)} (h : PC all sure f rs) : PC (all ++ recs) sure f rs := by
  obtain ⟨h1, h2, h3⟩ := h
  exact ⟨h1, by rw [List.length_append]; omega, by rw [List.take_append_of_le_length h2]; exact h3⟩
theorem PC.drop {all : List (List UInt8)} {sure f : Nat} {r rs : List (List UInt8)} (h : PC all sure f (r ++ rs)) : PC all sure (f + r.length) rs := by
  obtain ⟨h1, h2, h3⟩ := h
  rw [List.length_append] at h1 h2 h3
  refine ⟨by omega, by omega, ?_⟩
  have h4 := congrArg (List.drop r.length) h3
  rw [List.drop_left' rfl, List.drop_drop] at h4
  rw [show f + r.length + rs.length = f + (r.length + rs.length) by omega]
  exact h4
theorem PC.whole {all : List (List UInt8)} {sure f : Nat} {rs : List (List UInt8)} (h : PC all sure f rs) (hn : f + rs.length = all.length) : rs = all.drop f := by
  have := h.2.2
  rwa [hn, List.take_length] at this
theorem PC.sure {all : List (List UInt8)} {sure f : Nat} {rs : List (List UInt8)} (h : PC all sure f rs) (hn : f + rs.length = all.length) : PC all all.length f rs := ⟨by omega, h.2.1, h.2.2⟩
theorem PC.grow {all recs : List (List UInt8)} {sure f : Nat} {rs : List (List UInt8)} (h : PC all sure f rs) (hn : f + rs.length = all.length) {j : Nat} (hj : j ≤ recs.length) : PC (all ++ recs) sure f (rs ++ recs.take j) := by
  have hl : (recs.take j).length = j := by rw [List.length_take]; omega
  refine ⟨by rw [List.length_append]; have := h.1; omega, by rw [List.length_append, List.length_append, hl]; omega, ?_⟩
  rw [List.length_append, hl, ← Nat.add_assoc, hn, List.take_length_add_append, List.drop_append_of_le_length (by omega), ← h.whole hn]
theorem PC.cut {all : List (List UInt8)} {sure f : Nat} {rs : List (List UInt8)} (h : PC all sure f rs) : PC (all.take (f + rs.length)) (f + rs.length) f rs := by
  obtain ⟨h1, h2, h3⟩ := h
  exact ⟨Nat.le_refl _, by rw [List.length_take]; omega, by rw [List.take_take, Nat.min_self]; exact h3⟩
/-- Block xb is the run: its drive, its journal, all that was appended, how many are sure; beside it the acts. -/
structure RunAt (w0 w : World) (M : Nat → Prop) (xb b : Nat) (lv : Value) (most : Int) (av : Value) (all : List (List UInt8)) (sure : Nat) (rv : Value) (acts : List DAct) : Prop where
  cells : CellsAt w xb #[.pointer (some ⟨b, 0, none⟩), lv, .int .i64 most, av, .int .u64 (sure : Int)] 80
  inM : M xb
  step : Step w0 w
  fresh : ∀ c, M c → w0.heap.size ≤ c
  rall : (Ty.slice Ty.bytes).rep w M [av] all
  row : (Ty.slice tAct).rep w M [rv] acts
  form : (av = .slice none 0 0 ∧ all = []) ∨ ∃ g o c, av = .slice (some ⟨g, o, none⟩) all.length c
section
variable {w0 w : World} {M : Nat → Prop} {xb b : Nat} {lv : Value} {most : Int} {av : Value} {all : List (List UInt8)} {sure : Nat} {rv : Value} {acts : List DAct}
theorem RunAt.next {w' : World} (h : RunAt w0 w M xb b lv most av all sure rv acts) (hs : Step w w') : RunAt w0 w' M xb b lv most av all sure rv acts :=
  ⟨h.cells.step hs, h.inM, h.step.trans hs, h.fresh, Ty.step _ h.rall hs, Ty.step _ h.row hs, h.form⟩
theorem RunAt.go {w' : World} {M' : Nat → Prop} (h : RunAt w0 w M xb b lv most av all sure rv acts) (g : XGo w w' M M' xb) (hx : M' xb) : RunAt w0 w' M' xb b lv most av all sure rv acts :=
  ⟨h.cells.kept (g.turn.block xb (CellsAt.lt h.cells) (fun hx => hx.2 rfl)), hx, g.cgo.step h.step h.fresh, g.cgo.fresh h.fresh h.step.size, g.cgo.keep h.rall, g.cgo.keep h.row, h.form⟩
/-- Its journal is put anew, and all that was appended, and how many are sure. -/
theorem RunAt.put {lv' av' : Value} {all' : List (List UInt8)} {sure' : Nat} {w' : World} (h : RunAt w0 w M xb b lv most av all sure rv acts) (hc : CellsAt w' xb #[.pointer (some ⟨b, 0, none⟩), lv', .int .i64 most, av', .int .u64 (sure' : Int)] 80) (hk : ∀ c, c ≠ xb → w'.heap[c]? = w.heap[c]?) (hs : Step w0 w') (hr : (Ty.slice Ty.bytes).rep w M [av'] all') (hf : (av' = .slice none 0 0 ∧ all' = []) ∨ ∃ g o c, av' = .slice (some ⟨g, o, none⟩) all'.length c) : RunAt w0 w' M xb b lv' most av' all' sure' rv acts :=
  ⟨hc, h.inM, hs, h.fresh, Ty.keep _ hr (fun c _ hm => ⟨hk c (fun e => hm (e ▸ h.inM)), hm⟩), Ty.keep _ h.row (fun c _ hm => ⟨hk c (fun e => hm (e ▸ h.inM)), hm⟩), hf⟩
end
theorem DrX.in {w : World} {M : Nat → Prop} {xb b : Nat} {D : DDr} (h : DrX w M xb b D) : M xb := by
  obtain ⟨_, _, _, h2, _⟩ := h
  exact h2
theorem twin_any {w : World} {M : Nat → Prop} {xb b : Nat} {D : DDr} (h : DrX w M xb b D) :
    Calls Tryz.prog 75 #[.pointer (some ⟨b, 0, none⟩)] w fun e w' => ∃ t M' sf' sn', e = .returned (.pointer (some ⟨t, 0, none⟩)) ∧ DriveAt w' M' t sf' sn' D ∧ Step w w' ∧ ∀ c, M' c → w.heap.size ≤ c := by
  obtain ⟨sf, sn, hD, _⟩ := h
  exact dTwin_ hD
/-- A journal that is looked at, wherever what lies from lo on stands as it stood. -/
def View (w : World) (lo l f n : Nat) : Prop := ∀ W : World, (∀ c, lo ≤ c → c < w.heap.size → W.heap[c]? = w.heap[c]?) →
  (Calls Tryz.prog 17 #[.pointer (some ⟨l, 0, none⟩)] W fun e w' => e = .returned (.int .u64 (n : Int)) ∧ Step W w') ∧ (Calls Tryz.prog 39 #[.pointer (some ⟨l, 0, none⟩)] W fun e w' => e = .returned (.int .u64 (f : Int)) ∧ w' = W) ∧ (Calls Tryz.prog 41 #[.pointer (some ⟨l, 0, none⟩)] W fun e w' => e = .returned (.int .u64 (n : Int)) ∧ Step W w')
theorem CSess.view {pre : List UInt8} {w : World} {M : Nat → Prop} {b l lo : Nat} {D : DDr} {L : DLog} {s f : Nat} {rss : List (List (List UInt8))} {q U C : Nat} {P : Nat → List (List UInt8) → Prop} (h : CSess pre w M b l D L s f rss q U C P) (hM : ∀ c, M c → lo ≤ c) (hc : L.closed = true) : View w lo l f (f + rss.flatten.length) := fun W hW => by
  obtain ⟨sf, sn, g, hD, hL⟩ := h.mem
  obtain ⟨fv, h1, h2, h3⟩ := hL.row
  have hl : LgAt W l b pre L.most fv L.closed := CellsAt.kept h1 (hW l (hM l hL.own) (CellsAt.lt h1))
  have hf : FRow W fv L.files := h2.kept (fun c hc => hW c (hM c (hL.gown c (h3 ▸ hc)).1) (h2.lt hc))
  have e1 := (h.inv.chain.last h.inv.start).2
  have j1 := jNext_ hl hf
  have j2 := jFirst_ hl hf
  have j3 := jClosed_ hl hf
  rw [e1] at j1 j3
  rw [firstL_le h.inv.chain h.inv.start] at j2
  rw [hc, if_pos rfl] at j3
  exact ⟨j1, j2, j3⟩
/-- Since w what lies from lo on stands, and is none of M. -/
structure Aside (w W : World) (lo : Nat) (M : Nat → Prop) : Prop where
  same : ∀ c, lo ≤ c → c < w.heap.size → W.heap[c]? = w.heap[c]?
  notM : ∀ c, lo ≤ c → c < w.heap.size → ¬ M c
  size : w.heap.size ≤ W.heap.size
theorem Aside.next {w W W' : World} {lo : Nat} {M : Nat → Prop} (h : Aside w W lo M) (hs : Step W W') : Aside w W' lo M :=
  ⟨fun c h1 h2 => (hs.heap (Nat.lt_of_lt_of_le h2 h.size)).trans (h.same c h1 h2), h.notM, Nat.le_trans h.size hs.size⟩
theorem Aside.go {w W W' : World} {lo : Nat} {M M' : Nat → Prop} (h : Aside w W lo M) (g : CGo W W' M M') : Aside w W' lo M' :=
  ⟨fun c h1 h2 => (g.turn.block c (Nat.lt_of_lt_of_le h2 h.size) (h.notM c h1 h2)).trans (h.same c h1 h2), fun c h1 h2 hx => h.notM c h1 h2 (g.less c (Nat.lt_of_lt_of_le h2 h.size) hx), Nat.le_trans h.size g.turn.size⟩
end Go.Proofs.YthebdlkmoailaaaGreatDoor

namespace Go.Proofs.YthebdlkmoailaaaGreatDoor
open Go.RowKit Go.Gr Go.Maps
open Go.Proofs (encStr)
set_option linter.unusedSimpArgs false
set_option linter.unusedVariables false
/-- A row of acts, read beside a journal's memory. -/
structure Beside (w0 w : World) (M : Nat → Prop) (rv : Value) (acs : List DAct) : Prop where
  step : Step w0 w
  fresh : ∀ c, M c → w0.heap.size ≤ c
  rep : (Ty.slice tAct).rep w M [rv] acs
theorem Beside.next {w0 w w' : World} {M : Nat → Prop} {rv : Value} {acs : List DAct} (h : Beside w0 w M rv acs) (hs : Step w w') : Beside w0 w' M rv acs := ⟨h.step.trans hs, h.fresh, Ty.step _ h.rep hs⟩
theorem Beside.go {w0 w w' : World} {M M' : Nat → Prop} {rv : Value} {acs : List DAct} (h : Beside w0 w M rv acs) (g : CGo w w' M M') : Beside w0 w' M' rv acs := ⟨g.step h.step h.fresh, g.fresh h.fresh h.step.size, g.keep h.rep⟩
abbrev UpTo (k : Nat) (f : Nat) (rs : List (List UInt8)) : Prop := f + rs.length ≤ 10 * k
/-- Behind k acts. -/
structure SpAt (w0 w : World) (M : Nat → Prop) (b l : Nat) (D : DDr) (L : DLog) (s f : Nat) (rss : List (List (List UInt8))) (k : Nat) (rv : Value) (acs : List DAct) : Prop where
  sess : CSess [119, 46] w M b l D L s f rss k (10000 * k) (200 * k + 100) (UpTo k)
  cnt : UpTo k f rss.flatten
  room : D.room = 1073741824
  row : Beside w0 w M rv acs
structure SpMid (w0 w : World) (M : Nat → Prop) (b : Nat) (sf sn : Option Nat) (x : List DPair) (k : Nat) (rv : Value) (acs : List DAct) : Prop where
  drive : DriveAt w M b sf sn (calmD x 1073741824)
  st : StJ [119, 46] k (10000 * k) (UpTo k) x
  row : Beside w0 w M rv acs
theorem SpMid.new {w0 w : World} {M : Nat → Prop} {b : Nat} {rv : Value} {acs : List DAct} (hs : Step w0 w) (hr : (Ty.slice tAct).rep w0 M [rv] acs) (hM : ∀ c, c < w0.heap.size → ¬ M c) (h : DrAt w b (.map none) (.map none) (.slice none 0 0) (max 0 1073741824) false 0 false) (hb : w0.heap.size ≤ b) : SpMid w0 w (· = b) b none none [] 0 rv acs := by
  refine ⟨?_, GoodJ.st (s := 0) (f := 0) (fs := []) (rss := []) ⟨trivial, NamesIn.nil _, List.Pairwise.nil, fun _ => ⟨rfl, rfl⟩⟩ (Nat.le_refl _) (by show usedB [] ≤ _; exact Nat.zero_le _) (by simp [UpTo]), ⟨hs, fun c hc => by rw [hc]; exact hb, Ty.keep _ hr (fun c hc hm => ⟨hs.heap hc, fun hx => by omega⟩)⟩⟩
  exact DriveAt.new h
theorem SpMid.next {w0 w w' : World} {M : Nat → Prop} {b k : Nat} {sf sn : Option Nat} {x : List DPair} {rv : Value} {acs : List DAct} (h : SpMid w0 w M b sf sn x k rv acs) (hs : Step w w') : SpMid w0 w' M b sf sn x k rv acs := ⟨h.drive.step hs, h.st, h.row.next hs⟩
theorem SpMid.open {w0 w : World} {M : Nat → Prop} {b k : Nat} {sf sn : Option Nat} {x : List DPair} {rv : Value} {acs : List DAct} {most : Int} (h : SpMid w0 w M b sf sn x k rv acs) (hk : k ≤ 40) (hm : I64 most) :
    Calls Tryz.prog 12 #[.pointer (some ⟨b, 0, none⟩), encStr [119, 46], .int .i64 most] w fun e w' => ∃ l, e = .returned (.tuple #[.pointer (some ⟨l, 0, none⟩), .int .i64 0]) ∧ ∃ M' D L s f rss, SpAt w0 w' M' b l D L s f rss k rv acs := by
  refine (open_st h.drive hm (by simp) h.st (by omega) (by omega) (fun f rs hx => by have : f + rs.length ≤ 10 * k := hx; omega)).mono ?_
  rintro e w' ⟨l, rfl, M', seen, fs, s, f, rss, h1, h2, h3⟩
  exact ⟨l, rfl, M', _, _, s, f, rss, h1.more (Nat.le_refl _) (Nat.le_refl _) (by omega) (fun _ _ h => h), h2, rfl, h.row.go h3⟩
section
variable {w0 w : World} {M : Nat → Prop} {b l : Nat} {D : DDr} {L : DLog} {s f : Nat} {rss : List (List (List UInt8))} {k : Nat} {rv : Value} {acs : List DAct}
theorem SpAt.next {w' : World} (h : SpAt w0 w M b l D L s f rss k rv acs) (hs : Step w w') : SpAt w0 w' M b l D L s f rss k rv acs := ⟨h.sess.step hs, h.cnt, h.room, h.row.next hs⟩
theorem UpTo.mono {k k' f : Nat} {rs : List (List UInt8)} (h : UpTo k f rs) (hk : k ≤ k') : UpTo k' f rs := by unfold UpTo at *; omega
/-- An act that does nothing. -/
theorem SpAt.more (h : SpAt w0 w M b l D L s f rss k rv acs) : SpAt w0 w M b l D L s f rss (k + 1) rv acs :=
  ⟨h.sess.more (by omega) (by omega) (by omega) (fun _ _ h => h.mono (by omega)), h.cnt.mono (by omega), h.room, h.row⟩
theorem SpAt.append {M2 : Nat → Prop} {v2 : Value} {recs : List (List UInt8)} (h : SpAt w0 w M b l D L s f rss k rv acs) (hk : k < 40) (hrep : (Ty.slice Ty.bytes).rep w M2 [v2] recs) (hr : (∀ r ∈ recs, r.length ≤ 600) ∧ recs.length ≤ 10) :
    Calls Tryz.prog 14 #[.pointer (some ⟨l, 0, none⟩), v2] w fun e w' => e = .returned (.tuple #[.int .u64 ((f + rss.flatten.length : Nat) : Int), .int .i64 0]) ∧ ∃ M' D' L' rss', SpAt w0 w' M' b l D' L' s f rss' (k + 1) rv acs := by
  have hc : f + rss.flatten.length ≤ 10 * k := h.cnt
  obtain ⟨hl1, hl2⟩ := h.sess.inv.chain.last h.sess.inv.start
  have hfew := h.sess.few
  have hdl := dataL_small (L := L) hr.1 hr.2 (by unfold openF; split <;> (try simp only) <;> omega) (by omega)
  refine (h.sess.append (U' := 10000 * (k + 1)) (P' := UpTo (k + 1)) (by simp) (by omega) hrep (fun r hx => by have := hr.1 r hx; omega) (by omega) (by rw [h.room]; omega) (by omega) (by rw [h.room]; omega) (by omega) (by omega) (fun f rs hx => hx.mono (by omega)) (fun j hj => by
    show f + _ ≤ _
    rw [List.length_append, List.length_take]
    omega)).mono ?_
  rintro e w' ⟨rfl, M', D', L', rss', h1, h2, h3, _, h5⟩
  refine ⟨rfl, M', D', L', rss', h1.more (Nat.le_refl _) (Nat.le_refl _) (by omega) (fun _ _ h => h), ?_, by rw [h3, h.room], h.row.go h2⟩
  show f + _ ≤ _
  rw [h5, List.length_append]
  omega
theorem SpAt.close (h : SpAt w0 w M b l D L s f rss k rv acs) (hk : k < 40) :
    Calls Tryz.prog 32 #[.pointer (some ⟨l, 0, none⟩)] w fun e w' => e = .returned (.int .i64 0) ∧ ∃ M' D' L', SpAt w0 w' M' b l D' L' s f rss (k + 1) rv acs := by
  refine (h.sess.close (by omega) h.cnt).mono ?_
  rintro e w' ⟨rfl, M', D', h1, h2, h3⟩
  exact ⟨rfl, M', D', _, h1.more (by omega) (by omega) (by omega) (fun _ _ h => h.mono (by omega)), h.cnt.mono (by omega), by rw [h3, h.room], h.row.go h2⟩
theorem SpAt.drop {below : Nat} (h : SpAt w0 w M b l D L s f rss k rv acs) (hk : k < 40) (hb : below < 18446744073709551616) :
    Calls Tryz.prog 33 #[.pointer (some ⟨l, 0, none⟩), .int .u64 (below : Int)] w fun e w' => e = .returned (.int .i64 0) ∧ ∃ M' D' L' s' f' rss', SpAt w0 w' M' b l D' L' s' f' rss' (k + 1) rv acs := by
  refine (h.sess.drop (by simp) (by omega) hb (by omega) (fun f r rs hx => by
    have : f + (r ++ rs).length ≤ 10 * k := hx
    show f + r.length + rs.length ≤ 10 * k
    rw [List.length_append] at this
    omega) h.cnt).mono ?_
  rintro e w' ⟨rfl, M', D', fs', s', f', rss', h1, h2, h3, h4⟩
  exact ⟨rfl, M', D', _, s', f', rss', h1.more (by omega) (by omega) (by omega) (fun _ _ h => h.mono (by omega)), h4.mono (by omega), by rw [h3, h.room], h.row.go h2⟩
theorem SpAt.crash {keep : Int} (h : SpAt w0 w M b l D L s f rss k rv acs) (hk : I64 keep) :
    Calls Tryz.prog 38 #[.pointer (some ⟨b, 0, none⟩), .int .i64 keep] w fun e w' => e = .returned (.tuple #[]) ∧ ∃ M' sf sn x, SpMid w0 w' M' b sf sn x k rv acs := by
  refine (h.sess.crashed hk).mono ?_
  rintro e w' ⟨rfl, M', sf, sn, x, h1, h2, h3⟩
  rw [h.room] at h1
  exact ⟨rfl, M', sf, sn, x, h1, h2, h.row.go h3⟩
theorem SpAt.small {n : Nat} (h : SpAt w0 w M b l D L s f rss k rv acs) (hn : n < 1000) :
    Calls Tryz.prog 28 #[rv, .int .i64 (n : Int)] w fun e w' => ∃ a c, e = .returned (.slice a (smallB acs n).length c) ∧ SpAt w0 w' M b l D L s f rss k (.slice a (smallB acs n).length c) (smallB acs n) ∧ Step w w' := by
  refine (lSmall_ h.sess.old h.row.rep hn).mono ?_
  rintro e w' ⟨v, rfl, hA, hS⟩
  obtain ⟨a, c, rfl⟩ := hA.val
  refine ⟨a, c, rfl, ⟨h.sess.step hS, h.cnt, h.room, ⟨h.row.step.trans hS, h.row.fresh, Own.rep' hA (fun b hb hm => ?_)⟩⟩, hS⟩
  have h1 := (hA.lt hb).1
  have h2 := h.sess.old b hm
  omega
end
theorem smallB_mem {acts : List DAct} {n : Nat} {x : DAct} (h : x ∈ smallB acts n) : (∀ r ∈ x.records, r.length ≤ 600) ∧ x.records.length ≤ 10 := by
  unfold smallB at h
  obtain ⟨y, _, rfl⟩ := List.mem_map.1 h
  show (∀ r ∈ shortB y.records, _) ∧ (shortB y.records).length ≤ 10
  unfold shortB
  refine ⟨fun r hr => ?_, by rw [List.length_map, List.length_take]; omega⟩
  obtain ⟨z, _, rfl⟩ := List.mem_map.1 hr
  rw [List.length_take]
  omega
/-- What Closed answers. -/
def clAt (L : DLog) (t : Nat) : Nat := if L.closed then t else (lastF L.files).from_
theorem clAt_le {pre : List UInt8} {seen : List DPair} {s f : Nat} {L : DLog} {rss : List (List (List UInt8))} (h : GoodJ pre seen s f L.files rss) : clAt L (f + rss.flatten.length) ≤ f + rss.flatten.length ∧ ∀ k (hk : k < L.files.length), k + 1 = L.files.length → L.files[k].from_ ≤ clAt L (f + rss.flatten.length) := by
  have h2 := (serial_of h).2
  rcases files_cases L.files with h0 | ⟨i, F, h0⟩
  · unfold clAt
    refine ⟨?_, fun k hk => by rw [h0] at hk; simp at hk⟩
    split
    · exact Nat.le_refl _
    · rw [h0]; exact Nat.zero_le _
  · have hi : i.length < L.files.length := by rw [h0]; simp
    have h3 := h.chain.spans hi
    have h4 : L.files[i.length] = F := by simp only [h0]; rw [List.getElem_append_right (Nat.le_refl _)]; simp
    have h5 : lastF L.files = F := by rw [h0, lastF_snoc]
    rw [h4] at h3
    rw [h5] at h2
    unfold clAt
    rw [h5]
    refine ⟨by split <;> omega, fun k hk hk2 => ?_⟩
    have : k = i.length := by rw [h0] at hk2; simp at hk2; omega
    subst this
    rw [h4]
    split <;> omega
end Go.Proofs.YthebdlkmoailaaaGreatDoor
