/-
  Plain words: what Open makes of a drive behind a crash.
  Walk: Begin.
  A journal upon a drive that may crash: what appends, Close, Crash and Open make of it.
  Close and Drop of a journal upon a drive that may crash.
  Plain words: what Open makes of a drive upon which something lies that does not open (the drive neither dead nor armed).
  What a journal upon a drive that may crash answers; what stays beside it.
  A journal of one file upon a drive, in words: what Append makes of it; what it is when a byte of its file was changed.
  A drive whose one file was changed; what Open makes of it.
  Walk: JournalSpoilt.
-/
import Derived.Test.YthebdlkmoailaaaGreatDoorZP11
import Derived.Test.YthebdlkmoailaaaGreatDoorZP12
import Derived.Test.YthebdlkmoailaaaGreatDoorZP10
import Derived.Test.YthebdlkmoailaaaGreatDoorZL6
import Derived.Test.YthebdlkmoailaaaGreatDoorZS1
import Derived.Test.YthebdlkmoailaaaGreatDoorZP2
import Derived.Test.YthebdlkmoailaaaGreatDoorZW1
set_option linter.unusedVariables false
set_option linter.unusedSimpArgs false
namespace Go.Proofs.YthebdlkmoailaaaGreatDoor
open Go.RowKit Go.Gr Go.Maps
set_option linter.unusedSimpArgs false
set_option linter.unusedVariables false
theorem allO_tail {n f : Nat} {rs : List (List UInt8)} {t : List UInt8} (hn : n < 18446744073709551616) (hf : f < 18446744073709551616) (hr : ∀ r ∈ rs, r.length ≤ 1048576) (hd : DeadT t) : allO (fileB n f rs ++ t) 0 [] = (numsB [n, f] :: rs, (fileB n f rs).length) := by
  have h := allO_seals (numsB [n, f] :: rs) [] t [] (fun r h => by
    rcases List.mem_cons.1 h with rfl | h
    · have := numsB2_len hn hf; omega
    · exact hr r h) (fun b _ => hd b)
  simpa [fileB_seals] using h
theorem fileJ_tail {n f : Nat} {rs : List (List UInt8)} {t : List UInt8} (hn : n < 100) (hf : f + rs.length < 18446744073709551616) (hr : ∀ r ∈ rs, r.length ≤ 1048576) (ht : t ≠ []) (hd : DeadT t) : fileJ n (fileB n f rs ++ t) = (⟨n, f, f + rs.length, (fileB n f rs).length⟩, true, false) := by
  have hl : 0 < t.length := List.length_pos_iff.2 ht
  unfold fileJ
  rw [allO_tail (by omega) (by omega) hr hd]
  simp only [headN_file (show n < 18446744073709551616 by omega) (show f < 18446744073709551616 by omega)]
  simp
  exact ⟨by omega, ht⟩
theorem fileJ_dead {n : Nat} {t : List UInt8} (hd : DeadT t) : fileJ n t = (DFile.none, false, false) := by
  have h := hd []
  rw [List.nil_append, List.length_nil] at h
  unfold fileJ
  rw [allO_end h]
/-- A drive that has no deeds that aren't safe. -/
def calmD (x : List DPair) (room : Int) : DDr := ⟨x, x, [], room, false, 0, false⟩
theorem GoodJ.good {pre : List UInt8} {seen : List DPair} {s f : Nat} {fs : List DFile} {rss : List (List (List UInt8))} (h : GoodJ pre seen s f fs rss) (hs : s + fs.length < 100) (hf : f + rss.flatten.length < 18446744073709551616) (hu : usedB seen ≤ 68719476736) : ChainRoom s f fs rss ∧ ∃ ns, JNames pre seen ns ∧ GoodFs pre seen ns fs :=
  (GoodJ.inv (D := calmD seen 0) (L := ⟨1, fs, true⟩) h rfl rfl).good hs hf hu
theorem ser_at {pre : List UInt8} {seen : List DPair} {s f : Nat} {fs : List DFile} {rss : List (List (List UInt8))} (h : ChainJ pre seen s f fs rss) {k : Nat} (hk : k < fs.length) : fs[k].serial = s + 1 + k := by
  have h1 := congrArg (fun l => l[k]?) h.serials
  simp only [List.getElem?_map, List.getElem?_range hk, List.getElem?_eq_getElem hk, Option.map_some, Option.some.injEq] at h1
  exact h1
theorem GoodJ.cut {pre : List UInt8} {seen x : List DPair} {s f : Nat} {fs : List DFile} {rss : List (List (List UInt8))} {t : List UInt8} (h : GoodJ pre seen s f fs rss) (hne : fs ≠ []) (hs : s + fs.length < 100) (hf : f + rss.flatten.length < 18446744073709551616) (ht : t ≠ []) (hd : DeadT t)
    (hx : x = putK DPair.key ⟨nameB pre (s + fs.length), dataB seen (nameB pre (s + fs.length)) ++ t⟩ seen) (hu : usedB x ≤ 68719476736) :
    (lastF fs).serial = s + fs.length ∧ (∃ ns, JNames pre x ns ∧ CutFs pre x ns fs) ∧ (lastF fs).size.toNat = (dataB seen (nameB pre (s + fs.length))).length := by
  rcases files_cases fs with h0 | ⟨i, F, h0⟩
  · exact absurd h0 hne
  subst h0
  rcases List.eq_nil_or_concat rss with rfl | ⟨js, r, rfl⟩
  · have := h.chain.len; simp at this
  rw [List.concat_eq_append] at *
  obtain ⟨c1, c2⟩ := ChainJ.snoc.1 h.chain
  have hln : (i ++ [F]).length = i.length + 1 := by simp
  have hser : F.serial = s + (i ++ [F]).length := by rw [c2.serial, hln]; omega
  have hfl : (js ++ [r]).flatten.length = js.flatten.length + r.length := by simp
  have hrise : Rising DPair.key x := by rw [hx]; exact h.rising.put
  have hdl : ∀ nm, (dataB x nm).length ≤ 68719476736 := fun nm => Nat.le_trans (dataB_le hrise nm) hu
  have hdF : dataB x (nameB pre F.serial) = fileB F.serial (f + js.flatten.length) r ++ t := by
    rw [hx, ← hser, dataB_put, if_pos rfl, c2.data]
  have huS : usedB seen ≤ 68719476736 := by
    have h1 : seen = putK DPair.key ⟨nameB pre (s + (i ++ [F]).length), dataB seen (nameB pre (s + (i ++ [F]).length))⟩ seen := (putK_same h.rising (by rw [← hser]; exact c2.there)).symm
    rw [h1]
    refine Nat.le_trans (usedB_le_put h.rising _ _ _ ?_) (by rw [← hx]; exact hu)
    simp
  obtain ⟨hr, ns0, hn0, hg0⟩ := h.good hs hf huS
  have hnm : NamesIn pre x s (i ++ [F]).length := fun k => by
    rw [hx, keys_put, h.names k]
    constructor
    · rintro (rfl | hk)
      · exact ⟨_, by omega, by omega, rfl⟩
      · exact hk
    · exact .inr
  obtain ⟨ns, hn1, hn2⟩ := names_of (rising_nodup hrise) hnm hs
  refine ⟨by rw [lastF_snoc, hser], ⟨ns, hn1, ⟨by rw [hn2, h.chain.serials], fun k hk => ?_, h.chain.joins, by omega, hne, fun k hk => ?_⟩⟩, by rw [lastF_snoc, c2.size, ← hser, c2.data]; simp⟩
  · have hgk := hg0.ok _ (List.getElem_mem hk)
    have hsk := ser_at h.chain hk
    by_cases hl : k + 1 < (i ++ [F]).length
    · have hnn : nameB pre (i ++ [F])[k].serial ≠ nameB pre (s + (i ++ [F]).length) := fun he => by
        have := nameB_inj (by omega) (by omega) he
        omega
      have e1 : dataB x (nameB pre (i ++ [F])[k].serial) = dataB seen (nameB pre (i ++ [F])[k].serial) := by rw [hx, dataB_put, if_neg hnn]
      have e2 : thereB x (nameB pre (i ++ [F])[k].serial) = thereB seen (nameB pre (i ++ [F])[k].serial) := by rw [hx, thereB_put, if_neg hnn]
      rw [e1, e2, decide_eq_true hl]
      exact hgk
    · have hFk : (i ++ [F])[k] = F := by
        rw [List.getElem_append_right (by omega)]
        simp
      rw [hFk] at hgk ⊢
      refine ⟨hgk.1, hgk.2.1, by rw [hx, thereB_put, if_pos (by rw [hser])], hdl _, ?_⟩
      rw [hdF, fileJ_tail hgk.2.1 (by omega) c2.recs ht hd, decide_eq_false hl]
      have e1 := c2.from_
      have e2 := c2.to_
      have e3 := c2.size
      obtain ⟨q1, q2, q3, q4⟩ := F
      simp only at e1 e2 e3
      subst e1 e2 e3
      rfl
  · have hgk := hg0.ok _ (List.getElem_mem hk)
    obtain ⟨i2, g2, rs2, _, _, _, h6⟩ := h.chain.mem (List.getElem_mem hk)
    refine ⟨by rw [h6.size]; omega, ?_⟩
    rw [h6.size, Int.toNat_natCast, ← h6.data, hx, dataB_put]
    split
    · rename_i he
      rw [he]
      simp
    · exact Nat.le_refl _
theorem GoodJ.bad {pre : List UInt8} {seen x : List DPair} {s f : Nat} {fs : List DFile} {rss : List (List (List UInt8))} {t : List UInt8} (h : GoodJ pre seen s f fs rss) (hs : s + fs.length + 1 < 100) (hf : f + rss.flatten.length < 18446744073709551616) (hd : DeadT t)
    (hnew : nameB pre (s + fs.length + 1) ∉ seen.map DPair.key) (hx : x = putK DPair.key ⟨nameB pre (s + fs.length + 1), t⟩ seen) (hu : usedB x ≤ 68719476736) (huS : usedB seen ≤ 68719476736) :
    ∃ ns, JNames pre x ns ∧ BadFs pre x ns fs (s + fs.length + 1) := by
  have hrise : Rising DPair.key x := by rw [hx]; exact h.rising.put
  obtain ⟨hr, ns0, hn0, hg0⟩ := h.good (by omega) hf huS
  have hnm : NamesIn pre x s (fs.length + 1) := fun k => by
    rw [hx, keys_put, h.names k]
    constructor
    · rintro (rfl | ⟨n, h1, h2, rfl⟩)
      · exact ⟨_, by omega, by omega, rfl⟩
      · exact ⟨n, h1, by omega, rfl⟩
    · rintro ⟨n, h1, h2, rfl⟩
      by_cases hn : n = s + fs.length + 1
      · subst hn; exact .inl rfl
      · exact .inr ⟨n, h1, by omega, rfl⟩
  obtain ⟨ns, hn1, hn2⟩ := names_of (rising_nodup hrise) hnm (by omega)
  refine ⟨ns, hn1, ⟨?_, fun F hF => ?_, h.chain.joins, by omega, ?_⟩⟩
  · rw [hn2, h.chain.serials, List.range_succ, List.map_append]
    simp only [List.map_cons, List.map_nil]
    rw [show s + 1 + fs.length = s + fs.length + 1 by omega]
  · obtain ⟨k, hk, rfl⟩ := List.getElem_of_mem hF
    have hgk := hg0.ok _ (List.getElem_mem hk)
    have hsk := ser_at h.chain hk
    have hnn : nameB pre fs[k].serial ≠ nameB pre (s + fs.length + 1) := fun he => by
      have := nameB_inj (by omega) (by omega) he
      omega
    rw [hx, dataB_put, if_neg hnn, thereB_put, if_neg hnn]
    exact hgk
  · refine ⟨by omega, by rw [hx, thereB_put, if_pos rfl], Nat.le_trans (dataB_le hrise _) hu, ?_⟩
    rw [hx, dataB_put, if_pos rfl]
    exact fileJ_dead hd
theorem GoodJ.few {pre : List UInt8} {seen : List DPair} {s f : Nat} {fs : List DFile} {rss : List (List (List UInt8))} (h : GoodJ pre seen s f fs rss) (hs : s + fs.length < 100) : seen.length = fs.length := by
  obtain ⟨ns, h1, h2⟩ := names_of (rising_nodup h.rising) h.names hs
  have e1 : seen.length = ns.length := by have := congrArg List.length h1.1; simpa using this
  have e2 : (sortN ns).length = fs.length := by rw [h2]; simp
  rw [e1, ← e2]
  exact (sortN_len ns).symm
theorem flush_calm {x s : List DPair} {q : List DDeed} {room : Int} : flushD ⟨x, s, q, room, false, 0, false⟩ = (calmD s room, 0) := rfl
theorem trim_calm {x : List DPair} {room : Int} {nm : List UInt8} {z : Nat} (h : thereB x nm = true) : trimD (calmD x room) nm z = (⟨x, putK DPair.key ⟨nm, (dataB x nm).take z⟩ x, [.tr nm z], room, false, 0, false⟩, 0) := by
  have hn : noneB (calmD x room).seen nm = 0 := if_pos h
  unfold trimD
  rw [hn]
  rfl
theorem remove_calm {x : List DPair} {room : Int} {nm : List UInt8} (h : thereB x nm = true) : removeD (calmD x room) nm = (⟨x, dropK DPair.key nm x, [.rm nm], room, false, 0, false⟩, 0) := by
  have hn : noneB (calmD x room).seen nm = 0 := if_pos h
  unfold removeD
  rw [hn]
  rfl
/-- Open behind a crash: the journal has a good core of what lies there. -/
theorem jOpenC_ {w : World} {M : Nat → Prop} {b q U : Nat} {sf sn : Option Nat} {x : List DPair} {room : Int} {pre : List UInt8} {most : Int} {P : Nat → List (List UInt8) → Prop} (h : DriveAt w M b sf sn (calmD x room)) (hm : I64 most) (hp : pre.length ≤ 998) (hst : StJ pre q U P x) (hq : q < 99) (hU : U ≤ 68719476736) (hP : ∀ f rs, P f rs → f + rs.length < 18446744073709551616) :
    Calls Tryz.prog 12 #[.pointer (some ⟨b, 0, none⟩), encStr pre, .int .i64 most] w fun e w' => ∃ l, e = .returned (.tuple #[.pointer (some ⟨l, 0, none⟩), .int .i64 0]) ∧ ∃ seen s f fs rss, GoodJ pre seen s f fs rss ∧ s + fs.length ≤ q ∧ usedB seen ≤ U ∧ P f rss.flatten ∧ OpenedAt w w' M b sf sn pre (calmD seen room) ⟨max 1 most, fs, true⟩ l := by
  obtain ⟨seen, s, f, fs, rss, hg, hsq, hux, hPf, hc⟩ := hst
  have hf := hP _ _ hPf
  have hsl := hg.few (by omega)
  have hI : I64 (max 1 most) := by unfold I64 at hm ⊢; omega
  rcases hc with rfl | ⟨hne, t, ht, hthere, hx, hd⟩ | ⟨hs1, t, hnew, hx, hd⟩
  · obtain ⟨_, ns, hn, hG⟩ := hg.good (by omega) hf (by omega)
    refine (jOpenG_ h rfl hm (LoadsTo.good (D := calmD x room) rfl hp hn hG) (fun hlt => absurd hlt (Nat.lt_irrefl _))).mono ?_
    rintro e w' ⟨l, rfl, ho⟩
    rw [if_neg (Nat.lt_irrefl _)] at ho
    exact ⟨l, rfl, x, s, f, fs, rss, hg, hsq, hux, hPf, ho⟩
  · have hl : x.length ≤ 100 := by
      rw [hx]
      exact Nat.le_trans putK_length (by omega)
    obtain ⟨e1, ⟨ns, hn, hG⟩, e2⟩ := hg.cut hne (by omega) hf ht hd hx (by omega)
    have hth : thereB x (nameB pre (s + fs.length)) = true := by rw [hx, thereB_put, if_pos rfl]
    have hdx : (dataB x (nameB pre (s + fs.length))).take (lastF fs).size.toNat = dataB seen (nameB pre (s + fs.length)) := by
      rw [hx, dataB_put, if_pos rfl, e2, List.take_left']
      rfl
    have hT := trim_calm (room := room) (z := (lastF fs).size.toNat) hth
    rw [hdx] at hT
    have hback : putK DPair.key ⟨nameB pre (s + fs.length), dataB seen (nameB pre (s + fs.length))⟩ x = seen := by rw [hx, putK_twice hg.rising, putK_same hg.rising hthere]
    rw [hback] at hT
    have hus : usedB seen ≤ U := by
      refine Nat.le_trans ?_ hux
      rw [hx]
      conv => lhs; rw [← putK_same hg.rising hthere]
      exact usedB_le_put hg.rising _ _ _ (by simp)
    have hLD : LoadsTo pre (max 1 most) b sf sn (calmD x room) fs (trimD (calmD x room) (nameB pre (s + fs.length)) (lastF fs).size.toNat).1 := fun W M0 l hD hM hlb hL => by
      have := jLoadT_ hD hM hlb rfl hL hp hn hG (by show x.length + 0 < 1000000; omega)
      rw [e1, hT] at this
      rw [hT]
      exact this
    rw [hT] at hLD
    refine (jOpenG_ h rfl hm hLD (fun _ => by rw [flush_calm])).mono ?_
    rintro e w' ⟨l, rfl, ho⟩
    exact ⟨l, rfl, seen, s, f, fs, rss, hg, hsq, hus, hPf, ho⟩
  · have hl : x.length ≤ 100 := by
      rw [hx]
      exact Nat.le_trans putK_length (by omega)
    have hus : usedB seen ≤ U := by
      refine Nat.le_trans ?_ hux
      have hu := usedB_put (k := nameB pre (s + fs.length + 1)) (d := t) hg.rising
      rw [dataB_no hnew, List.nil_append] at hu
      rw [hx, hu]
      exact Nat.le_add_right _ _
    obtain ⟨ns, hn, hG⟩ := hg.bad (by omega) hf hd hnew hx (by omega) (by omega)
    have hth : thereB x (nameB pre (s + fs.length + 1)) = true := by rw [hx, thereB_put, if_pos rfl]
    have hT := remove_calm (room := room) hth
    have hback : dropK DPair.key (nameB pre (s + fs.length + 1)) x = seen := by rw [hx, dropK_put hg.rising hnew]
    rw [hback] at hT
    have hR : removeJ pre (calmD x room) [s + fs.length + 1] = (⟨x, seen, [.rm (nameB pre (s + fs.length + 1))], room, false, 0, false⟩, 0) := by
      unfold removeJ
      rw [hT]
      rfl
    have hLD : LoadsTo pre (max 1 most) b sf sn (calmD x room) fs (removeJ pre (calmD x room) [s + fs.length + 1]).1 := fun W M0 l hD hM hlb hL => by
      have := jLoadR_ hD hM hlb rfl hL hp hn hG (by show x.length + 0 + 1 < 1000000; omega)
      rw [hR] at this
      rw [hR]
      exact this
    rw [hR] at hLD
    refine (jOpenG_ h rfl hm hLD (fun _ => by rw [flush_calm])).mono ?_
    rintro e w' ⟨l, rfl, ho⟩
    exact ⟨l, rfl, seen, s, f, fs, rss, hg, hsq, hus, hPf, ho⟩
end Go.Proofs.YthebdlkmoailaaaGreatDoor

namespace Go.Proofs.YthebdlkmoailaaaGreatDoor
open Go.RowKit Go.Gr Go.Maps
open Go.Proofs (encStr)
set_option linter.unusedSimpArgs false
set_option linter.unusedVariables false
/-- A journal takes another row of files, of a fresh block. -/
theorem log_row {w w' : World} {M : Nat → Prop} {b l : Nat} {sf sn : Option Nat} {D : DDr} {pre : List UInt8} {L : DLog} {v : Value} {fs : List DFile} (hD : DriveAt w M b sf sn D) (hL : LogAt w M l b none pre L) (T : Turn (fun c => c = l) w w') (hlg : LgAt w' l b pre L.most v L.closed) (hfr : FRow w' v fs) (hbk : ∀ c, blkOf v = some c → w.heap.size ≤ c) :
    ∃ M', DriveAt w' M' b sf sn D ∧ LogAt w' M' l b (blkOf v) pre { L with files := fs } ∧ (∀ c, M c → M' c) ∧ ∀ c, c < w.heap.size → M' c → M c := by
  obtain ⟨fv, h1, _, _⟩ := hL.row
  have hl := hD.notDM (l := l) h1 hL.ne
  have hless : ∀ c, c < w.heap.size → (M c ∨ blkOf v = some c) → M c := fun c hc h => h.elim id (fun e => by have := hbk c e; omega)
  refine ⟨fun c => M c ∨ blkOf v = some c, hD.beside T (fun c hc hx => by rw [hx]; exact ⟨hL.own, hl⟩) (fun c h => .inl h) hless (fun c hc => hc.elim (fun h => Nat.lt_of_lt_of_le (hD.old c h) T.size) (fun e => hfr.lt e)), ⟨⟨v, hlg, hfr, rfl⟩, .inl hL.own, fun c hc => ⟨.inr hc, ?_, ?_⟩, hL.ne, hL.most⟩, fun c h => .inl h, hless⟩
  · have := hbk c hc; have := h1.lt; omega
  · have := hbk c hc; have := hD.lt (.inl rfl : DM b sf sn b); omega
/-- A fresh journal without files upon a drive: the drive's blocks are one more. -/
theorem log_fresh {w W : World} {M : Nat → Prop} {b l : Nat} {sf sn : Option Nat} {D : DDr} {pre : List UInt8} {mm : Int} (h : DriveAt w M b sf sn D) (hW : Step w W) (hl : w.heap.size ≤ l) (hL : LgAt W l b pre mm (.slice none 0 0) true) (hm : I64 mm) :
    DriveAt W (fun c => M c ∨ c = l) b sf sn D ∧ LogAt W (fun c => M c ∨ c = l) l b none pre ⟨mm, [], true⟩ := by
  have hbw : b < w.heap.size := h.lt (.inl rfl)
  exact ⟨h.keep (fun c hc => ⟨hW.heap (h.lt hc), .inl (h.own c hc)⟩) (fun c hc hn => ⟨hW.heap hc, fun hx => hx.elim hn (fun e => by omega)⟩) (fun c hc => hc.elim (fun hc => Nat.lt_of_lt_of_le (h.old c hc) hW.size) (fun e => by rw [e]; exact hL.lt)), ⟨⟨_, hL, FRow.nil _, rfl⟩, .inr rfl, fun c hc => (by cases hc), (by omega), hm⟩⟩
theorem append_calm {room : Int} {nm d : List UInt8} (h : (d.length : Int) ≤ room) : appendD (calmD [] room) nm d = (⟨[], putK DPair.key ⟨nm, writeB [] 0 (d.take (d.length + 1 - 1))⟩ [], [.wr nm 0 d], room, false, 0, false⟩, 0) := by
  unfold appendD
  rw [if_neg (by show ¬ (room - ((usedB [] : Nat) : Int) < _); have : usedB [] = 0 := rfl; omega)]
  rfl
set_option maxRecDepth 100000 in
set_option maxHeartbeats 8000000 in
theorem jBegin_ {w : World} {M : Nat → Prop} {b at_ : Nat} {sf sn : Option Nat} {room : Int} {pre : List UInt8} {most : Int} (h : DriveAt w M b sf sn (calmD [] room)) (hr0 : 1000 ≤ room) (hr1 : room ≤ 1048576) (hm : I64 most) (hp : pre.length ≤ 998) (hat : at_ < 18446744073709551616) :
    Calls Tryz.prog 42 #[.pointer (some ⟨b, 0, none⟩), encStr pre, .int .i64 most, .int .u64 (at_ : Int)] w fun e w' => ∃ l, e = .returned (.tuple #[.pointer (some ⟨l, 0, none⟩), .int .i64 0]) ∧ OpenedAt w w' M b sf sn pre (calmD [⟨nameB pre 1, headB 1 at_⟩] room) ⟨max 1 most, [⟨1, at_, at_, ((headB 1 at_).length : Int)⟩], true⟩ l := by
  obtain ⟨queue, hr, hq⟩ := h.row
  have HDEAD : Hid (∀ W : World, Step w W → Calls Tryz.prog 45 #[.pointer (some ⟨b, 0, none⟩)] W fun e w' => e = .returned (.bool false) ∧ w' = W) := Lib.hid (fun W hW => by
    obtain ⟨qa, qc, rfl, _, _, hql⟩ := Ty.slice_val hq
    exact dDead_ (CellsAt.step hr hW))
  obtain ⟨mm, hmm⟩ : ∃ mm, mm = max 1 most := ⟨_, rfl⟩
  have hmI : I64 mm := by rw [hmm]; unfold I64 at hm ⊢; omega
  have hbw : b < w.heap.size := h.lt (.inl rfl)
  have hln := nameB_len pre 1
  have hdl : (headB 1 at_).length ≤ 100 := by
    have := numsB2_len (show 1 < 18446744073709551616 by omega) hat
    unfold headB
    rw [sealB_len]
    omega
  have HSER : Hid (∀ (W : World) (l : Nat), Step w W → w.heap.size ≤ l → LgAt W l b pre mm (.slice none 0 0) true → Calls Tryz.prog 74 #[.pointer (some ⟨l, 0, none⟩)] W fun e w' => ∃ v, e = .returned v ∧ Gr.Own Ty.u64 32 w' (fun _ => False) W.heap.size v [] ∧ Step W w') := Lib.hid (fun W l hW hl hL => by
    have hs := jSerials_ (ns := []) (log_fresh h hW hl hL hmI).1 rfl hL hp ⟨rfl, by simp⟩
    rw [show sortN [] = [] by simp [sortN]] at hs
    exact hs)
  have HAP : Hid (∀ (W : World) (l : Nat) (dv : Value) (M2 : Nat → Prop), Step w W → w.heap.size ≤ l → LgAt W l b pre mm (.slice none 0 0) true → Ty.bytes.rep W M2 [dv] (headB 1 at_) → Calls Tryz.prog 27 #[.pointer (some ⟨b, 0, none⟩), encStr (nameB pre 1), dv] W fun y w' => y = .returned (.int .i64 0) ∧ ∃ M1 sf1 sn1, DriveAt w' M1 b sf1 sn1 (appendD (calmD [] room) (nameB pre 1) (headB 1 at_)).1 ∧ LogAt w' M1 l b none pre ⟨mm, [], true⟩ ∧ DGo b W (fun c => M c ∨ c = l) sf sn w' M1 sf1 sn1) := Lib.hid (fun W l dv M2 hW hl hL hd => by
    obtain ⟨h1, h2⟩ := log_fresh h hW hl hL hmI
    have hap := dAppend_ (s := nameB pre 1) h1 hd (by omega) (by show 0 ≤ 1099511627776; omega) (by show 0 ≤ room; omega) (by show room ≤ 1099511627776; omega) (by show 0 + (headB 1 at_).length ≤ _; omega) (by show 0 + 0 < 1000000; omega)
    refine hap.mono ?_
    rintro y w' ⟨rfl, M1, sf1, sn1, h3, h4⟩
    exact ⟨by rw [append_calm (by omega)], M1, sf1, sn1, h3, h2.beside h1 h4, h4⟩)
  have HAC : Hid ((flushD (appendD (calmD [] room) (nameB pre 1) (headB 1 at_)).1) = (calmD [⟨nameB pre 1, headB 1 at_⟩] room, 0)) := Lib.hid (by
    rw [append_calm (by omega), flush_calm]
    rw [show (headB 1 at_).length + 1 - 1 = (headB 1 at_).length by omega, List.take_length, show writeB [] 0 (headB 1 at_) = headB 1 at_ from writeB_end [] _]
    rfl)
  have HH := Lib.hid (fun W : World => jHead_ (w := W) (show 1 < 18446744073709551616 by omega) hat)
  have HW0 := Lib.hid h
  have HMM := Lib.hid hmm
  rw [← hmm]
  clear h hr hq hmm
  go_enter Tryz.func42, Tryz.ntmps42
  go_upto_region 4 with (go_at_call 45; refine (HDEAD.out _ stp).mono ?_; rintro e w1 ⟨rfl, hw1⟩; subst w1)
  obtain ⟨l, hl⟩ : ∃ l, l = w.heap.size := ⟨_, rfl⟩
  rw [← hl]
  refine wp_code (fun wx => LgAt wx l b pre mm (.slice none 0 0) true ∧ Step w wx) ⟨by rw [HMM.out]; exact CellsAt.new hl, by (repeat (first | exact Step.refl _ | refine Step.alloc ?_ _ | refine Step.drew ?_ | refine Step.drewN ?_ _ | refine Step.setCell ?_ (by first | exact Nat.le_refl _ | assumption | omega | (simp; done) | (simp; omega)) _ | assumption | refine Step.trans ?_ (by assumption : Step _ _)))⟩ ?_
  have hwl := Lib.hid (Nat.le_of_eq hl.symm)
  rintro w1 ⟨hl1, hS1⟩
  have HL1 := Lib.hid hl1
  have HS1 := Lib.hid hS1
  clear hl hl1 hS1 HDEAD
  go_upto_region 8 with (first
    | (go_at_call 74; refine (HSER.out _ _ (HS1.out.trans stp) hwl.out (CellsAt.step HL1.out stp)).mono ?_; rintro e w2 ⟨v2, rfl, hA2, hS2⟩; obtain ⟨a2, n2, c2, rfl, HN2⟩ := hA2.valN; obtain rfl : n2 = 0 := HN2.out; have HS2 : Hid (Step w1 w2) := Lib.hid (Step.trans stp hS2); clear hA2 hS2 HN2)
    | (go_at_call 49; refine (HH.out _).mono ?_; rintro e w3 ⟨v3, rfl, hA3, hS3⟩; obtain ⟨a3, n3, c3, rfl, HN3⟩ := hA3.valN; have HA3 := Lib.hid hA3; have HS3 : Hid (Step w1 w3) := Lib.hid (HS2.out.trans (Step.trans stp hS3)); clear hA3 hS3))
  have HR3 : Hid (Ty.bytes.rep w3 (fun _ => False) [.slice a3 n3 c3] (headB 1 at_)) := Lib.hid ((Gr.Own.less HA3.out (M' := fun _ => False) (fun _ _ h => h.elim)).rep' (fun _ _ h => h))
  have HNM : Hid (∀ W : World, Step w1 W → Calls Tryz.prog 51 #[.pointer (some ⟨l, 0, none⟩), .int .u64 ((1 : Nat) : Int)] W fun e w' => e = .returned (encStr (nameB pre 1)) ∧ ∃ m, w' = W.drewN m) := Lib.hid (fun W hW => jName_ (CellsAt.step HL1.out hW) (by omega) (by omega))
  clear HSER HH
  go_upto_region 13 with (first
    | (go_at_call 51; refine (HNM.out _ (HS3.out.trans stp)).mono ?_; rintro e w4 ⟨rfl, m4, rfl⟩)
    | (go_at_call 27; refine (HAP.out _ l _ _ (HS1.out.trans (HS3.out.trans stp)) hwl.out (CellsAt.step HL1.out (HS3.out.trans stp)) (Ty.step _ HR3.out stp)).mono ?_; rintro e w5 ⟨rfl, M5, sf5, sn5, hD5, hO5, hG5⟩; have HG5 : Hid (DGo b w3 (fun c => M c ∨ c = l) sf sn w5 M5 sf5 sn5) := Lib.hid (DGo.from stp (log_fresh HW0.out (HS1.out.trans HS3.out) hwl.out (CellsAt.step HL1.out HS3.out) hmI).1.old hG5); have HD5 := Lib.hid hD5; have HO5 := Lib.hid hO5; clear hD5 hO5 hG5)
    | (go_at_call 31; refine (dFlush_ (HD5.out.step stp)).mono ?_; rintro e w6 ⟨rfl, M6, sf6, sn6, hD6, hG6⟩; rw [HAC.out] at hD6 ⊢; have HG6 : Hid (DGo b w5 M5 sf5 sn5 w6 M6 sf6 sn6) := Lib.hid (DGo.from stp HD5.out.old hG6); have HO6 := Lib.hid (HO5.out.beside HD5.out HG6.out); have HD6 := Lib.hid hD6; clear hD6 hG6))
  obtain ⟨fv6, hlg6, -, -⟩ := HO6.out.row
  have l3 : w6.cell? ⟨l, 3, none⟩ = some fv6 := hlg6.cell 3
  have f3 : w6.frozen? ⟨l, 3, none⟩ = false := hlg6.frozen 3
  have HLG6 := Lib.hid hlg6
  have hl6 : l < w6.heap.size := hlg6.lt
  clear hlg6
  go_upto_region 14 with fail
  have hn3 : n3 ≤ 100 := by rw [HN3.out]; exact hdl
  refine wp_code (fun wx => LgAt wx l b pre mm (.slice (some ⟨w6.heap.size, 0, none⟩) 1 1) true ∧ FRow wx (.slice (some ⟨w6.heap.size, 0, none⟩) 1 1) [⟨1, at_, at_, (n3 : Int)⟩] ∧ Turn (fun c => c = l) w6 wx) ⟨?_, ?_, ?_⟩ ?_
  · exact CellsAt.step (CellsAt.set HLG6.out 3 (.slice (some ⟨w6.heap.size, 0, none⟩) 1 1)) stp
  · refine FRow.fresh (fs := [⟨1, at_, at_, (n3 : Int)⟩]) (cap := 1) (cur := #[.int .u64 1, .int .u64 (at_ : Int), .int .u64 (at_ : Int), .int .i64 (n3 : Int)]) (by simp) (fun f hf => ?_) ?_ (by simp) (by unfold maxLen; omega) (by simp) rfl
    · obtain rfl : f = ⟨1, at_, at_, (n3 : Int)⟩ := by simpa using hf
      exact ⟨by show 1 < 1000; omega, hat, hat, by show (0 : Int) ≤ (n3 : Int) ∧ (n3 : Int) ≤ 1152921504606846976; omega⟩
    · exact CellsAt.new (World.size_setCell ..).symm
  · exact ((Turn.refl (fun c => c = l) w6).setCell (p := ⟨l, 3, none⟩) (fun _ => rfl) _).then stp
  rintro w7 ⟨hl7, hf7, hT7⟩
  have HL7 := Lib.hid hl7
  have HF7 := Lib.hid hf7
  have HT7 := Lib.hid hT7
  clear hl7 hf7 hT7 l3 f3
  go_wp2
  go_ret2
  have hz1 := HS1.out.size
  have hz3 := HS3.out.size
  have hz5 := HG5.out.turn.size
  have hz6 := HG6.out.turn.size
  have hw := hwl.out
  have hG06 : DGo b w M sf sn w6 M6 sf6 sn6 := by
    have h1 := HG5.out.trans HG6.out
    exact ⟨(Turn.of (HS1.out.trans HS3.out)).trans (h1.turn.mono fun c _ hc => hc.imp (fun h => by omega) id), fun c hc => h1.more c (.inl hc), fun c hc hx => (h1.less c (by omega) hx).elim id (fun e => by omega), fun c hc hx => h1.own c (by omega) hx⟩
  have hn := HN3.out
  subst hn
  obtain ⟨M7, k1, k2, k3, k4⟩ := log_row HD6.out HO6.out HT7.out HL7.out HF7.out (fun c hc => by
    obtain rfl : w6.heap.size = c := by simpa [blkOf] using hc
    exact Nat.le_refl _)
  refine ⟨l, rfl, hw, some w6.heap.size, M7, sf6, sn6, k1.step stp, k2.step stp, ⟨(hG06.turn.trans (HT7.out.mono fun c _ hc => .inl (by omega))).then stp, fun c hc => k3 c (hG06.more c hc), fun c hc hx => hG06.less c hc (k4 c (by omega) hx), hG06.own⟩, fun c hc => ?_⟩
  obtain rfl : w6.heap.size = c := by simpa using hc
  omega
set_option maxRecDepth 100000 in
set_option maxHeartbeats 8000000 in
/-- Where a file lies there already, Begin refuses. -/
theorem jBeginNo_ {w : World} {M : Nat → Prop} {b at_ : Nat} {sf sn : Option Nat} {D : DDr} {ns : List Nat} {pre : List UInt8} {most : Int} (h : DriveAt w M b sf sn D) (hdead : D.dead = false) (hm : I64 most) (hp : pre.length ≤ 998) (hn : JNames pre D.seen ns) (hne : ns ≠ []) :
    Calls Tryz.prog 42 #[.pointer (some ⟨b, 0, none⟩), encStr pre, .int .i64 most, .int .u64 (at_ : Int)] w fun e w' => e = .returned (.tuple #[.pointer none, .int .i64 7]) ∧ Step w w' := by
  obtain ⟨queue, hr, hq⟩ := h.row
  have HDEAD : Hid (∀ W : World, Step w W → Calls Tryz.prog 45 #[.pointer (some ⟨b, 0, none⟩)] W fun e w' => e = .returned (.bool false) ∧ w' = W) := Lib.hid (fun W hW => by
    obtain ⟨qa, qc, rfl, _, _, hql⟩ := Ty.slice_val hq
    have h2 := dDead_ (CellsAt.step hr hW)
    rw [hdead] at h2
    exact h2)
  obtain ⟨mm, hmm⟩ : ∃ mm, mm = max 1 most := ⟨_, rfl⟩
  have hmI : I64 mm := by rw [hmm]; unfold I64 at hm ⊢; omega
  have hnl : 0 < (sortN ns).length := by rw [sortN_len]; exact List.length_pos_iff.2 hne
  have hnm : (sortN ns).length ≤ 1000000 := by
    rw [sortN_len]
    have h1 := congrArg List.length hn.keys
    have h2 := h.wf.seenFew
    simp only [List.length_map] at h1
    omega
  have HSER : Hid (∀ (W : World) (l : Nat), Step w W → w.heap.size ≤ l → LgAt W l b pre mm (.slice none 0 0) true → Calls Tryz.prog 74 #[.pointer (some ⟨l, 0, none⟩)] W fun e w' => ∃ v, e = .returned v ∧ Gr.Own Ty.u64 32 w' (fun _ => False) W.heap.size v (sortN ns) ∧ Step W w') := Lib.hid (fun W l hW hl hL => jSerials_ (log_fresh h hW hl hL hmI).1 hdead hL hp hn)
  have HMM := Lib.hid hmm
  clear h hr hq hmm
  go_enter Tryz.func42, Tryz.ntmps42
  go_upto_region 4 with (go_at_call 45; refine (HDEAD.out _ stp).mono ?_; rintro e w1 ⟨rfl, hw1⟩; subst w1)
  obtain ⟨l, hl⟩ : ∃ l, l = w.heap.size := ⟨_, rfl⟩
  rw [← hl]
  refine wp_code (fun wx => LgAt wx l b pre mm (.slice none 0 0) true ∧ Step w wx) ⟨by rw [HMM.out]; exact CellsAt.new hl, by (repeat (first | exact Step.refl _ | refine Step.alloc ?_ _ | refine Step.drew ?_ | refine Step.drewN ?_ _ | refine Step.setCell ?_ (by first | exact Nat.le_refl _ | assumption | omega | (simp; done) | (simp; omega)) _ | assumption | refine Step.trans ?_ (by assumption : Step _ _)))⟩ ?_
  have hwl := Lib.hid (Nat.le_of_eq hl.symm)
  rintro w1 ⟨hl1, hS1⟩
  have HL1 := Lib.hid hl1
  have HS1 := Lib.hid hS1
  clear hl hl1 hS1 HDEAD
  generalize hN : (sortN ns).length = N at *
  have HNN := Lib.hid hN
  clear hN
  have hd : decide ((0 : Int) < (N : Int)) = true := decide_eq_true (by omega)
  go_wp2_with (go_at_call 74; refine (HSER.out _ _ (HS1.out.trans stp) hwl.out (CellsAt.step HL1.out stp)).mono ?_; rintro e w2 ⟨v2, rfl, hA2, hS2⟩; obtain ⟨a2, n2, c2, rfl, HN2⟩ := hA2.valN; obtain rfl : n2 = N := HN2.out.trans HNN.out; have HS2 : Hid (Step w w2) := Lib.hid (HS1.out.trans (Step.trans stp hS2)); clear hA2 hS2 HN2)
  go_ret2
  exact ⟨rfl, HS2.out.trans stp⟩
end Go.Proofs.YthebdlkmoailaaaGreatDoor

namespace Go.Proofs.YthebdlkmoailaaaGreatDoor
open Go.RowKit Go.Gr Go.Maps
open Go.Proofs (encStr)
set_option linter.unusedSimpArgs false
set_option linter.unusedVariables false
theorem replay_zero (q : List DDeed) (f : List DPair) : replay q 0 f = f := by
  cases q with
  | nil => rfl
  | cons x q => exact if_pos (Nat.zero_min _)
theorem replay_snoc (x : DDeed) : ∀ (q : List DDeed) (k : Nat) (f : List DPair), replay (q ++ [x]) k f = if k ≤ allU q then replay q k f else replay [x] (k - allU q) (doAll q f)
  | [], k, f => by
    show replay [x] k f = if k ≤ 0 then f else replay [x] (k - 0) f
    split
    · rw [show k = 0 by omega, replay_zero]
    · rfl
  | y :: q, k, f => by
    have hu := y.units_pos
    have hA : allU (y :: q) = y.units + allU q := by simp [allU]
    rcases Nat.eq_zero_or_pos k with rfl | hk
    · rw [replay_zero, if_pos (Nat.zero_le _), replay_zero]
    · show (if min k y.units = 0 then f else replay (q ++ [x]) (k - min k y.units) (y.doB (min k y.units) f)) = if k ≤ allU (y :: q) then (if min k y.units = 0 then f else replay q (k - min k y.units) (y.doB (min k y.units) f)) else replay [x] (k - allU (y :: q)) (doAll q (y.doB y.units f))
      have hmin : ¬ min k y.units = 0 := by omega
      rw [if_neg hmin, if_neg hmin, replay_snoc x q, hA]
      rcases Nat.lt_or_ge y.units k with h | h
      · rw [Nat.min_eq_right (by omega)]
        by_cases h2 : k ≤ y.units + allU q
        · rw [if_pos (by omega), if_pos h2]
        · rw [if_neg (by omega), if_neg h2, Nat.sub_sub]
      · rw [Nat.min_eq_left h, Nat.sub_self, if_pos (Nat.zero_le _), if_pos (by omega)]
/-- Whichever beginning of the queue is kept: what lies there then is a journal's. -/
def CrashOk (pre : List UInt8) (q U : Nat) (P : Nat → List (List UInt8) → Prop) (D : DDr) : Prop := ∀ k, StJ pre q U P (replay D.queue k D.safe)
theorem CrashOk.calm {pre : List UInt8} {q U : Nat} {P : Nat → List (List UInt8) → Prop} {x : List DPair} {room : Int} (h : StJ pre q U P x) : CrashOk pre q U P (calmD x room) := fun _ => h
theorem CrashOk.more {pre : List UInt8} {q q' U U' : Nat} {P P' : Nat → List (List UInt8) → Prop} {D : DDr} (h : CrashOk pre q U P D) (hq : q ≤ q') (hU : U ≤ U') (hP : ∀ f rs, P f rs → P' f rs) : CrashOk pre q' U' P' D := fun k => (h k).more hq hU hP
theorem CrashOk.push {pre : List UInt8} {q U : Nat} {P : Nat → List (List UInt8) → Prop} {D D' : DDr} {x : DDeed} (h : CrashOk pre q U P D) (hs : D.seen = doAll D.queue D.safe) (h1 : D'.safe = D.safe) (h2 : D'.queue = D.queue ++ [x]) (hx : ∀ n, 0 < n → n ≤ x.units → StJ pre q U P (x.doB n D.seen)) : CrashOk pre q U P D' := fun k => by
  rw [h1, h2, replay_snoc]
  split
  · exact h k
  · have hu := x.units_pos
    rw [← hs]
    show StJ pre q U P (if min (k - allU D.queue) x.units = 0 then D.seen else x.doB (min (k - allU D.queue) x.units) D.seen)
    rw [if_neg (by omega)]
    exact hx _ (by omega) (Nat.min_le_right _ _)
/-- A journal in order upon a drive that may crash. q: so many files were ever begun; U: so many bytes; C: deeds and files; P: what holds of the first index and the records behind whichever crash. -/
structure CSess (pre : List UInt8) (w : World) (M : Nat → Prop) (b l : Nat) (D : DDr) (L : DLog) (s f : Nat) (rss : List (List (List UInt8))) (q U C : Nat) (P : Nat → List (List UInt8) → Prop) : Prop where
  mem : ∃ sf sn g, DriveAt w M b sf sn D ∧ LogAt w M l b g pre L
  inv : JInv pre D L s f rss
  crash : CrashOk pre q U P D
  few : s + L.files.length ≤ q
  used : usedB D.seen ≤ U
  cnt : D.safe.length + D.queue.length ≤ C
theorem CSess.step {pre : List UInt8} {w w' : World} {M : Nat → Prop} {b l : Nat} {D : DDr} {L : DLog} {s f : Nat} {rss : List (List (List UInt8))} {q U C : Nat} {P : Nat → List (List UInt8) → Prop} (h : CSess pre w M b l D L s f rss q U C P) (hs : Step w w') : CSess pre w' M b l D L s f rss q U C P := by
  obtain ⟨⟨sf, sn, g, h1, h2⟩, h3, h4, h5, h6, h7⟩ := h
  exact ⟨⟨sf, sn, g, h1.step hs, h2.step hs⟩, h3, h4, h5, h6, h7⟩
/-- What an act turns. -/
structure CGo (w w' : World) (M M' : Nat → Prop) : Prop where
  turn : Turn M w w'
  less : ∀ c, c < w.heap.size → M' c → M c
theorem JGo.cgo {w w' : World} {M M' : Nat → Prop} {b l : Nat} {sf sn g sf' sn' g' : Option Nat} {pre : List UInt8} {D : DDr} {L : DLog} (h : JGo b l w M sf sn g w' M' sf' sn' g') (hD : DriveAt w M b sf sn D) (hL : LogAt w M l b g pre L) : CGo w w' M M' :=
  ⟨h.turn.mono fun c hc hx => hx.elim (fun h => by omega) (fun hx => by
    rcases hx with hx | rfl | hx
    · exact hD.own c hx
    · exact hL.own
    · exact (hL.gown c hx).1), h.less⟩
theorem CSess.append {pre : List UInt8} {w : World} {M M2 : Nat → Prop} {b l : Nat} {D : DDr} {L : DLog} {s f : Nat} {rss : List (List (List UInt8))} {q U U' C : Nat} {P P' : Nat → List (List UInt8) → Prop} {rv : Value} {recs : List (List UInt8)} (h : CSess pre w M b l D L s f rss q U C P) (hp : pre.length ≤ 998) (hq : q < 98) (hrep : (Ty.slice Ty.bytes).rep w M2 [rv] recs) (hr : ∀ r ∈ recs, r.length ≤ 1048576)
    (hU : U + (dataL L recs).length ≤ U') (hU2 : (U' : Int) ≤ D.room) (hU3 : U' ≤ 4294967296) (hro : D.room ≤ 1099511627776) (hC : C < 900000) (hf : f + rss.flatten.length + recs.length < 18446744073709551616) (hPP : ∀ f rs, P f rs → P' f rs) (hP : ∀ j, j ≤ recs.length → P' f (rss.flatten ++ recs.take j)) :
    Calls Tryz.prog 14 #[.pointer (some ⟨l, 0, none⟩), rv] w fun e w' => e = .returned (.tuple #[.int .u64 ((f + rss.flatten.length : Nat) : Int), .int .i64 0]) ∧ ∃ M' D' L' rss', CSess pre w' M' b l D' L' s f rss' (q + 1) U' (C + 1) P' ∧ CGo w w' M M' ∧ D'.room = D.room ∧ L'.most = L.most ∧ rss'.flatten = rss.flatten ++ recs := by
  obtain ⟨sf, sn, g, hD, hL⟩ := h.mem
  obtain ⟨hl1, hl2⟩ := h.inv.chain.last h.inv.start
  have hfew := h.few
  have hcnt := h.cnt
  have hus := h.used
  have hRJ : RoomJ pre D L recs := h.inv.roomJ hp (by omega) (by omega) hro (by omega) (by omega) hf (by omega)
  refine (jAppend_ hD hL hrep hRJ).mono ?_
  rintro e w' ⟨rfl, M', sf', sn', g', hD', hL', hGo⟩
  have hcg := hGo.cgo hD hL
  by_cases h0 : recs = []
  · subst h0
    have e1 : appendJ pre D L [] = ((D, L), (lastF L.files).to_, 0) := if_pos rfl
    rw [e1] at hD' hL' ⊢
    exact ⟨by rw [hl2], M', D, L, rss, ⟨⟨sf', sn', g', hD', hL'⟩, h.inv, h.crash.more (by omega) (by omega) hPP, by omega, by omega, by omega⟩, hcg, rfl, rfl, by simp⟩
  · have hroom : ¬ D.room - (usedB D.seen : Int) < ((dataL L recs).length : Int) := by omega
    rcases h.inv.append h0 hr (by omega) with e1 | ⟨rss', h1, h2, h3, h4, h5, h6⟩
    · exfalso
      have hA : appendJ pre D L recs = if (appendD D (nameB pre (openF L).serial) (dataL L recs)).2 = 0 then (((appendD D (nameB pre (openF L).serial) (dataL L recs)).1, pushL L recs), (lastF L.files).to_, 0) else (((appendD D (nameB pre (openF L).serial) (dataL L recs)).1, L), 0, (appendD D (nameB pre (openF L).serial) (dataL L recs)).2) := by
        unfold appendJ
        rw [if_neg h0, if_neg (by rw [tooLong_not hr]; simp)]
      rw [appendD_ok (s := nameB pre (openF L).serial) h.inv.dead h.inv.armed hroom, if_pos rfl] at hA
      rw [hA] at e1
      simp at e1
    · have hok := appendD_ok (s := nameB pre (openF L).serial) h.inv.dead h.inv.armed h6
      have h4' := h4
      rw [hok] at h4'
      refine ⟨by rw [h2], M', _, _, rss', ⟨⟨sf', sn', g', hD', hL'⟩, h3, ?_, ?_, ?_, ?_⟩, hcg, by rw [h4'], by rw [h5]; rfl, h1⟩
      · refine CrashOk.push (x := .wr (nameB pre (openF L).serial) (dataB D.seen (nameB pre (openF L).serial)).length (dataL L recs)) (h.crash.more (q' := q + 1) (by omega) (by omega) hPP) hD.wf.same (by rw [h4']) (by rw [h4']) (fun n _ _ => ?_)
        show StJ pre (q + 1) U' P' (putK DPair.key ⟨_, writeB _ _ ((dataL L recs).take (n - 1))⟩ D.seen)
        rw [writeB_end]
        exact h.inv.goodJ.part hr (by omega) (by omega) (by omega) (by omega) hP _
      · rw [h5]
        unfold pushL
        rw [List.length_append, List.length_singleton]
        split
        · omega
        · rw [List.length_dropLast]; omega
      · rw [h4']
        show usedB (putK _ _ D.seen) ≤ _
        rw [usedB_put h.inv.rising]
        omega
      · rw [h4']
        show D.safe.length + (D.queue ++ _).length ≤ C + 1
        rw [List.length_append, List.length_singleton]
        omega
/-- Behind Open, upon a drive without deeds that aren't safe. -/
theorem OpenedAt.sess {pre : List UInt8} {w w' : World} {M : Nat → Prop} {b l : Nat} {sf sn : Option Nat} {seen : List DPair} {room : Int} {L : DLog} {s f : Nat} {rss : List (List (List UInt8))} {q U : Nat} {P : Nat → List (List UInt8) → Prop} {D0 : DDr} (h : OpenedAt w w' M b sf sn pre (calmD seen room) L l) (hD : DriveAt w M b sf sn D0) (hg : GoodJ pre seen s f L.files rss) (hq : s + L.files.length ≤ q) (hq2 : q < 99) (hU : usedB seen ≤ U) (hP : P f rss.flatten) :
    ∃ M', CSess pre w' M' b l (calmD seen room) L s f rss q U 100 P ∧ CGo w w' M M' := by
  obtain ⟨_, g, M', sf', sn', h1, h2, h3, _⟩ := h
  refine ⟨M', ⟨⟨sf', sn', g, h1, h2⟩, hg.inv rfl rfl, CrashOk.calm (hg.st hq hU hP), hq, hU, ?_⟩, h3.turn.mono fun c hc hx => hx.elim (fun h => by omega) (fun hx => hD.own c hx), h3.less⟩
  have := hg.few (by omega)
  show seen.length + 0 ≤ 100
  omega
/-- A crash, and Open behind it. -/
theorem CSess.crashed {pre : List UInt8} {w : World} {M : Nat → Prop} {b l : Nat} {D : DDr} {L : DLog} {s f : Nat} {rss : List (List (List UInt8))} {q U C : Nat} {P : Nat → List (List UInt8) → Prop} {keep : Int} (h : CSess pre w M b l D L s f rss q U C P) (hk : I64 keep) :
    Calls Tryz.prog 38 #[.pointer (some ⟨b, 0, none⟩), .int .i64 keep] w fun e w' => e = .returned (.tuple #[]) ∧ ∃ M' sf sn x, DriveAt w' M' b sf sn (calmD x D.room) ∧ StJ pre q U P x ∧ CGo w w' M M' := by
  obtain ⟨sf, sn, g, hD, hL⟩ := h.mem
  refine (dCrash_ hD hk).mono ?_
  rintro e w' ⟨rfl, M', sf', sn', h1, h2⟩
  exact ⟨rfl, M', sf', sn', crashF D keep, h1, h.crash _, h2.turn.mono fun c hc hx => hx.elim (fun h => by omega) (fun hx => hD.own c hx), h2.less⟩
theorem open_st {w : World} {M : Nat → Prop} {b q U : Nat} {sf sn : Option Nat} {x : List DPair} {room : Int} {pre : List UInt8} {most : Int} {P : Nat → List (List UInt8) → Prop} (h : DriveAt w M b sf sn (calmD x room)) (hm : I64 most) (hp : pre.length ≤ 998) (hst : StJ pre q U P x) (hq : q < 99) (hU : U ≤ 68719476736) (hP : ∀ f rs, P f rs → f + rs.length < 18446744073709551616) :
    Calls Tryz.prog 12 #[.pointer (some ⟨b, 0, none⟩), encStr pre, .int .i64 most] w fun e w' => ∃ l, e = .returned (.tuple #[.pointer (some ⟨l, 0, none⟩), .int .i64 0]) ∧ ∃ M' seen fs s f rss, CSess pre w' M' b l (calmD seen room) ⟨max 1 most, fs, true⟩ s f rss q U 100 P ∧ P f rss.flatten ∧ CGo w w' M M' := by
  refine (jOpenC_ h hm hp hst hq hU hP).mono ?_
  rintro e w' ⟨l, rfl, seen, s, f, fs, rss, h1, h2, h3, h4, h5⟩
  obtain ⟨M', k1, k2⟩ := h5.sess h h1 h2 hq h3 h4
  exact ⟨l, rfl, M', seen, fs, s, f, rss, k1, h4, k2⟩
end Go.Proofs.YthebdlkmoailaaaGreatDoor

namespace Go.Proofs.YthebdlkmoailaaaGreatDoor
open Go.RowKit Go.Gr Go.Maps
open Go.Proofs (encStr)
set_option linter.unusedSimpArgs false
set_option linter.unusedVariables false
theorem flushD_ok {D : DDr} (h1 : D.dead = false) (h2 : D.armed = false) : flushD D = ({ D with safe := D.seen, queue := [] }, 0) := by
  obtain ⟨a1, a2, a3, a4, a5, a6, a7⟩ := D
  simp only at h1 h2
  subst h1 h2
  rfl
theorem removeD_ok {D : DDr} {nm : List UInt8} (h1 : D.dead = false) (h2 : D.armed = false) (h : thereB D.seen nm = true) : removeD D nm = ({ D with seen := dropK DPair.key nm D.seen, queue := D.queue ++ [.rm nm] }, 0) := by
  obtain ⟨a1, a2, a3, a4, a5, a6, a7⟩ := D
  simp only at h1 h2 h
  subst h1 h2
  have hn : noneB a2 nm = 0 := if_pos h
  unfold removeD
  simp only [hn]
  rfl
theorem CSess.close {pre : List UInt8} {w : World} {M : Nat → Prop} {b l : Nat} {D : DDr} {L : DLog} {s f : Nat} {rss : List (List (List UInt8))} {q U C : Nat} {P : Nat → List (List UInt8) → Prop} (h : CSess pre w M b l D L s f rss q U C P) (hq : q < 99) (hP : P f rss.flatten) :
    Calls Tryz.prog 32 #[.pointer (some ⟨l, 0, none⟩)] w fun e w' => e = .returned (.int .i64 0) ∧ ∃ M' D', CSess pre w' M' b l D' { L with closed := true } s f rss q U 100 P ∧ CGo w w' M M' ∧ D'.room = D.room := by
  obtain ⟨sf, sn, g, hD, hL⟩ := h.mem
  have hfew := h.few
  have hfl := flushD_ok h.inv.dead h.inv.armed
  have hc := jClose_ hD hL
  rw [hfl] at hc
  have hcl : closeJ D L = { L with closed := true } := by
    unfold closeJ
    rw [hfl]
    simp
  rw [hcl] at hc
  refine hc.mono ?_
  rintro e w' ⟨rfl, M', sf', sn', g', h1, h2, h3⟩
  have hgj := h.inv.goodJ
  have hlen := hgj.few (by omega)
  exact ⟨rfl, M', _, ⟨⟨sf', sn', g', h1, h2⟩, ⟨h.inv.dead, h.inv.armed, h.inv.chain, h.inv.names, h.inv.rising, h.inv.start⟩, fun _ => hgj.st hfew h.used hP, hfew, h.used, by show D.seen.length + 0 ≤ 100; omega⟩, h3.cgo hD hL, rfl⟩
/-- What Drop makes of a journal in order. -/
theorem drop_words {pre : List UInt8} {below q U : Nat} {P : Nat → List (List UInt8) → Prop} (hPd : ∀ f r rs, P f (r ++ rs) → P (f + r.length) rs) (hq : q < 99) : ∀ (fs : List DFile) (D : DDr) (s f : Nat) (rss : List (List (List UInt8))), D.dead = false → D.armed = false → D.seen = doAll D.queue D.safe → GoodJ pre D.seen s f fs rss → CrashOk pre q U P D → s + fs.length ≤ q → usedB D.seen ≤ U → P f rss.flatten →
    ∃ D' fs' s' f' rss', dropJ pre below D fs = ((D', fs'), 0) ∧ D'.dead = false ∧ D'.armed = false ∧ GoodJ pre D'.seen s' f' fs' rss' ∧ CrashOk pre q U P D' ∧ s' + fs'.length = s + fs.length ∧ usedB D'.seen ≤ U ∧ P f' rss'.flatten ∧ D'.room = D.room ∧ D'.safe = D.safe ∧ D'.queue.length ≤ D.queue.length + fs.length ∧ f' + rss'.flatten.length = f + rss.flatten.length
  | [], D, s, f, rss, h1, h2, _, hg, hc, hs, hu, hp => ⟨D, [], s, f, rss, rfl, h1, h2, hg, hc, rfl, hu, hp, rfl, rfl, Nat.le_refl _, rfl⟩
  | [F], D, s, f, rss, h1, h2, _, hg, hc, hs, hu, hp => ⟨D, [F], s, f, rss, rfl, h1, h2, hg, hc, rfl, hu, hp, rfl, rfl, Nat.le_add_right _ _, rfl⟩
  | F :: G :: fs, D, s, f, rss, h1, h2, hsame, hg, hc, hs, hu, hp => by
    by_cases hle : F.to_ ≤ below
    · rcases rss with _ | ⟨r, rss⟩
      · exact hg.chain.elim
      have hth : thereB D.seen (nameB pre F.serial) = true := hg.chain.1.there
      have hr := removeD_ok h1 h2 hth
      simp only [List.length_cons] at hs
      have hg2 := hg.dropFirst (by simp) (by simp only [List.length_cons]; omega)
      have hp2 : P (f + r.length) rss.flatten := hPd f r rss.flatten (by simpa using hp)
      have hu2 : usedB (dropK DPair.key (nameB pre F.serial) D.seen) ≤ U := Nat.le_trans (usedB_drop_le hg.rising _) hu
      have hst := hg2.st (P := P) (q := q) (U := U) (by simp only [List.length_cons]; omega) hu2 hp2
      obtain ⟨D', fs', s', f', rss', e1, e2, e3, e4, e5, e6, e7, e8, e9, e10, e11, e12⟩ := drop_words hPd hq (G :: fs) { D with seen := dropK DPair.key (nameB pre F.serial) D.seen, queue := D.queue ++ [.rm (nameB pre F.serial)] } (s + 1) (f + r.length) rss h1 h2 (by rw [doAll_snoc, ← hsame]; rfl) hg2 (hc.push (x := .rm (nameB pre F.serial)) hsame rfl rfl (fun n _ _ => hst)) (by simp only [List.length_cons]; omega) hu2 hp2
      refine ⟨D', fs', s', f', rss', ?_, e2, e3, e4, e5, ?_, e7, e8, e9, e10, ?_, ?_⟩
      · rw [dropJ, if_pos hle, hr, if_pos rfl]
        exact e1
      · simp only [List.length_cons] at e6 ⊢; omega
      · simp only [List.length_append, List.length_cons, List.length_nil] at e11 ⊢; omega
      · simp only [List.flatten_cons, List.length_append]; omega
    · exact ⟨D, F :: G :: fs, s, f, rss, by rw [dropJ, if_neg hle], h1, h2, hg, hc, rfl, hu, hp, rfl, rfl, Nat.le_add_right _ _, rfl⟩
theorem CSess.drop {pre : List UInt8} {w : World} {M : Nat → Prop} {b l below : Nat} {D : DDr} {L : DLog} {s f : Nat} {rss : List (List (List UInt8))} {q U C : Nat} {P : Nat → List (List UInt8) → Prop} (h : CSess pre w M b l D L s f rss q U C P) (hp : pre.length ≤ 998) (hq : q < 99) (hb : below < 18446744073709551616) (hC : C + 100 < 1000000) (hPd : ∀ f r rs, P f (r ++ rs) → P (f + r.length) rs) (hP : P f rss.flatten) :
    Calls Tryz.prog 33 #[.pointer (some ⟨l, 0, none⟩), .int .u64 (below : Int)] w fun e w' => e = .returned (.int .i64 0) ∧ ∃ M' D' fs' s' f' rss', CSess pre w' M' b l D' { L with files := fs' } s' f' rss' q U (C + 100) P ∧ CGo w w' M M' ∧ D'.room = D.room ∧ P f' rss'.flatten := by
  obtain ⟨sf, sn, g, hD, hL⟩ := h.mem
  have hfew := h.few
  have hcnt := h.cnt
  obtain ⟨D', fs', s', f', rss', e1, e2, e3, e4, e5, e6, e7, e8, e9, e10, e11, e12⟩ := drop_words (below := below) hPd hq L.files D s f rss h.inv.dead h.inv.armed hD.wf.same h.inv.goodJ h.crash hfew h.used hP
  have hser : ∀ F ∈ L.files, F.serial < 100 := fun F hF => by
    obtain ⟨i, _, _, hi, _, _, h6⟩ := h.inv.chain.mem hF
    have := h6.serial
    omega
  have hc := jDrop_ (below := below) hD hL hp hb hser (by omega)
  rw [e1] at hc
  refine hc.mono ?_
  rintro e w' ⟨rfl, M', sf', sn', g', k1, k2, k3⟩
  exact ⟨rfl, M', D', fs', s', f', rss', ⟨⟨sf', sn', g', k1, k2⟩, GoodJ.inv (L := { L with files := fs' }) e4 e2 e3, e5, by show s' + fs'.length ≤ q; omega, e7, by rw [e10]; omega⟩, k3.cgo hD hL, e9, e8⟩
end Go.Proofs.YthebdlkmoailaaaGreatDoor

namespace Go.Proofs.YthebdlkmoailaaaGreatDoor
open Go.RowKit Go.Gr Go.Maps
open Go.Proofs (encStr)
set_option linter.unusedSimpArgs false
set_option linter.unusedVariables false
theorem trimD_ok {D : DDr} {nm : List UInt8} {z : Nat} (h1 : D.dead = false) (h2 : D.armed = false) (h : thereB D.seen nm = true) : trimD D nm z = ({ D with seen := putK DPair.key ⟨nm, (dataB D.seen nm).take z⟩ D.seen, queue := D.queue ++ [.tr nm z] }, 0) := by
  obtain ⟨a1, a2, a3, a4, a5, a6, a7⟩ := D
  simp only at h1 h2 h
  subst h1 h2
  have hn : noneB a2 nm = 0 := if_pos h
  unfold trimD
  simp only [hn]
  rfl
theorem jOpenD_ {w : World} {M : Nat → Prop} {b q U : Nat} {sf sn : Option Nat} {D : DDr} {pre : List UInt8} {most : Int} {P : Nat → List (List UInt8) → Prop} (h : DriveAt w M b sf sn D) (hd : D.dead = false) (ha : D.armed = false) (hc : D.safe.length + D.queue.length < 900000) (hm : I64 most) (hp : pre.length ≤ 998) (hst : StJ pre q U P D.seen) (hq : q < 99) (hU : U ≤ 68719476736) (hP : ∀ f rs, P f rs → f + rs.length < 18446744073709551616) :
    Calls Tryz.prog 12 #[.pointer (some ⟨b, 0, none⟩), encStr pre, .int .i64 most] w fun e w' => ∃ l, e = .returned (.tuple #[.pointer (some ⟨l, 0, none⟩), .int .i64 0]) ∧ ∃ D' s f fs rss, GoodJ pre D'.seen s f fs rss ∧ s + fs.length ≤ q ∧ usedB D'.seen ≤ U ∧ P f rss.flatten ∧ D'.dead = false ∧ D'.armed = false ∧ D'.room = D.room ∧ D'.safe.length + D'.queue.length < 900000 ∧ OpenedAt w w' M b sf sn pre D' ⟨max 1 most, fs, true⟩ l := by
  obtain ⟨seen, s, f, fs, rss, hg, hsq, hux, hPf, hcs⟩ := hst
  have hf := hP _ _ hPf
  have hsl := hg.few (by omega)
  have hI : I64 (max 1 most) := by unfold I64 at hm ⊢; omega
  rcases hcs with hx | ⟨hne, t, ht, hthere, hx, hdt⟩ | ⟨hs1, t, hnew, hx, hdt⟩
  · obtain ⟨_, ns, hn, hG⟩ := hg.good (by omega) hf (by rw [← hx]; omega)
    rw [← hx] at hn hG
    refine (jOpenG_ h hd hm (LoadsTo.good hd hp hn hG) (fun hlt => absurd hlt (Nat.lt_irrefl _))).mono ?_
    rintro e w' ⟨l, rfl, ho⟩
    rw [if_neg (Nat.lt_irrefl _)] at ho
    exact ⟨l, rfl, D, s, f, fs, rss, by rw [hx]; exact hg, hsq, hux, hPf, hd, ha, rfl, hc, ho⟩
  · obtain ⟨e1, ⟨ns, hn, hG⟩, e2⟩ := hg.cut hne (by omega) hf ht hdt hx (by omega)
    have hth : thereB D.seen (nameB pre (s + fs.length)) = true := by rw [hx, thereB_put, if_pos rfl]
    have hdx : (dataB D.seen (nameB pre (s + fs.length))).take (lastF fs).size.toNat = dataB seen (nameB pre (s + fs.length)) := by
      rw [hx, dataB_put, if_pos rfl, e2, List.take_left']
      rfl
    have hT := trimD_ok (z := (lastF fs).size.toNat) hd ha hth
    rw [hdx] at hT
    have hback : putK DPair.key ⟨nameB pre (s + fs.length), dataB seen (nameB pre (s + fs.length))⟩ D.seen = seen := by rw [hx, putK_twice hg.rising, putK_same hg.rising hthere]
    rw [hback] at hT
    have hus : usedB seen ≤ U := by
      refine Nat.le_trans ?_ hux
      rw [hx]
      conv => lhs; rw [← putK_same hg.rising hthere]
      exact usedB_le_put hg.rising _ _ _ (by simp)
    have hLD : LoadsTo pre (max 1 most) b sf sn D fs (trimD D (nameB pre (s + fs.length)) (lastF fs).size.toNat).1 := fun W M0 l hD hM hlb hL => by
      have := jLoadT_ hD hM hlb hd hL hp hn hG (by omega)
      rw [e1, hT] at this
      rw [hT]
      exact this
    rw [hT] at hLD
    simp only at hLD
    have hfl := flushD_ok (D := { D with seen := seen, queue := D.queue ++ [.tr (nameB pre (s + fs.length)) (lastF fs).size.toNat] }) hd ha
    refine (jOpenG_ h hd hm hLD (fun _ => by rw [hfl])).mono ?_
    rintro e w' ⟨l, rfl, ho⟩
    rw [if_pos (by simp), hfl] at ho
    exact ⟨l, rfl, ⟨seen, seen, [], D.room, D.armed, D.left, D.dead⟩, s, f, fs, rss, hg, hsq, hus, hPf, hd, ha, rfl, by show seen.length + 0 < _; omega, ho⟩
  · have hus : usedB seen ≤ U := by
      refine Nat.le_trans ?_ hux
      have hu := usedB_put (k := nameB pre (s + fs.length + 1)) (d := t) hg.rising
      rw [dataB_no hnew, List.nil_append] at hu
      rw [hx, hu]
      exact Nat.le_add_right _ _
    obtain ⟨ns, hn, hG⟩ := hg.bad (by omega) hf hdt hnew hx (by omega) (by omega)
    have hth : thereB D.seen (nameB pre (s + fs.length + 1)) = true := by rw [hx, thereB_put, if_pos rfl]
    have hT := removeD_ok hd ha hth
    have hback : dropK DPair.key (nameB pre (s + fs.length + 1)) D.seen = seen := by rw [hx, dropK_put hg.rising hnew]
    rw [hback] at hT
    have hR : removeJ pre D [s + fs.length + 1] = ({ D with seen := seen, queue := D.queue ++ [.rm (nameB pre (s + fs.length + 1))] }, 0) := by
      unfold removeJ
      rw [hT]
      rfl
    have hLD : LoadsTo pre (max 1 most) b sf sn D fs (removeJ pre D [s + fs.length + 1]).1 := fun W M0 l hD hM hlb hL => by
      have := jLoadR_ hD hM hlb hd hL hp hn hG (by omega)
      rw [hR] at this
      rw [hR]
      exact this
    rw [hR] at hLD
    simp only at hLD
    have hfl := flushD_ok (D := { D with seen := seen, queue := D.queue ++ [.rm (nameB pre (s + fs.length + 1))] }) hd ha
    refine (jOpenG_ h hd hm hLD (fun _ => by rw [hfl])).mono ?_
    rintro e w' ⟨l, rfl, ho⟩
    rw [if_pos (by simp), hfl] at ho
    exact ⟨l, rfl, ⟨seen, seen, [], D.room, D.armed, D.left, D.dead⟩, s, f, fs, rss, hg, hsq, hus, hPf, hd, ha, rfl, by show seen.length + 0 < _; omega, ho⟩
end Go.Proofs.YthebdlkmoailaaaGreatDoor

namespace Go.Proofs.YthebdlkmoailaaaGreatDoor
open Go.RowKit Go.Gr Go.Maps
open Go.Proofs (encStr)
set_option linter.unusedSimpArgs false
set_option linter.unusedVariables false
theorem CGo.keep {α : Type} {E : Ty α} {w w' : World} {M M' : Nat → Prop} {cs : List Value} {x : α} (h : CGo w w' M M') (hr : E.rep w M cs x) : E.rep w' M' cs x :=
  E.keep hr (fun c hc hm => ⟨h.turn.block c hc hm, fun hx => hm (h.less c hc hx)⟩)
theorem CGo.fresh {w w' : World} {M M' : Nat → Prop} {k : Nat} (h : CGo w w' M M') (hf : ∀ c, M c → k ≤ c) (hk : k ≤ w.heap.size) : ∀ c, M' c → k ≤ c := fun c hc => by
  rcases Nat.lt_or_ge c w.heap.size with h1 | h1
  · exact hf c (h.less c h1 hc)
  · omega
theorem CGo.step {w0 w w' : World} {M M' : Nat → Prop} (h : CGo w w' M M') (hs : Step w0 w) (hf : ∀ c, M c → w0.heap.size ≤ c) : Step w0 w' := Turn.step hs h.turn hf
theorem CSess.old {pre : List UInt8} {w : World} {M : Nat → Prop} {b l : Nat} {D : DDr} {L : DLog} {s f : Nat} {rss : List (List (List UInt8))} {q U C : Nat} {P : Nat → List (List UInt8) → Prop} (h : CSess pre w M b l D L s f rss q U C P) : ∀ c, M c → c < w.heap.size := by
  obtain ⟨sf, sn, g, hD, hL⟩ := h.mem
  exact hD.old
section
variable {pre : List UInt8} {w : World} {M : Nat → Prop} {b l : Nat} {D : DDr} {L : DLog} {s f : Nat} {rss : List (List (List UInt8))} {q U C : Nat} {P : Nat → List (List UInt8) → Prop}
theorem CSess.first (h : CSess pre w M b l D L s f rss q U C P) : Calls Tryz.prog 39 #[.pointer (some ⟨l, 0, none⟩)] w fun e w' => e = .returned (.int .u64 (f : Int)) ∧ w' = w := by
  obtain ⟨sf, sn, g, hD, hL⟩ := h.mem
  obtain ⟨fv, h1, h2, _⟩ := hL.row
  have := jFirst_ h1 h2
  rw [firstL_le h.inv.chain h.inv.start] at this
  exact this
theorem CSess.next (h : CSess pre w M b l D L s f rss q U C P) : Calls Tryz.prog 17 #[.pointer (some ⟨l, 0, none⟩)] w fun e w' => e = .returned (.int .u64 ((f + rss.flatten.length : Nat) : Int)) ∧ Step w w' := by
  obtain ⟨sf, sn, g, hD, hL⟩ := h.mem
  obtain ⟨fv, h1, h2, _⟩ := hL.row
  have := jNext_ h1 h2
  rw [(h.inv.chain.last h.inv.start).2] at this
  exact this
theorem CSess.spans (h : CSess pre w M b l D L s f rss q U C P) : Calls Tryz.prog 40 #[.pointer (some ⟨l, 0, none⟩)] w fun e w' => ∃ v, e = .returned v ∧ Gr.Own tSpan 75 w' (fun _ => False) w.heap.size v (spansL L.files) ∧ Step w w' := by
  obtain ⟨sf, sn, g, hD, hL⟩ := h.mem
  obtain ⟨fv, h1, h2, _⟩ := hL.row
  exact jSpans_ h1 h2
theorem CSess.closed (h : CSess pre w M b l D L s f rss q U C P) : Calls Tryz.prog 41 #[.pointer (some ⟨l, 0, none⟩)] w fun e w' => e = .returned (.int .u64 ((if L.closed then f + rss.flatten.length else (lastF L.files).from_ : Nat) : Int)) ∧ Step w w' := by
  obtain ⟨sf, sn, g, hD, hL⟩ := h.mem
  obtain ⟨fv, h1, h2, _⟩ := hL.row
  have := jClosed_ h1 h2
  rw [(h.inv.chain.last h.inv.start).2] at this
  exact this
theorem CSess.records (h : CSess pre w M b l D L s f rss q U C P) (hp : pre.length ≤ 998) (hq : q < 99) (hU : U ≤ 68719476736) (hf : f + rss.flatten.length < 18446744073709551616) (hr : rss.flatten.length ≤ 1000000000) :
    Calls Tryz.prog 16 #[.pointer (some ⟨l, 0, none⟩), .int .u64 (f : Int), .int .u64 ((f + rss.flatten.length : Nat) : Int)] w fun e w' => ∃ v ds, e = .returned (.tuple #[v, .int .i64 0]) ∧ Gr.Own (tGB 5) 40 w' (· < w.heap.size) w.heap.size v ds ∧ Step w w' ∧ Hid (ds.map Prod.fst = rss.flatten) ∧ ApartD ds := by
  obtain ⟨sf, sn, g, hD, hL⟩ := h.mem
  obtain ⟨hl1, hl2⟩ := h.inv.chain.last h.inv.start
  have hfew := h.few
  have hus := h.used
  obtain ⟨hro, _⟩ := h.inv.good (by omega) hf (by omega)
  have hall := h.inv.chain.all (a := f) (z := f + rss.flatten.length) (by omega) hf (Nat.le_refl _) (Nat.le_refl _)
  have := jRecords_ (a := f) (z := f + rss.flatten.length) hD h.inv.dead hL hp (Nat.le_add_right _ _) (by rw [firstL_le h.inv.chain h.inv.start]; exact Nat.le_refl _) (by rw [hl2]; exact Nat.le_refl _) hf (h.inv.chain.ok hro) (by rw [hall]; exact hr)
  rw [hall] at this
  exact this
theorem CSess.notBegun {at_ : Nat} {most : Int} (h : CSess pre w M b l D L s f rss q U C P) (hm : I64 most) (hp : pre.length ≤ 998) (hq : q < 99) (hU : U ≤ 68719476736) (hf : f + rss.flatten.length < 18446744073709551616) (hne : L.files ≠ []) :
    Calls Tryz.prog 42 #[.pointer (some ⟨b, 0, none⟩), encStr pre, .int .i64 most, .int .u64 (at_ : Int)] w fun e w' => e = .returned (.tuple #[.pointer none, .int .i64 7]) ∧ Step w w' := by
  obtain ⟨sf, sn, g, hD, hL⟩ := h.mem
  have hfew := h.few
  have hus := h.used
  obtain ⟨_, ns, hn, hG⟩ := h.inv.good (by omega) hf (by omega)
  refine jBeginNo_ hD h.inv.dead hm hp hn (fun h0 => hne ?_)
  have h1 := hG.names
  rw [h0] at h1
  simpa [sortN] using h1
end
/-- Behind Begin upon a new drive. -/
theorem begin_sess {w : World} {b at_ : Nat} {r : Int} {pre : List UInt8} {most : Int} (h : DrAt w b (.map none) (.map none) (.slice none 0 0) (max 0 r) false 0 false) (hr0 : 1000 ≤ r) (hr1 : r ≤ 1048576) (hm : I64 most) (hp : pre.length ≤ 998) (hat : at_ < 18446744073709551616) :
    Calls Tryz.prog 42 #[.pointer (some ⟨b, 0, none⟩), encStr pre, .int .i64 most, .int .u64 (at_ : Int)] w fun e w' => ∃ l, e = .returned (.tuple #[.pointer (some ⟨l, 0, none⟩), .int .i64 0]) ∧ ∃ M' x, CSess pre w' M' b l (calmD x r) ⟨max 1 most, [⟨1, at_, at_, ((headB 1 at_).length : Int)⟩], true⟩ 0 at_ [[]] 1 100 100 (fun f rs => f = at_ ∧ rs = []) ∧ CGo w w' (fun c => c = b) M' := by
  have hD := DriveAt.new h
  have e0 : DDr.new r = calmD [] r := by unfold DDr.new calmD; rw [Int.max_eq_right (by omega)]
  rw [e0] at hD
  refine (jBegin_ hD hr0 hr1 hm hp hat).mono ?_
  rintro e w' ⟨l, rfl, ho⟩
  have hn0 : Rising DPair.key ([] : List DPair) := List.Pairwise.nil
  have hx : ([⟨nameB pre 1, headB 1 at_⟩] : List DPair) = putK DPair.key ⟨nameB pre 1, headB 1 at_⟩ [] := rfl
  have hdl : (headB 1 at_).length ≤ 100 := by
    have := numsB2_len (show 1 < 18446744073709551616 by omega) hat
    unfold headB
    rw [sealB_len]
    omega
  have hfb : fileB 1 at_ [] = headB 1 at_ := by simp [fileB, sealsB]
  have hus : usedB ([⟨nameB pre 1, headB 1 at_⟩] : List DPair) ≤ 100 := by
    have := usedB_put hn0 (nameB pre 1) (headB 1 at_)
    rw [dataB_no (by simp), List.nil_append, ← hx] at this
    rw [this]
    have : usedB [] = 0 := rfl
    omega
  have hg : GoodJ pre [⟨nameB pre 1, headB 1 at_⟩] 0 at_ [⟨1, at_, at_, ((headB 1 at_).length : Int)⟩] [[]] := by
    refine ⟨⟨⟨rfl, rfl, rfl, by rw [hfb], ?_, ?_, by simp⟩, trivial⟩, fun k => ?_, by rw [hx]; exact hn0.put, by simp⟩
    · rw [hx, thereB_put, if_pos rfl]
    · rw [hx, dataB_put, if_pos rfl, hfb]
    · rw [hx, keys_put]
      constructor
      · rintro (rfl | hk)
        · exact ⟨1, by omega, by simp, rfl⟩
        · simp at hk
      · rintro ⟨n, h1, h2, rfl⟩
        simp at h2
        obtain rfl : n = 1 := by omega
        exact .inl rfl
  obtain ⟨M', k1, k2⟩ := ho.sess (q := 1) (U := 100) (P := fun f rs => f = at_ ∧ rs = []) hD hg (by simp) (by omega) hus ⟨rfl, rfl⟩
  exact ⟨l, rfl, M', _, k1, k2⟩
end Go.Proofs.YthebdlkmoailaaaGreatDoor

namespace Go.Proofs.YthebdlkmoailaaaGreatDoor
open Go.RowKit Go.Gr Go.Maps
open Go.Proofs (encStr)
set_option linter.unusedSimpArgs false
set_option linter.unusedVariables false
abbrev prW : List UInt8 := [119, 46]
abbrev fileW (R : List (List UInt8)) : List UInt8 := fileB 1 0 R
abbrev oneW (R : List (List UInt8)) : DFile := ⟨1, 0, R.length, ((fileW R).length : Int)⟩
def seenOf (R : List (List UInt8)) : List DPair := if R = [] then [] else [⟨nameB prW 1, fileW R⟩]
def logOf (R : List (List UInt8)) : DLog := if R = [] then ⟨1048576, [], true⟩ else ⟨1048576, [oneW R], false⟩
theorem single_good {R : List (List UInt8)} (hr : ∀ r ∈ R, r.length ≤ 1048576) : GoodJ prW [⟨nameB prW 1, fileW R⟩] 0 0 [oneW R] [R] := by
  have hx : ([⟨nameB prW 1, fileW R⟩] : List DPair) = putK DPair.key ⟨nameB prW 1, fileW R⟩ [] := rfl
  have hn0 : Rising DPair.key ([] : List DPair) := List.Pairwise.nil
  refine ⟨⟨⟨rfl, rfl, by simp, rfl, ?_, ?_, hr⟩, trivial⟩, fun k => ?_, by rw [hx]; exact hn0.put, by simp⟩
  · rw [hx, thereB_put, if_pos rfl]
  · rw [hx, dataB_put, if_pos rfl]
  · rw [hx, keys_put]
    constructor
    · rintro (rfl | hk)
      · exact ⟨1, by omega, by simp, rfl⟩
      · simp at hk
    · rintro ⟨n, h1, h2, rfl⟩
      simp at h2
      obtain rfl : n = 1 := by omega
      exact .inl rfl
theorem good_of {R : List (List UInt8)} (hr : ∀ r ∈ R, r.length ≤ 1048576) : ∃ rss, GoodJ prW (seenOf R) 0 0 (logOf R).files rss ∧ rss.flatten = R := by
  unfold seenOf logOf
  by_cases h : R = []
  · rw [if_pos h, if_pos h]
    exact ⟨[], ⟨trivial, NamesIn.nil _, List.Pairwise.nil, fun _ => ⟨rfl, rfl⟩⟩, by rw [h]; rfl⟩
  · rw [if_neg h, if_neg h]
    exact ⟨[R], single_good hr, by simp⟩
theorem fileW_append (R S : List (List UInt8)) : fileW (R ++ S) = fileW R ++ sealsB S := by
  unfold fileW fileB
  rw [sealsB_append, List.append_assoc]
theorem head_small {a b : Nat} (ha : a < 18446744073709551616) (hb : b < 18446744073709551616) : (headB a b).length ≤ 100 := by
  have := numsB2_len ha hb
  unfold headB
  rw [sealB_len]
  omega
theorem fileW_small {R : List (List UInt8)} (hr : ∀ r ∈ R, r.length ≤ 600) (hc : R.length ≤ 20) : (fileW R).length ≤ 20000 := by
  have h1 := sealsB_small R hr
  unfold fileW fileB
  rw [List.length_append]
  have := head_small (a := 1) (b := 0) (by omega) (by omega)
  omega
theorem dataB_seenOf (R : List (List UInt8)) : dataB (seenOf R) (nameB prW 1) = if R = [] then [] else fileW R := by
  unfold seenOf
  by_cases h : R = []
  · rw [if_pos h, if_pos h]; rfl
  · rw [if_neg h, if_neg h, show ([⟨nameB prW 1, fileW R⟩] : List DPair) = putK DPair.key ⟨nameB prW 1, fileW R⟩ [] from rfl, dataB_put, if_pos rfl]
theorem thereB_seenOf (R : List (List UInt8)) : thereB (seenOf R) (nameB prW 1) = decide (R ≠ []) := by
  unfold seenOf
  by_cases h : R = []
  · rw [if_pos h, h]; rfl
  · rw [if_neg h, show ([⟨nameB prW 1, fileW R⟩] : List DPair) = putK DPair.key ⟨nameB prW 1, fileW R⟩ [] from rfl, thereB_put, if_pos rfl]
    simp [h]
theorem usedB_seenOf {R : List (List UInt8)} (hr : ∀ r ∈ R, r.length ≤ 600) (hc : R.length ≤ 20) : usedB (seenOf R) ≤ 20000 := by
  unfold seenOf
  split
  · exact Nat.zero_le _
  · have := fileW_small hr hc
    have hu := usedB_put (k := nameB prW 1) (d := fileW R) (l := []) List.Pairwise.nil
    rw [dataB_no (by simp), List.nil_append] at hu
    rw [show ([⟨nameB prW 1, fileW R⟩] : List DPair) = putK DPair.key ⟨nameB prW 1, fileW R⟩ [] from rfl, hu]
    have : usedB [] = 0 := rfl
    omega
theorem lastF_one (F : DFile) : lastF [F] = F := rfl
theorem data_of {R S : List (List UInt8)} (h1 : (fileW R).length < 1048576) : dataL (logOf R) S = (if R = [] then headB 1 0 else []) ++ sealsB S ∧ openF (logOf R) = (if R = [] then ⟨1, 0, 0, 0⟩ else oneW R) ∧ freshL (logOf R) = decide (R = []) := by
  unfold dataL headL openF logOf
  by_cases h : R = []
  · subst h
    have hf : freshL ⟨1048576, [], true⟩ = true := rfl
    simp only [if_true]
    rw [hf]
    exact ⟨rfl, rfl, rfl⟩
  · rw [if_neg h, if_neg h, if_neg h]
    have hf : freshL ⟨1048576, [oneW R], false⟩ = false := by
      unfold freshL
      rw [lastF_one]
      have : ¬ ((1048576 : Int) ≤ ((fileW R).length : Int)) := by omega
      simp [this]
    rw [hf]
    exact ⟨rfl, rfl, by simp [h]⟩
theorem append_one {D : DDr} {R S : List (List UInt8)} (hd : D.dead = false) (ha : D.armed = false) (hs : D.seen = seenOf R) (hr : ∀ r ∈ R ++ S, r.length ≤ 600) (hR : R.length ≤ 10) (hS : S.length ≤ 10) (hroom : D.room = 1073741824) :
    ∃ D', appendJ prW D (logOf R) S = ((D', logOf (R ++ S)), R.length, 0) ∧ D'.seen = seenOf (R ++ S) ∧ D'.dead = false ∧ D'.armed = false ∧ D'.room = D.room ∧ D'.safe.length + D'.queue.length ≤ D.safe.length + D.queue.length + 1 := by
  have hl : (lastF (logOf R).files).to_ = R.length := by
    unfold logOf
    split
    · rename_i h; rw [h]; rfl
    · rfl
  by_cases h0 : S = []
  · subst h0
    rw [List.append_nil]
    refine ⟨D, ?_, hs, hd, ha, rfl, by omega⟩
    unfold appendJ
    rw [if_pos rfl, hl]
  · have hR6 : ∀ r ∈ R, r.length ≤ 600 := fun r h => hr r (List.mem_append_left _ h)
    have hS6 : ∀ r ∈ S, r.length ≤ 600 := fun r h => hr r (List.mem_append_right _ h)
    have hfw := fileW_small hR6 (by omega)
    have hus := usedB_seenOf hR6 (show R.length ≤ 20 by omega)
    have hss := sealsB_small S hS6
    have hhd : (headB 1 0).length ≤ 100 := head_small (by omega) (by omega)
    obtain ⟨e1, e2, e3⟩ := data_of (R := R) (S := S) (by omega)
    have hdl : (dataL (logOf R) S).length ≤ 10000 := by
      rw [e1, List.length_append]
      split
      · omega
      · simp only [List.length_nil]; omega
    have hser : (openF (logOf R)).serial = 1 := by rw [e2]; split <;> rfl
    have hok := appendD_ok (s := nameB prW 1) (d := dataL (logOf R) S) hd ha (by rw [hs, hroom]; omega)
    have hRS : R ++ S ≠ [] := fun h => h0 (List.append_eq_nil_iff.1 h).2
    have hfull : dataB D.seen (nameB prW 1) ++ dataL (logOf R) S = fileW (R ++ S) := by
      rw [hs, dataB_seenOf, e1, fileW_append]
      by_cases h : R = []
      · subst h
        rw [if_pos rfl, if_pos rfl, List.nil_append]
        simp [fileW, fileB, sealsB]
      · rw [if_neg h, if_neg h, List.nil_append]
    rw [hfull] at hok
    have hput : putK DPair.key ⟨nameB prW 1, fileW (R ++ S)⟩ D.seen = seenOf (R ++ S) := by
      rw [hs]
      unfold seenOf
      rw [if_neg hRS]
      by_cases h : R = []
      · rw [if_pos h]; rfl
      · rw [if_neg h, show ([⟨nameB prW 1, fileW R⟩] : List DPair) = putK DPair.key ⟨nameB prW 1, fileW R⟩ [] from rfl, putK_twice List.Pairwise.nil]
        rfl
    rw [hput] at hok
    have hpush : pushL (logOf R) S = logOf (R ++ S) := by
      unfold pushL grownF
      rw [e1, e2, e3]
      unfold logOf
      rw [if_neg hRS]
      by_cases h : R = []
      · subst h
        simp only [if_true, decide_true, List.nil_append, List.length_append, Nat.zero_add]
        simp [fileW, fileB]
      · simp only [if_neg h, decide_eq_false h, List.length_append]
        simp [fileW_append]
    have hnt : tooLong S = false := tooLong_not (fun r h => by have := hS6 r h; omega)
    refine ⟨⟨D.safe, seenOf (R ++ S), D.queue ++ [.wr (nameB prW 1) (dataB D.seen (nameB prW 1)).length (dataL (logOf R) S)], D.room, D.armed, D.left, D.dead⟩, ?_, rfl, hd, ha, rfl, ?_⟩
    · unfold appendJ
      rw [if_neg h0, if_neg (by rw [hnt]; simp), hser, hok, if_pos rfl, hpush, hl]
    · simp only [List.length_append, List.length_singleton]
      omega
/-- A journal of the records R upon a drive of room, its file whole. -/
structure SpS (w : World) (M : Nat → Prop) (b l : Nat) (R : List (List UInt8)) (D : DDr) : Prop where
  mem : ∃ sf sn g, DriveAt w M b sf sn D ∧ LogAt w M l b g prW (logOf R)
  seen : D.seen = seenOf R
  dead : D.dead = false
  armed : D.armed = false
  room : D.room = 1073741824
section
variable {w : World} {M : Nat → Prop} {b l : Nat} {R : List (List UInt8)} {D : DDr}
theorem SpS.step {w' : World} (h : SpS w M b l R D) (hs : Step w w') : SpS w' M b l R D := by
  obtain ⟨⟨sf, sn, g, h1, h2⟩, h3, h4, h5, h6⟩ := h
  exact ⟨⟨sf, sn, g, h1.step hs, h2.step hs⟩, h3, h4, h5, h6⟩
theorem SpS.old (h : SpS w M b l R D) : ∀ c, M c → c < w.heap.size := by
  obtain ⟨sf, sn, g, hD, hL⟩ := h.mem
  exact hD.old
theorem SpS.append {M2 : Nat → Prop} {v : Value} {S : List (List UInt8)} (h : SpS w M b l R D) (hrep : (Ty.slice Ty.bytes).rep w M2 [v] S) (hr : ∀ r ∈ R ++ S, r.length ≤ 600) (hR : R.length ≤ 10) (hS : S.length ≤ 10) (hc : D.safe.length + D.queue.length < 100) :
    Calls Tryz.prog 14 #[.pointer (some ⟨l, 0, none⟩), v] w fun e w' => (∃ u, e = .returned (.tuple #[.int .u64 u, .int .i64 0])) ∧ ∃ M' D', SpS w' M' b l (R ++ S) D' ∧ CGo w w' M M' ∧ D'.safe.length + D'.queue.length ≤ D.safe.length + D.queue.length + 1 := by
  obtain ⟨sf, sn, g, hD, hL⟩ := h.mem
  have hR6 : ∀ r ∈ R, r.length ≤ 1048576 := fun r hx => by have := hr r (List.mem_append_left _ hx); omega
  obtain ⟨rss, hg, hfl⟩ := good_of hR6
  rw [← h.seen] at hg
  have hI := hg.inv (L := logOf R) h.dead h.armed
  obtain ⟨D', e1, e2, e3, e4, e5, e6⟩ := append_one h.dead h.armed h.seen hr hR hS h.room
  have hus := usedB_seenOf (fun r hx => hr r (List.mem_append_left _ hx)) (show R.length ≤ 20 by omega)
  have hfw := fileW_small (fun r hx => hr r (List.mem_append_left _ hx)) (show R.length ≤ 20 by omega)
  have hss := sealsB_small S (fun r hx => hr r (List.mem_append_right _ hx))
  have hlen : (logOf R).files.length ≤ 1 := by unfold logOf; split <;> simp
  have hhd : (headB 1 0).length ≤ 100 := head_small (by omega) (by omega)
  have hRJ : RoomJ prW D (logOf R) S := by
    refine hI.roomJ (by simp) (by omega) (by rw [h.seen, h.room]; omega) (by rw [h.room]; omega) (by omega) ?_ (by rw [hfl]; omega) (by rw [h.seen]; omega)
    rw [(data_of (by omega)).1, List.length_append]
    split
    · omega
    · simp only [List.length_nil]; omega
  refine (jAppend_ hD hL hrep hRJ).mono ?_
  rintro e w' ⟨rfl, M', sf', sn', g', hD', hL', hGo⟩
  rw [e1] at hD' hL' ⊢
  exact ⟨⟨_, rfl⟩, M', D', ⟨⟨sf', sn', g', hD', hL'⟩, e2, e3, e4, by rw [e5, h.room]⟩, hGo.cgo hD hL, e6⟩
theorem SpS.size (h : SpS w M b l R D) : Calls Tryz.prog 24 #[.pointer (some ⟨b, 0, none⟩), encStr [119, 46, 49]] w fun e w' => e = .returned (.int .i64 ((if R = [] then [] else fileW R).length : Int)) ∧ w' = w := by
  obtain ⟨sf, sn, g, hD, hL⟩ := h.mem
  obtain ⟨queue, hr, _⟩ := hD.row
  have h1 := dSize_ (s := nameB prW 1) hr hD.seen (by simp [maxLen, nameB, decS])
  rw [h.dead, h.seen, dataB_seenOf] at h1
  exact h1
theorem SpS.read (h : SpS w M b l R D) (hne : R ≠ []) : Calls Tryz.prog 25 #[.pointer (some ⟨b, 0, none⟩), encStr [119, 46, 49]] w fun e w' => ∃ v, e = .returned (.tuple #[v, .int .i64 0]) ∧ Gr.Own Ty.byte 5 w' (· < w.heap.size) w.heap.size v (fileW R) ∧ Step w w' := by
  obtain ⟨sf, sn, g, hD, hL⟩ := h.mem
  obtain ⟨queue, hr, _⟩ := hD.row
  have h1 := dRead_ (s := nameB prW 1) hr hD.seen (by simp [maxLen, nameB, decS])
  refine h1.mono fun e w' hx => ?_
  unfold ReadRet at hx
  rw [h.dead, h.seen, thereB_seenOf, dataB_seenOf] at hx
  simp only [Bool.false_eq_true, if_false, ne_eq, hne, not_false_iff, decide_true, if_true] at hx
  exact hx
theorem SpS.readNo (h : SpS w M b l [] D) : Calls Tryz.prog 25 #[.pointer (some ⟨b, 0, none⟩), encStr [119, 46, 49]] w fun e w' => e = .returned (.tuple #[.slice none 0 0, .int .i64 6]) ∧ w' = w := by
  obtain ⟨sf, sn, g, hD, hL⟩ := h.mem
  obtain ⟨queue, hr, _⟩ := hD.row
  have h1 := dRead_ (s := nameB prW 1) hr hD.seen (by simp [maxLen, nameB, decS])
  refine h1.mono fun e w' hx => ?_
  unfold ReadRet at hx
  rw [h.dead, h.seen, thereB_seenOf] at hx
  simpa using hx
end
end Go.Proofs.YthebdlkmoailaaaGreatDoor

namespace Go.Proofs.YthebdlkmoailaaaGreatDoor
open Go.RowKit Go.Gr Go.Maps
open Go.Proofs (encStr)
set_option linter.unusedSimpArgs false
set_option linter.unusedVariables false
/-- A drive that has the one file z. -/
structure SpX (w : World) (M : Nat → Prop) (b : Nat) (z : List UInt8) (c : Nat) : Prop where
  mem : ∃ sf sn D, DriveAt w M b sf sn D ∧ D.seen = [⟨nameB prW 1, z⟩] ∧ D.dead = false ∧ D.armed = false ∧ D.room = 1073741824 ∧ D.safe.length + D.queue.length < c
theorem SpX.step {w w' : World} {M : Nat → Prop} {b c : Nat} {z : List UInt8} (h : SpX w M b z c) (hs : Step w w') : SpX w' M b z c := by
  obtain ⟨sf, sn, D, h1, h2⟩ := h.mem
  exact ⟨sf, sn, D, h1.step hs, h2⟩
theorem DGo.cgo {w w' : World} {M M' : Nat → Prop} {b : Nat} {sf sn sf' sn' : Option Nat} {D : DDr} (h : DGo b w M sf sn w' M' sf' sn') (hD : DriveAt w M b sf sn D) : CGo w w' M M' :=
  ⟨h.turn.mono fun c hc hx => hx.elim (fun h => by omega) (fun hx => hD.own c hx), h.less⟩
theorem put_one (k u v : List UInt8) : putK DPair.key ⟨k, u⟩ [⟨k, v⟩] = [⟨k, u⟩] := by
  rw [show ([⟨k, v⟩] : List DPair) = putK DPair.key ⟨k, v⟩ [] from rfl, putK_twice List.Pairwise.nil]
  rfl
theorem data_one (k v : List UInt8) : dataB [⟨k, v⟩] k = v := by
  rw [show ([⟨k, v⟩] : List DPair) = putK DPair.key ⟨k, v⟩ [] from rfl, dataB_put, if_pos rfl]
theorem there_one (k v : List UInt8) : thereB [⟨k, v⟩] k = true := by
  rw [show ([⟨k, v⟩] : List DPair) = putK DPair.key ⟨k, v⟩ [] from rfl, thereB_put, if_pos rfl]
theorem used_one (k v : List UInt8) : usedB [⟨k, v⟩] = v.length := by
  have hu := usedB_put (k := k) (d := v) (l := []) List.Pairwise.nil
  rw [dataB_no (by simp), List.nil_append] at hu
  rw [show ([⟨k, v⟩] : List DPair) = putK DPair.key ⟨k, v⟩ [] from rfl, hu]
  have : usedB [] = 0 := rfl
  omega
theorem SpS.trim {w : World} {M : Nat → Prop} {b l : Nat} {R : List (List UInt8)} {D : DDr} (h : SpS w M b l R D) (hne : R ≠ []) (hc : D.safe.length + D.queue.length < 90) :
    Calls Tryz.prog 26 #[.pointer (some ⟨b, 0, none⟩), encStr [119, 46, 49], .int .i64 0] w fun e w' => (∃ u, e = .returned (.int .i64 u)) ∧ ∃ M', SpX w' M' b [] 100 ∧ CGo w w' M M' := by
  obtain ⟨sf, sn, g, hD, hL⟩ := h.mem
  have hs1 : D.seen = [⟨nameB prW 1, fileW R⟩] := by rw [h.seen]; unfold seenOf; rw [if_neg hne]
  have hok := trimD_ok (nm := nameB prW 1) (z := 0) h.dead h.armed (by rw [hs1]; exact there_one _ _)
  refine (dTrim_ (s := nameB prW 1) (z := 0) hD (by simp [nameB, decS]) (Nat.zero_le _) (by omega)).mono ?_
  rintro e w' ⟨rfl, M', sf', sn', h1, h2⟩
  rw [hok] at h1
  refine ⟨⟨_, rfl⟩, M', ⟨sf', sn', _, h1, ?_, h.dead, h.armed, h.room, ?_⟩, h2.cgo hD⟩
  · show putK _ _ D.seen = _
    rw [hs1, put_one, List.take_zero]
  · simp only [List.length_append, List.length_singleton]
    omega
theorem SpX.append {w : World} {M M2 : Nat → Prop} {b : Nat} {z : List UInt8} {v : Value} (h : SpX w M b [] 100) (hr : Ty.bytes.rep w M2 [v] z) (hz : z.length ≤ 20000) :
    Calls Tryz.prog 27 #[.pointer (some ⟨b, 0, none⟩), encStr [119, 46, 49], v] w fun e w' => (∃ u, e = .returned (.int .i64 u)) ∧ ∃ M', SpX w' M' b z 101 ∧ CGo w w' M M' := by
  obtain ⟨sf, sn, D, hD, h1, h2, h3, h4, h5⟩ := h.mem
  have hok := appendD_ok (s := nameB prW 1) (d := z) h2 h3 (by rw [h1, used_one, h4]; simp; omega)
  refine (dAppend_ (s := nameB prW 1) hD hr (by simp [nameB, decS]) (by rw [h1, used_one]; simp) (by omega) (by omega) (by rw [h1, data_one]; simp; omega) (by omega)).mono ?_
  rintro e w' ⟨rfl, M', sf', sn', k1, k2⟩
  rw [hok] at k1
  refine ⟨⟨_, rfl⟩, M', ⟨sf', sn', _, k1, ?_, h2, h3, h4, ?_⟩, k2.cgo hD⟩
  · show putK _ _ D.seen = _
    rw [h1, put_one, data_one, List.nil_append]
  · simp only [List.length_append, List.length_singleton]
    omega
/-- What holds of a journal behind one byte changed, at i: j of its records are there, fewer than all, and all that stood whole ahead of i. -/
def Ahead (R : List (List UInt8)) (i j : Nat) : Prop := j < R.length ∧ ∀ m, (fileW (R.take m)).length ≤ i → m ≤ j
theorem spoilt_st {R : List (List UInt8)} {i : Nat} {y : UInt8} (hy : y ≠ 0) (hr : ∀ r ∈ R, r.length ≤ 600) (hc : R.length ≤ 20) (hne : R ≠ []) (hi : i < (fileW R).length) : StJ prW 1 20000 (fun f rs => f = 0 ∧ ∃ j, Ahead R i j ∧ rs = R.take j) [⟨nameB prW 1, spoil y i (fileW R)⟩] := by
  have hr2 : ∀ r ∈ R, r.length ≤ 1048576 := fun r h => by have := hr r h; omega
  have hu : usedB [⟨nameB prW 1, spoil y i (fileW R)⟩] ≤ 20000 := by
    rw [used_one, spoil_len]
    exact fileW_small hr hc
  have hnl := numsB2_len (a := 1) (b := 0) (by omega) (by omega)
  obtain ⟨j, t, h1, h2, h3, h4, h5⟩ := seals_spoilt hy (numsB [1, 0] :: R) i (fun r h => by
    rcases List.mem_cons.1 h with rfl | h
    · omega
    · exact hr2 r h) hi
  have h2' : spoil y i (fileW R) = sealsB ((numsB [1, 0] :: R).take j) ++ t := h2
  rw [h2'] at hu ⊢
  rcases j with _ | j
  · refine ⟨[], 0, 0, [], [], ⟨trivial, NamesIn.nil _, List.Pairwise.nil, fun _ => ⟨rfl, rfl⟩⟩, Nat.zero_le _, hu, ⟨rfl, 0, ⟨List.length_pos_iff.2 hne, fun m hm => ?_⟩, rfl⟩, .inr (.inr ⟨by simp, t, by simp, rfl, h3⟩)⟩
    exact absurd (h5 (m + 1) hm) (by omega)
  · have hj : j < R.length := by simpa using h1
    refine ⟨[⟨nameB prW 1, fileW (R.take j)⟩], 0, 0, [oneW (R.take j)], [R.take j], single_good (fun r h => hr2 r (List.mem_of_mem_take h)), by simp, hu, ⟨rfl, j, ⟨hj, fun m hm => ?_⟩, by simp⟩, .inr (.inl ⟨by simp, t, h4, there_one _ _, ?_, h3⟩)⟩
    · have := h5 (m + 1) hm
      omega
    · show _ = putK DPair.key ⟨nameB prW 1, dataB [⟨nameB prW 1, fileW (R.take j)⟩] (nameB prW 1) ++ t⟩ [⟨nameB prW 1, fileW (R.take j)⟩]
      rw [put_one, data_one]
      rfl
/-- A journal in order, whatever a crash would make of it. -/
structure JSess (w : World) (M : Nat → Prop) (b l : Nat) (D : DDr) (L : DLog) (s f : Nat) (rss : List (List (List UInt8))) : Prop where
  mem : ∃ sf sn g, DriveAt w M b sf sn D ∧ LogAt w M l b g prW L
  inv : JInv prW D L s f rss
  few : s + L.files.length ≤ 1
  used : usedB D.seen ≤ 20000
  cnt : D.safe.length + D.queue.length < 900000
section
variable {w : World} {M : Nat → Prop} {b l : Nat} {D : DDr} {L : DLog} {s f : Nat} {rss : List (List (List UInt8))}
theorem JSess.step {w' : World} (h : JSess w M b l D L s f rss) (hs : Step w w') : JSess w' M b l D L s f rss := by
  obtain ⟨⟨sf, sn, g, h1, h2⟩, h3, h4, h5, h6⟩ := h
  exact ⟨⟨sf, sn, g, h1.step hs, h2.step hs⟩, h3, h4, h5, h6⟩
theorem JSess.next (h : JSess w M b l D L s f rss) : Calls Tryz.prog 17 #[.pointer (some ⟨l, 0, none⟩)] w fun e w' => e = .returned (.int .u64 ((f + rss.flatten.length : Nat) : Int)) ∧ Step w w' := by
  obtain ⟨sf, sn, g, hD, hL⟩ := h.mem
  obtain ⟨fv, h1, h2, _⟩ := hL.row
  have := jNext_ h1 h2
  rw [(h.inv.chain.last h.inv.start).2] at this
  exact this
theorem JSess.records (h : JSess w M b l D L s f rss) (hf : f + rss.flatten.length < 18446744073709551616) (hr : rss.flatten.length ≤ 1000000000) :
    Calls Tryz.prog 16 #[.pointer (some ⟨l, 0, none⟩), .int .u64 (f : Int), .int .u64 ((f + rss.flatten.length : Nat) : Int)] w fun e w' => ∃ v ds, e = .returned (.tuple #[v, .int .i64 0]) ∧ Gr.Own (tGB 5) 40 w' (· < w.heap.size) w.heap.size v ds ∧ Step w w' ∧ Hid (ds.map Prod.fst = rss.flatten) ∧ ApartD ds := by
  obtain ⟨sf, sn, g, hD, hL⟩ := h.mem
  obtain ⟨hl1, hl2⟩ := h.inv.chain.last h.inv.start
  have hfew := h.few
  have hus := h.used
  obtain ⟨hro, _⟩ := h.inv.good (by omega) hf (by omega)
  have hall := h.inv.chain.all (a := f) (z := f + rss.flatten.length) (by omega) hf (Nat.le_refl _) (Nat.le_refl _)
  have := jRecords_ (a := f) (z := f + rss.flatten.length) hD h.inv.dead hL (by simp) (Nat.le_add_right _ _) (by rw [firstL_le h.inv.chain h.inv.start]; exact Nat.le_refl _) (by rw [hl2]; exact Nat.le_refl _) hf (h.inv.chain.ok hro) (by rw [hall]; exact hr)
  rw [hall] at this
  exact this
/-- Opened again it is the same. -/
theorem JSess.again {most : Int} (h : JSess w M b l D L s f rss) (hm : I64 most) (hf : f + rss.flatten.length < 1000000) :
    Calls Tryz.prog 12 #[.pointer (some ⟨b, 0, none⟩), encStr [119, 46], .int .i64 most] w fun e w' => ∃ l2, e = .returned (.tuple #[.pointer (some ⟨l2, 0, none⟩), .int .i64 0]) ∧ ∃ M' D' L' s' rss', JSess w' M' b l2 D' L' s' f rss' ∧ rss'.flatten = rss.flatten ∧ CGo w w' M M' ∧ ∀ W : World, Step w' W → Calls Tryz.prog 17 #[.pointer (some ⟨l, 0, none⟩)] W fun e w' => e = .returned (.int .u64 ((f + rss.flatten.length : Nat) : Int)) ∧ Step W w' := by
  obtain ⟨sf, sn, g, hD, hL⟩ := h.mem
  refine (jOpenD_ (q := 1) (U := 20000) (P := fun f2 rs => f2 = f ∧ rs = rss.flatten) hD h.inv.dead h.inv.armed h.cnt hm (by simp) (h.inv.goodJ.st h.few h.used ⟨rfl, rfl⟩) (by omega) (by omega) (fun f2 rs hx => by rw [hx.1, hx.2]; omega)).mono ?_
  rintro e w' ⟨l2, rfl, D', s', f', fs, rss', k1, k2, k3, ⟨rfl, k4⟩, k5, k6, k7, k8, _, g', M', sf', sn', j1, j2, j3, _⟩
  refine ⟨l2, rfl, M', D', ⟨max 1 most, fs, true⟩, s', rss', ⟨⟨sf', sn', g', j1, j2⟩, GoodJ.inv (L := ⟨max 1 most, fs, true⟩) k1 k5 k6, k2, k3, k8⟩, k4, j3.cgo hD, fun W hW => ?_⟩
  obtain ⟨fv, h1, h2, _⟩ := (hL.beside hD j3).row
  have := jNext_ (CellsAt.step h1 hW) (h2.step hW)
  rw [(h.inv.chain.last h.inv.start).2] at this
  exact this
end
theorem SpX.open {w : World} {M : Nat → Prop} {b i : Nat} {R : List (List UInt8)} {y : UInt8} {most : Int} (h : SpX w M b (spoil y i (fileW R)) 101) (hm : I64 most) (hy : y ≠ 0) (hr : ∀ r ∈ R, r.length ≤ 600) (hc : R.length ≤ 20) (hne : R ≠ []) (hi : i < (fileW R).length) :
    Calls Tryz.prog 12 #[.pointer (some ⟨b, 0, none⟩), encStr [119, 46], .int .i64 most] w fun e w' => ∃ l, e = .returned (.tuple #[.pointer (some ⟨l, 0, none⟩), .int .i64 0]) ∧ ∃ M' D' L' s' rss' j, JSess w' M' b l D' L' s' 0 rss' ∧ rss'.flatten = R.take j ∧ Ahead R i j ∧ CGo w w' M M' := by
  obtain ⟨sf, sn, D, hD, h1, h2, h3, h4, h5⟩ := h.mem
  refine (jOpenD_ (q := 1) (U := 20000) (P := fun f rs => f = 0 ∧ ∃ j, Ahead R i j ∧ rs = R.take j) hD h2 h3 (by omega) hm (by simp) (by rw [h1]; exact spoilt_st hy hr hc hne hi) (by omega) (by omega) (fun f rs hx => by
    obtain ⟨rfl, j, _, rfl⟩ := hx
    rw [List.length_take]
    omega)).mono ?_
  rintro e w' ⟨l, rfl, D', s', f', fs, rss', k1, k2, k3, ⟨rfl, j, k4, k4'⟩, k5, k6, k7, k8, _, g', M', sf', sn', j1, j2, j3, _⟩
  exact ⟨l, rfl, M', D', _, s', rss', j, ⟨⟨sf', sn', g', j1, j2⟩, GoodJ.inv (L := ⟨max 1 most, fs, true⟩) k1 k5 k6, k2, k3, k8⟩, k4', k4, j3.cgo hD⟩
/-- A journal upon a new drive. -/
theorem sps_open0 {w : World} {b : Nat} (h : DrAt w b (.map none) (.map none) (.slice none 0 0) (max 0 1073741824) false 0 false) :
    Calls Tryz.prog 12 #[.pointer (some ⟨b, 0, none⟩), encStr [119, 46], .int .i64 1048576] w fun e w' => ∃ l, e = .returned (.tuple #[.pointer (some ⟨l, 0, none⟩), .int .i64 0]) ∧ Step w w' ∧ ∃ M' D, SpS w' M' b l [] D ∧ D.safe.length + D.queue.length = 0 ∧ ∀ c, M' c → c = b ∨ w.heap.size ≤ c := by
  have hD := DriveAt.new h
  obtain ⟨_, ns, hn, hG⟩ := (JInv.new prW 1073741824 0).good (by simp) (by simp) (by show usedB [] ≤ _; exact Nat.zero_le _)
  refine (jOpen_ hD rfl (by unfold I64; omega) (by simp) hn hG).mono ?_
  rintro e w' ⟨l, g, M', rfl, h1, h2, h3, h4, h5, h6, h7⟩
  refine ⟨l, rfl, h1, M', DDr.new 1073741824, ⟨⟨none, none, g, h3, h4⟩, rfl, rfl, rfl, rfl⟩, rfl, fun c hc => ?_⟩
  rcases Nat.lt_or_ge c w.heap.size with h | h
  · exact .inl (h6 c h hc)
  · exact .inr h
end Go.Proofs.YthebdlkmoailaaaGreatDoor

namespace Go.Proofs.YthebdlkmoailaaaGreatDoor
open Go.RowKit Go.Gr Go.Maps
open Go.Proofs (encStr)
set_option linter.unusedSimpArgs false
set_option linter.unusedVariables false
theorem xor_bv (x y : UInt8) : Value.int .u8 (bits .xor .u8 (x.toNat : Int) (y.toNat : Int)) = bv (x ^^^ y) := by
  rw [u8_xor_nat _ _ x.toNat_lt y.toNat_lt, ← UInt8.toNat_xor]
theorem shortB_ok (l : List (List UInt8)) : (∀ x ∈ shortB l, x.length ≤ 600) ∧ (shortB l).length ≤ 10 := by
  unfold shortB
  refine ⟨fun x hx => ?_, by rw [List.length_map, List.length_take]; omega⟩
  obtain ⟨y, _, rfl⟩ := List.mem_map.1 hx
  rw [List.length_take]
  omega
/-- Two rows beside a journal's memory. -/
structure Two (w0 w : World) (M : Nat → Prop) (v1 v2 : Value) (F S : List (List UInt8)) : Prop where
  step : Step w0 w
  fresh : ∀ c, M c → w0.heap.size ≤ c
  r1 : (Ty.slice Ty.bytes).rep w M [v1] F
  r2 : (Ty.slice Ty.bytes).rep w M [v2] S
theorem Two.next {w0 w w' : World} {M : Nat → Prop} {v1 v2 : Value} {F S : List (List UInt8)} (h : Two w0 w M v1 v2 F S) (hs : Step w w') : Two w0 w' M v1 v2 F S := ⟨h.step.trans hs, h.fresh, Ty.step _ h.r1 hs, Ty.step _ h.r2 hs⟩
theorem Two.go {w0 w w' : World} {M M' : Nat → Prop} {v1 v2 : Value} {F S : List (List UInt8)} (h : Two w0 w M v1 v2 F S) (g : CGo w w' M M') : Two w0 w' M' v1 v2 F S := ⟨g.step h.step h.fresh, g.fresh h.fresh h.step.size, g.keep h.r1, g.keep h.r2⟩
theorem Two.less {w0 w : World} {M M' : Nat → Prop} {v1 v2 : Value} {F S : List (List UInt8)} (h : Two w0 w M v1 v2 F S) (hM : ∀ c, M' c → M c) : Two w0 w M' v1 v2 F S := ⟨h.step, fun c hc => h.fresh c (hM c hc), Ty.less _ h.r1 (fun c _ hc => hM c hc), Ty.less _ h.r2 (fun c _ hc => hM c hc)⟩
structure SpT (w0 w : World) (M : Nat → Prop) (b l : Nat) (R : List (List UInt8)) (c : Nat) (v1 v2 : Value) (F S : List (List UInt8)) : Prop where
  sps : ∃ D, SpS w M b l R D ∧ D.safe.length + D.queue.length ≤ c
  two : Two w0 w M v1 v2 F S
section
variable {w0 w : World} {M : Nat → Prop} {b l c : Nat} {R F S : List (List UInt8)} {v1 v2 : Value}
theorem SpT.next {w' : World} (h : SpT w0 w M b l R c v1 v2 F S) (hs : Step w w') : SpT w0 w' M b l R c v1 v2 F S := by
  obtain ⟨⟨D, h1, h2⟩, h3⟩ := h
  exact ⟨⟨D, h1.step hs, h2⟩, h3.next hs⟩
theorem SpT.append {M2 : Nat → Prop} {v : Value} {X R' : List (List UInt8)} (h : SpT w0 w M b l R c v1 v2 F S) (hrep : (Ty.slice Ty.bytes).rep w M2 [v] X) (hR' : R' = R ++ X) (hr : ∀ r ∈ R', r.length ≤ 600) (hR : R.length ≤ 10) (hX : X.length ≤ 10) (hc : c < 50) :
    Calls Tryz.prog 14 #[.pointer (some ⟨l, 0, none⟩), v] w fun e w' => (∃ u, e = .returned (.tuple #[.int .u64 u, .int .i64 0])) ∧ ∃ M', SpT w0 w' M' b l R' (c + 1) v1 v2 F S := by
  obtain ⟨⟨D, h1, h2⟩, h3⟩ := h
  subst hR'
  refine (h1.append hrep hr hR hX (by omega)).mono ?_
  rintro e w' ⟨he, M', D', k1, k2, k3⟩
  exact ⟨he, M', ⟨D', k1, by omega⟩, h3.go k2⟩
theorem SpT.open0 (h : DrAt w b (.map none) (.map none) (.slice none 0 0) (max 0 1073741824) false 0 false) (ht : Two w0 w (fun c => b ≤ c) v1 v2 F S) :
    Calls Tryz.prog 12 #[.pointer (some ⟨b, 0, none⟩), encStr [119, 46], .int .i64 1048576] w fun e w' => ∃ l, e = .returned (.tuple #[.pointer (some ⟨l, 0, none⟩), .int .i64 0]) ∧ ∃ M', SpT w0 w' M' b l [] 0 v1 v2 F S := by
  have hb := h.lt
  refine (sps_open0 h).mono ?_
  rintro e w' ⟨l, rfl, hS, M', D, h1, h2, h3⟩
  exact ⟨l, rfl, M', ⟨D, h1, by omega⟩, (ht.next hS).less (fun c hc => by
    show b ≤ c
    rcases h3 c hc with h | h <;> omega)⟩
structure SxT (w0 w : World) (M : Nat → Prop) (b : Nat) (z : List UInt8) (c : Nat) (v1 v2 : Value) (F S : List (List UInt8)) : Prop where
  spx : SpX w M b z c
  two : Two w0 w M v1 v2 F S
theorem SxT.next {w' : World} {z : List UInt8} (h : SxT w0 w M b z c v1 v2 F S) (hs : Step w w') : SxT w0 w' M b z c v1 v2 F S := ⟨h.spx.step hs, h.two.next hs⟩
theorem SpT.trim (h : SpT w0 w M b l R c v1 v2 F S) (hne : R ≠ []) (hc : c < 50) :
    Calls Tryz.prog 26 #[.pointer (some ⟨b, 0, none⟩), encStr [119, 46, 49], .int .i64 0] w fun e w' => (∃ u, e = .returned (.int .i64 u)) ∧ ∃ M', SxT w0 w' M' b [] 100 v1 v2 F S ∧ CGo w w' M M' := by
  obtain ⟨⟨D, h1, h2⟩, h3⟩ := h
  refine (h1.trim hne (by omega)).mono ?_
  rintro e w' ⟨he, M', k1, k2⟩
  exact ⟨he, M', ⟨k1, h3.go k2⟩, k2⟩
theorem SxT.append {M2 : Nat → Prop} {z : List UInt8} {v : Value} (h : SxT w0 w M b [] 100 v1 v2 F S) (hr : Ty.bytes.rep w M2 [v] z) (hz : z.length ≤ 20000) :
    Calls Tryz.prog 27 #[.pointer (some ⟨b, 0, none⟩), encStr [119, 46, 49], v] w fun e w' => (∃ u, e = .returned (.int .i64 u)) ∧ ∃ M', SxT w0 w' M' b z 101 v1 v2 F S := by
  refine (h.spx.append hr hz).mono ?_
  rintro e w' ⟨he, M', k1, k2⟩
  exact ⟨he, M', k1, h.two.go k2⟩
structure JsT (w0 w : World) (M : Nat → Prop) (b l : Nat) (R : List (List UInt8)) (v1 v2 : Value) (F S : List (List UInt8)) : Prop where
  js : ∃ D L s rss, JSess w M b l D L s 0 rss ∧ rss.flatten = R
  two : Two w0 w M v1 v2 F S
theorem JsT.next' {w' : World} (h : JsT w0 w M b l R v1 v2 F S) (hs : Step w w') : JsT w0 w' M b l R v1 v2 F S := by
  obtain ⟨⟨D, L, s, rss, h1, h2⟩, h3⟩ := h
  exact ⟨⟨D, L, s, rss, h1.step hs, h2⟩, h3.next hs⟩
theorem SxT.open {i : Nat} {y : UInt8} (h : SxT w0 w M b (spoil y i (fileW R)) 101 v1 v2 F S) (hy : y ≠ 0) (hr : ∀ r ∈ R, r.length ≤ 600) (hc : R.length ≤ 20) (hne : R ≠ []) (hi : i < (fileW R).length) :
    Calls Tryz.prog 12 #[.pointer (some ⟨b, 0, none⟩), encStr [119, 46], .int .i64 1048576] w fun e w' => ∃ l, e = .returned (.tuple #[.pointer (some ⟨l, 0, none⟩), .int .i64 0]) ∧ ∃ M' j, JsT w0 w' M' b l (R.take j) v1 v2 F S ∧ Ahead R i j := by
  refine (h.spx.open (by unfold I64; omega) hy hr hc hne hi).mono ?_
  rintro e w' ⟨l, rfl, M', D', L', s', rss', j, k1, k2, k3, k4⟩
  exact ⟨l, rfl, M', j, ⟨⟨D', L', s', rss', k1, k2⟩, h.two.go k4⟩, k3⟩
theorem JsT.nextI (h : JsT w0 w M b l R v1 v2 F S) : Calls Tryz.prog 17 #[.pointer (some ⟨l, 0, none⟩)] w fun e w' => e = .returned (.int .u64 (R.length : Int)) ∧ Step w w' := by
  obtain ⟨⟨D, L, s, rss, h1, rfl⟩, _⟩ := h
  have := h1.next
  rw [Nat.zero_add] at this
  exact this
theorem JsT.records (h : JsT w0 w M b l R v1 v2 F S) (hc : R.length ≤ 20) :
    Calls Tryz.prog 16 #[.pointer (some ⟨l, 0, none⟩), .int .u64 0, .int .u64 (R.length : Int)] w fun e w' => ∃ v, e = .returned (.tuple #[v, .int .i64 0]) ∧ (Ty.slice Ty.bytes).rep w' (· < w.heap.size) [v] R ∧ Step w w' := by
  obtain ⟨⟨D, L, s, rss, h1, rfl⟩, _⟩ := h
  have := h1.records (by omega) (by omega)
  rw [Nat.zero_add] at this
  refine this.mono ?_
  rintro e w' ⟨v, ds, rfl, hO, hS, hm, _⟩
  have hr : (Ty.slice Ty.bytes).rep w' (· < w.heap.size) [v] rss.flatten := by
    rw [← hm.out]
    exact slice_mapE Prod.fst rfl tGB_bytes (Own.rep' hO (fun b hb hx => by
      have h1 := (hO.lt hb).1
      have h2 : b < w.heap.size := hx
      omega))
  exact ⟨v, rfl, hr, hS⟩
theorem JsT.old (h : JsT w0 w M b l R v1 v2 F S) : ∀ c, M c → c < w.heap.size := by
  obtain ⟨⟨D, L, s, rss, h1, _⟩, _⟩ := h
  obtain ⟨sf, sn, g, hD, _⟩ := h1.mem
  exact hD.old
theorem JsT.again (h : JsT w0 w M b l R v1 v2 F S) (hc : R.length ≤ 20) :
    Calls Tryz.prog 12 #[.pointer (some ⟨b, 0, none⟩), encStr [119, 46], .int .i64 1048576] w fun e w' => ∃ l2, e = .returned (.tuple #[.pointer (some ⟨l2, 0, none⟩), .int .i64 0]) ∧ ∃ M', JsT w0 w' M' b l2 R v1 v2 F S ∧ CGo w w' M M' ∧ ∀ W : World, Step w' W → Calls Tryz.prog 17 #[.pointer (some ⟨l, 0, none⟩)] W fun e w' => e = .returned (.int .u64 (R.length : Int)) ∧ Step W w' := by
  obtain ⟨⟨D, L, s, rss, h1, rfl⟩, h3⟩ := h
  refine (h1.again (by unfold I64; omega) (by omega)).mono ?_
  rintro e w' ⟨l2, rfl, M', D', L', s', rss', k1, k2, k3, k4⟩
  refine ⟨l2, rfl, M', ⟨⟨D', L', s', rss', k1, k2⟩, h3.go k3⟩, k3, fun W hW => ?_⟩
  have := k4 W hW
  rw [Nat.zero_add] at this
  exact this
end
end Go.Proofs.YthebdlkmoailaaaGreatDoor
