/-
  A map's writes, collected, in plain words; what a request that is right asks; one operation upon an overlay, whichever it is.
-/
import Derived.Test.YthflkfgiclcdiaaZP18
import Derived.Test.YthflkfgiclcdiaaZP17
import Derived.Test.YthflkfgiclcdiaaZP5
set_option linter.unusedVariables false
set_option linter.unusedSimpArgs false
namespace Go.Proofs.Ythflkfgiclcdiaa
open Go.RowKit Go.Gr Go.Sort
set_option linter.unusedSimpArgs false
theorem grp_flatMap {α : Type} {f : α → List Value} {n : Nat} (hf : ∀ x, (f x).length = n) : ∀ (l : List α) (i : Nat) (hi : i < l.length), grp (l.flatMap f) n i = f l[i]
  | [], i, hi => absurd hi (by simp)
  | x :: r, 0, _ => by
    rw [List.flatMap_cons, grp_append_left (k := 1) (by rw [hf]; omega) (by omega), grp_self (hf x)]
    rfl
  | x :: r, i + 1, hi => by
    have h1 : grp (f x ++ r.flatMap f) n (1 + i) = grp (r.flatMap f) n i := grp_append_right (by rw [hf]; omega)
    rw [Nat.add_comm 1 i] at h1
    rw [List.flatMap_cons, h1, grp_flatMap hf r i (by simpa using hi)]
    rfl
theorem perm_of_keys {ws xs : List DWrite} (hw : RisW ws) (hx : ∀ x ∈ xs, x ∈ ws) (hk : (xs.map DWrite.key).Perm (ws.map DWrite.key)) : xs.Perm ws := by
  have hnd : (ws.map DWrite.key).Nodup := by
    rw [List.Nodup, List.pairwise_map]
    exact hw.imp fun h => cmpB_ne h
  have hof : ∀ l : List DWrite, (l.map DWrite.key).Nodup → l.Nodup := fun l h => by
    rw [List.Nodup, List.pairwise_map] at h
    exact h.imp fun {a b} h (e : a = b) => h (e ▸ rfl)
  have hnx : xs.Nodup := hof _ ((hk.nodup_iff).2 hnd)
  have hnw : ws.Nodup := hof _ hnd
  refine (List.perm_ext_iff_of_nodup hnx hnw).2 fun y => ⟨hx y, fun hy => ?_⟩
  have h1 : y.key ∈ xs.map DWrite.key := hk.mem_iff.2 (List.mem_map.2 ⟨y, hy, rfl⟩)
  obtain ⟨z, hz, he⟩ := List.mem_map.1 h1
  rw [Rising.uniq hw hy (hx z hz) he.symm]
  exact hz
theorem collWrites_ {w : World} {M : Nat → Prop} {mb Bm : Nat} {ws : List DWrite} (h : MapR Try.prog 9 DWrite.key wrR w M mb ws) (hBm : Bm < w.heap.size) (hm : w.cell? ⟨Bm, 0, none⟩ = some (.map (some mb))) (hl : ws.length ≤ 1048576) :
    Calls Try.prog 62 #[.func (.func 98) #[] #[.pointer (some ⟨Bm, 0, none⟩)]] w fun e w' => ∃ v xs, e = .returned v ∧ Gr.Own tWrite 74 w' M w.heap.size v xs ∧ xs.Perm ws ∧ Step w w' := by
  obtain ⟨D, hown, hsz, hkeys, _, hat⟩ := h.datum
  refine (wColl_ hBm hm hown (by omega) (fun s v hv => ?_)).mono ?_
  · obtain ⟨x, _, _, cs, rfl, c0, c1, hcs, h0, h1⟩ := hat s v hv
    obtain ⟨a0, n0, rfl, _⟩ := Ty.slice_val h0
    obtain ⟨a1, n1, rfl, _⟩ := Ty.slice_val h1
    refine ⟨((a0, x.key.length, n0), (a1, x.value.length, n1), x.gone), ?_⟩
    rw [show cs = cs.toList.toArray by simp, hcs]
  · rintro e w' ⟨v, ps, rfl, ⟨hp1, hp2⟩, hrow, hB⟩
    have hS : Step w w' := Step.of hB
    have hex : ∀ p : {p // p ∈ ps}, ∃ x, x ∈ ws ∧ x.key = p.1.1 ∧ wrR w M (.agg (wvC p.1.2)) x := fun p => by
      obtain ⟨x, h1, h2, h3⟩ := hat p.1.1 _ (hp2 p.1 p.2)
      exact ⟨x, h1, h2, h3⟩
    let f : {p // p ∈ ps} → DWrite := fun p => Classical.choose (hex p)
    have hf : ∀ p, f p ∈ ws ∧ (f p).key = p.1.1 ∧ wrR w M (.agg (wvC p.1.2)) (f p) := fun p => Classical.choose_spec (hex p)
    have hkk : (ps.attach.map f).map DWrite.key = ps.map (·.1) := by
      rw [List.map_map]
      have : (DWrite.key ∘ f) = fun p : {p // p ∈ ps} => p.1.1 := funext fun p => (hf p).2.1
      rw [this]
      exact List.attach_map_val (l := ps) (f := fun p : List UInt8 × WV => p.1)
    have hln : (ps.attach.map f).length = (ps.map (·.2)).length := by simp
    have hpm : (ps.attach.map f).Perm ws := by
      refine perm_of_keys h.rising (fun x hx => ?_) ?_
      · obtain ⟨p, _, rfl⟩ := List.mem_map.1 hx
        exact (hf p).1
      · rw [hkk]
        have h1 := hkeys _ hp1
        rw [← h1]
        exact (List.mergeSort_perm _ _).symm
    refine ⟨v, ps.attach.map f, rfl, ⟨by have := hpm.length_eq; rw [lim_eq]; omega, _, by rw [hln]; exact hrow, fun i hi => ?_⟩, hpm, hS⟩
    have hi' : i < (ps.map (·.2)).length := by rw [← hln]; exact hi
    have hg := grp_flatMap (f := wvL) (n := 3) (fun x => rfl) (ps.map (·.2)) i hi'
    have hip : i < ps.length := by simpa using hi'
    have h3 := (hf ⟨ps[i], List.getElem_mem hip⟩).2.2
    obtain ⟨cs, hc, hr⟩ := h3
    simp only [Value.agg.injEq] at hc
    subst hc
    rw [show tWrite.n = 3 from rfl, hg]
    have he : (ps.attach.map f)[i] = f ⟨ps[i], List.getElem_mem hip⟩ := by simp
    rw [he]
    have : wvL (ps.map (·.2))[i] = (wvC ps[i].2).toList := by simp
    rw [this]
    refine Ty.keep _ hr fun b h1 h2 => ⟨hS.heap h1, fun h => h.elim h2 fun e => ?_⟩
    have := (own_lt hrow e).1
    omega
/-- What a request that is right asks. -/
theorem check_ok {ops : List DOp} (h : checkB ops = 0) : ops.length ≤ 16 ∧ ∀ o ∈ ops, (1 ≤ o.kind ∧ o.kind ≤ 6) ∧ o.key.length ≤ 64 ∧ (o.kind = 4 → 1 ≤ o.most ∧ o.most ≤ 32) := by
  rw [check_same] at h
  unfold checkRef at h
  by_cases h1 : ops.any badMost = true
  · simp [h1] at h
  by_cases h2 : 16 < ops.length
  · simp [h1, h2] at h
  by_cases h3 : ops.any badSize = true
  · simp [h1, h2, h3] at h
  by_cases h4 : ops.any badKind = true
  · simp [h1, h2, h3, h4] at h
  refine ⟨by omega, fun o ho => ?_⟩
  have g1 : badMost o = false := by
    cases hb : badMost o with
    | false => rfl
    | true => exact absurd (List.any_eq_true.2 ⟨o, ho, hb⟩) h1
  have g3 : badSize o = false := by
    cases hb : badSize o with
    | false => rfl
    | true => exact absurd (List.any_eq_true.2 ⟨o, ho, hb⟩) h3
  have g4 : badKind o = false := by
    cases hb : badKind o with
    | false => rfl
    | true => exact absurd (List.any_eq_true.2 ⟨o, ho, hb⟩) h4
  simp only [badMost, badSize, badKind, decide_eq_false_iff_not] at g1 g3 g4
  omega
/-- How one operation ends. -/
def DoEnd (X : Nat → Prop) (w w' : World) (lb vb mb B : Nat) (vp va' : Value) (P : List DPair) (n : Nat) (e : Ending) : Option (List DPair × List DWrite) → Prop
  | none => e = .returned (.tuple #[.slice none 0 0, .int .i64 12])
  | some y => ∃ v' rs', e = .returned (.tuple #[v', .int .i64 0]) ∧ OvAt X w' lb vb mb B vp va' rs' P y.2 ∧ rs'.length ≤ n + 1 ∧ Gr.Own tPair 95 w' (fun b => b < w.heap.size ∨ ovM X lb mb va' b) w.heap.size v' y.1
theorem ovDo_ {X : Nat → Prop} {w : World} {lb vb mb B : Nat} {vp va kv vv : Value} {rs : List (List Value)} {P : List DPair} {ws : List DWrite} {o : DOp} (h : OvAt X w lb vb mb B vp va rs P ws) (hk : Ty.bytes.rep w (ovM X lb mb va) [kv] o.key) (hv : Ty.bytes.rep w (ovM X lb mb va) [vv] o.value)
    (hkd : 1 ≤ o.kind ∧ o.kind ≤ 6) (hkl : o.key.length ≤ 64) (hmo : o.kind = 4 → 1 ≤ o.most ∧ o.most ≤ 32) (hws : ws.length ≤ 999) (hwk : ∀ x ∈ ws, x.key.length ≤ 1000) (hrs : rs.length ≤ 999) (hP : RisP P) (hPl : P.length ≤ 1000) :
    Calls Try.prog 60 #[.pointer (some ⟨vb, 0, none⟩), .agg #[.int .i64 o.kind, kv, vv, .int .i64 o.most]] w fun e w' => ∃ va', VaNew w va va' ∧ Turn (ovM (fun _ => False) lb mb va) w w' ∧ DoEnd X w w' lb vb mb B vp va' P rs.length e (doB P ws o) := by
  obtain ⟨kd, key, value, mo⟩ := o
  simp only at hk hv hkd hkl hmo ⊢
  have hz1 := CellsAt.lt h.ls
  have hz2 := h.map.lt
  have hless : ∀ {w' : World} {va' v' : Value} {x : List DPair}, Gr.Own tPair 95 w' (fun b => b < w.heap.size ∨ va'.ownBlock = some b) w.heap.size v' x → Gr.Own tPair 95 w' (fun b => b < w.heap.size ∨ ovM X lb mb va' b) w.heap.size v' x := fun h' => h'.less fun b _ hb => by
    rcases hb with hb | hb | rfl | rfl | hb
    · exact .inl hb
    · exact .inl (h.xs b hb)
    · exact .inl hz1
    · exact .inl hz2
    · exact .inr hb
  have hc : kd = 2 ∨ kd = 3 ∨ kd = 4 ∨ (kd = 1 ∨ kd = 5 ∨ kd = 6) := by omega
  rcases hc with rfl | rfl | rfl | hc
  · refine (ovDoPut_ h hk hv hws).mono ?_
    rintro e w' ⟨rfl, h1, h2⟩
    refine ⟨va, .inl rfl, h2.mono fun b _ hb => .inr (.inr (.inl hb)), ?_⟩
    rw [show doB P ws ⟨2, key, value, mo⟩ = some ([], putK DWrite.key ⟨key, value, false⟩ ws) by simp [doB]]
    exact ⟨_, rs, rfl, h1, Nat.le_succ _, Gr.Own.nil⟩
  · refine (ovDoDel_ h hk hv hws).mono ?_
    rintro e w' ⟨rfl, h1, h2⟩
    refine ⟨va, .inl rfl, h2.mono fun b _ hb => .inr (.inr (.inl hb)), ?_⟩
    rw [show doB P ws ⟨3, key, value, mo⟩ = some ([], putK DWrite.key ⟨key, [], true⟩ ws) by simp [doB]]
    exact ⟨_, rs, rfl, h1, Nat.le_succ _, Gr.Own.nil⟩
  · obtain ⟨n, rfl⟩ := Int.eq_ofNat_of_zero_le (show 0 ≤ mo by have := hmo rfl; omega)
    have hm := hmo rfl
    refine (ovDoScan_ h hk hv (by omega) hwk hrs hP hPl (by omega) (by omega)).mono ?_
    rintro e w' ⟨v', va', rfl, ⟨⟨rs', h1, h2⟩, h3, h4⟩, h5⟩
    refine ⟨va', h3, h4.mono fun b _ hb => hb.elim (fun h => .inr (.inl h)) (fun h => .inr (.inr (.inr h))), ?_⟩
    rw [show doB P ws ⟨4, key, value, (n : Int)⟩ = some (scanB (overB P ws) key value n, ws) by simp [doB]]
    exact ⟨_, rs', rfl, h1, h2, hless h5⟩
  · refine (ovDoRead_ (mo := mo) hc h hk hv hkl hws hwk hrs hP hPl).mono ?_
    rintro e w' ⟨va', ⟨⟨rs', h1, h2⟩, h3, h4⟩, h5⟩
    refine ⟨va', h3, h4.mono fun b _ hb => hb.elim (fun h => .inr (.inl h)) (fun h => .inr (.inr (.inr h))), ?_⟩
    cases hd : doB P ws ⟨kd, key, value, mo⟩ with
    | none => rw [hd] at h5; exact h5
    | some y =>
      rw [hd] at h5
      obtain ⟨v', rfl, h6, h7⟩ := h5
      exact ⟨v', rs', rfl, h7 ▸ h1, h2, hless h6⟩
end Go.Proofs.Ythflkfgiclcdiaa
