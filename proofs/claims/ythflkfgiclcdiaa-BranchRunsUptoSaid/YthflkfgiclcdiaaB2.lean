/-
  Pairs by rising keys, with writes laid over them, in plain words: what a range of them has is what a reader's first pairs and the writes make. No program is named here.
-/
import Derived.Test.YthflkfgiclcdiaaB1
namespace Go.Gr
set_option linter.unusedVariables false
set_option linter.unusedSimpArgs false
set_option linter.unnecessarySimpa false
/-- Is a key in a range? -/
def rngB (lo hi k : List UInt8) : Bool := decide (cmpB lo k ≤ 0) && (decide (hi = []) || decide (cmpB k hi < 0))
/-- A write is done. -/
def putW (l : List DPair) (w : DWrite) : List DPair := if w.gone then dropK DPair.key w.key l else putK DPair.key ⟨w.key, w.value⟩ l
/-- Pairs as writes have them. -/
def overB (P : List DPair) (ws : List DWrite) : List DPair := ws.foldl putW P
/-- What a range has, at most so many. -/
def scanB (l : List DPair) (lo hi : List UInt8) (most : Nat) : List DPair := (l.filter fun p => rngB lo hi p.key).take most
/-- What the overlay passes over: what lies behind the last one that was read. -/
def skipB (lst : List DPair) (n : Nat) (k : List UInt8) : Bool := decide (n ≤ lst.length) && (match lst.getLast? with | some p => decide (0 < cmpB k p.key) | none => false)
abbrev RisP (l : List DPair) : Prop := Rising DPair.key l
abbrev RisW (l : List DWrite) : Prop := Rising DWrite.key l
theorem RisP.putW {l : List DPair} (h : RisP l) (w : DWrite) : RisP (putW l w) := by
  unfold Gr.putW
  split
  · exact Rising.drop h
  · exact Rising.put h
theorem RisP.over {l : List DPair} (h : RisP l) (ws : List DWrite) : RisP (overB l ws) := by
  induction ws generalizing l with
  | nil => exact h
  | cons w r ih => exact ih (h.putW w)
theorem getK_putW {l : List DPair} {w : DWrite} {k : List UInt8} : getK DPair.key (putW l w) k = if k = w.key then (if w.gone then none else some ⟨w.key, w.value⟩) else getK DPair.key l k := by
  unfold putW
  split
  · rw [getK_drop]
  · rw [getK_put]
theorem getK_over {P : List DPair} {ws : List DWrite} (h : RisW ws) {k : List UInt8} : getK DPair.key (overB P ws) k = match getK DWrite.key ws k with | none => getK DPair.key P k | some w => if w.gone then none else some ⟨k, w.value⟩ := by
  induction ws generalizing P with
  | nil => rfl
  | cons w r ih =>
    obtain ⟨h1, h2⟩ := List.pairwise_cons.1 h
    show getK DPair.key (overB (putW P w) r) k = _
    rw [ih h2]
    unfold getK
    rw [List.find?_cons]
    by_cases hk : w.key = k
    · have hn : getK DWrite.key r k = none := getK_none.2 fun y hy e => cmpB_ne (h1 y hy) (hk.trans e.symm)
      unfold getK at hn
      rw [hn]
      simp only [hk, decide_true]
      have := getK_putW (l := P) (w := w) (k := k)
      unfold getK at this
      rw [this, if_pos hk.symm, hk]
    · simp only [hk, decide_false]
      cases hg : List.find? (fun p => decide (DWrite.key p = k)) r with
      | none =>
        simp only
        have := getK_putW (l := P) (w := w) (k := k)
        unfold getK at this
        rw [this, if_neg (fun e => hk e.symm)]
      | some y => rfl
theorem overB_keys {l : List DPair} {ws : List DWrite} {p : DPair} (h : p ∈ overB l ws) : (∃ q ∈ l, q.key = p.key) ∨ ∃ w ∈ ws, w.key = p.key := by
  induction ws generalizing l with
  | nil => exact .inl ⟨p, h, rfl⟩
  | cons w r ih =>
    rcases ih (l := putW l w) h with ⟨q, hq, he⟩ | ⟨x, hx, he⟩
    · unfold putW at hq
      split at hq
      · exact .inl ⟨q, (mem_dropK.1 hq).1, he⟩
      · rcases mem_putK.1 hq with rfl | ⟨hq, _⟩
        · exact .inr ⟨w, by simp, he⟩
        · exact .inl ⟨q, hq, he⟩
    · exact .inr ⟨x, by simp [hx], he⟩
theorem dropK_length_ge {l : List DPair} {k : List UInt8} (h : RisP l) : l.length ≤ (dropK DPair.key k l).length + 1 := by
  induction l with
  | nil => simp
  | cons y r ih =>
    obtain ⟨h1, h2⟩ := List.pairwise_cons.1 h
    by_cases hk : y.key = k
    · have : dropK DPair.key k r = r := dropK_none fun z hz e => cmpB_ne (h1 z hz) (hk.trans e.symm)
      unfold dropK at *
      rw [List.filter_cons, if_neg (by simp [hk]), this]
      simp
    · have := ih h2
      unfold dropK at *
      rw [List.filter_cons, if_pos (by simpa using hk)]
      simp only [List.length_cons]
      omega
theorem putW_length_ge {l : List DPair} {w : DWrite} (h : RisP l) : l.length ≤ (putW l w).length + 1 := by
  have := dropK_length_ge (k := w.key) h
  unfold putW
  split
  · exact this
  · rw [putK, insK_length]
    simp only
    omega
theorem overB_length_ge {l : List DPair} (h : RisP l) (ws : List DWrite) : l.length ≤ (overB l ws).length + ws.length := by
  induction ws generalizing l with
  | nil => simp [overB]
  | cons w r ih =>
    have h1 := putW_length_ge (w := w) h
    have h2 := ih (h.putW w)
    show l.length ≤ (overB (putW l w) r).length + (r.length + 1)
    omega
theorem putW_length {l : List DPair} {w : DWrite} : (putW l w).length ≤ l.length + 1 := by
  unfold putW
  split
  · have := dropK_length (key := DPair.key) (k := w.key) (l := l); omega
  · exact putK_length
theorem overB_length {l : List DPair} (ws : List DWrite) : (overB l ws).length ≤ l.length + ws.length := by
  induction ws generalizing l with
  | nil => simp [overB]
  | cons w r ih =>
    have h1 := putW_length (l := l) (w := w)
    have h2 := ih (l := putW l w)
    show (overB (putW l w) r).length ≤ l.length + (r.length + 1)
    omega
theorem getK_filterK {α : Type} {key : α → List UInt8} {f : List UInt8 → Bool} {l : List α} {k : List UInt8} : getK key (l.filter fun p => f (key p)) k = if f k then getK key l k else none := by
  induction l with
  | nil => simp [getK]
  | cons y r ih =>
    unfold getK at *
    rw [List.filter_cons]
    by_cases hy : key y = k
    · subst hy
      by_cases hf : f (key y) = true
      · simp [hf]
      · rw [if_neg hf, ih, if_neg hf, if_neg hf]
    · by_cases hf : f (key y) = true
      · simp only [hf, if_true, List.find?_cons, hy, decide_false, ih]
      · simp only [hf, Bool.false_eq_true, if_false, List.find?_cons, hy, decide_false, ih]
theorem get_prefix {a t : List DPair} {p : DPair} (h : RisP (a ++ t)) (hp : a.getLast? = some p) {k : List UInt8} (hk : cmpB k p.key ≤ 0) : getK DPair.key a k = getK DPair.key (a ++ t) k := by
  obtain ⟨ys, rfl⟩ := List.getLast?_eq_some_iff.1 hp
  obtain ⟨_, _, h3⟩ := List.pairwise_append.1 h
  have hn : getK DPair.key t k = none := getK_none.2 fun x hx e => by
    have h4 := cmpB_le_lt hk (h3 p (by simp) x hx)
    rw [e] at h4
    exact cmpB_irr _ h4
  unfold getK at *
  rw [List.find?_append (xs := ys ++ [p]), hn]
  simp
theorem get_beyond {a : List DPair} {p : DPair} (h : RisP a) (hp : a.getLast? = some p) {k : List UInt8} (hk : 0 < cmpB k p.key) : getK DPair.key a k = none := by
  obtain ⟨ys, rfl⟩ := List.getLast?_eq_some_iff.1 hp
  obtain ⟨_, _, h3⟩ := List.pairwise_append.1 h
  refine getK_none.2 fun x hx e => ?_
  have h4 := cmpB_neg.1 hk
  rcases List.mem_append.1 hx with hx | hx
  · have h5 := h3 x hx p (by simp)
    rw [e] at h5
    exact cmpB_asymm h4 h5
  · obtain rfl : x = p := by simpa using hx
    rw [e] at h4
    exact cmpB_irr _ h4
theorem filter_prefix {f : List UInt8 → Bool} {l : List DPair} (h : RisP l) (hf : ∀ a b, cmpB a b < 0 → f b = true → f a = true) : ∃ t, l = (l.filter fun p => f p.key) ++ t := by
  induction l with
  | nil => exact ⟨[], rfl⟩
  | cons y r ih =>
    obtain ⟨h1, h2⟩ := List.pairwise_cons.1 h
    by_cases hy : f y.key = true
    · obtain ⟨t, ht⟩ := ih h2
      refine ⟨t, ?_⟩
      rw [List.filter_cons, if_pos hy, List.cons_append, ← ht]
    · refine ⟨y :: r, ?_⟩
      rw [List.filter_cons, if_neg hy, List.filter_eq_nil_iff.2 fun z hz hz' => hy (hf _ _ (h1 z hz) hz')]
      rfl
/-- What the overlay makes of what it reads. -/
def layB (lst : List DPair) (ws : List DWrite) (lo hi : List UInt8) (n : Nat) : List DPair := overB lst (ws.filter fun w => rngB lo hi w.key && !skipB lst n w.key)
theorem scan_law {P : List DPair} {ws : List DWrite} (hP : RisP P) (hw : RisW ws) {lo hi : List UInt8} {most : Nat} :
    (layB (scanB P lo hi (most + ws.length)) ws lo hi (most + ws.length)).take most = scanB (overB P ws) lo hi most := by
  obtain ⟨F, hF⟩ : ∃ F, F = P.filter fun p => rngB lo hi p.key := ⟨_, rfl⟩
  obtain ⟨G, hG⟩ : ∃ G, G = (overB P ws).filter fun p => rngB lo hi p.key := ⟨_, rfl⟩
  have hFr : RisP F := hF ▸ Rising.filter hP
  have hGr : RisP G := hG ▸ Rising.filter (hP.over ws)
  have hgF : ∀ k, getK DPair.key F k = if rngB lo hi k then getK DPair.key P k else none := fun k => by rw [hF]; exact getK_filterK
  have hgG : ∀ k, getK DPair.key G k = if rngB lo hi k then getK DPair.key (overB P ws) k else none := fun k => by rw [hG]; exact getK_filterK
  unfold scanB
  rw [← hF, ← hG]
  obtain ⟨n, hn⟩ : ∃ n, n = most + ws.length := ⟨_, rfl⟩
  rw [← hn]
  unfold layB
  have hlr : RisP (F.take n) := List.Pairwise.sublist (List.take_sublist _ _) hFr
  have hwr : ∀ f : DWrite → Bool, RisW (ws.filter f) := fun f => Rising.filter hw
  have hgL : ∀ k, getK DPair.key (overB (F.take n) (ws.filter fun w => rngB lo hi w.key && !skipB (F.take n) n w.key)) k =
      if rngB lo hi k && !skipB (F.take n) n k then (match getK DWrite.key ws k with | none => getK DPair.key (F.take n) k | some w => if w.gone then none else some ⟨k, w.value⟩) else getK DPair.key (F.take n) k := fun k => by
    rw [getK_over (hwr _), getK_filterK (f := fun k => rngB lo hi k && !skipB (F.take n) n k)]
    by_cases h : (rngB lo hi k && !skipB (F.take n) n k) = true
    · rw [if_pos h, if_pos h]
    · rw [if_neg h, if_neg h]
  by_cases hcut : n ≤ F.length
  · rcases Nat.eq_zero_or_pos n with h0 | hpos
    · have hm : most = 0 := by omega
      simp [hm]
    have hll : (F.take n).length = n := by rw [List.length_take]; omega
    obtain ⟨p, hp⟩ : ∃ p, (F.take n).getLast? = some p := by
      cases hq : (F.take n).getLast? with
      | none => rw [List.getLast?_eq_none_iff] at hq; rw [hq] at hll; simp at hll; omega
      | some p => exact ⟨p, rfl⟩
    have hsk : ∀ k, skipB (F.take n) n k = decide (0 < cmpB k p.key) := fun k => by
      unfold skipB
      rw [hll, hp]
      simp
    have hFt : F = F.take n ++ F.drop n := (List.take_append_drop n F).symm
    have hL : overB (F.take n) (ws.filter fun w => rngB lo hi w.key && !skipB (F.take n) n w.key) = G.filter fun q => decide (cmpB q.key p.key ≤ 0) := by
      refine Rising.ext_get (hlr.over _) (Rising.filter hGr) fun k => ?_
      rw [hgL, getK_filterK (key := DPair.key) (f := fun k => decide (cmpB k p.key ≤ 0)), hgG, getK_over hw, hsk]
      by_cases hk : cmpB k p.key ≤ 0
      · have hF2 : getK DPair.key (F.take n) k = getK DPair.key F k := by
          rw [get_prefix (by rw [← hFt]; exact hFr) hp hk, ← hFt]
        rw [hF2, hgF]
        have h1 : decide (0 < cmpB k p.key) = false := decide_eq_false (by omega)
        rw [h1, if_pos (decide_eq_true hk)]
        cases rngB lo hi k <;> simp
      · have hF2 : getK DPair.key (F.take n) k = none := get_beyond hlr hp (by omega)
        have h1 : decide (0 < cmpB k p.key) = true := decide_eq_true (by omega)
        rw [hF2, h1]
        simp [hk]
    rw [hL]
    obtain ⟨t, ht⟩ := filter_prefix (f := fun k => decide (cmpB k p.key ≤ 0)) hGr (fun a b hab hb => by
      have := cmpB_lt_le hab (of_decide_eq_true hb)
      exact decide_eq_true (by omega))
    have hlen : most ≤ (G.filter fun q => decide (cmpB q.key p.key ≤ 0)).length := by
      rw [← hL]
      have h1 := overB_length_ge hlr (ws.filter fun w => rngB lo hi w.key && !skipB (F.take n) n w.key)
      have h2 := List.length_filter_le (fun w : DWrite => rngB lo hi w.key && !skipB (F.take n) n w.key) ws
      omega
    have h3 := congrArg (List.take most) ht
    rw [List.take_append_of_le_length hlen] at h3
    exact h3.symm
  · have hF2 : F.take n = F := List.take_of_length_le (by omega)
    have hsk : ∀ k, skipB (F.take n) n k = false := fun k => by
      unfold skipB
      rw [hF2, decide_eq_false hcut]
      rfl
    have hL : overB (F.take n) (ws.filter fun w => rngB lo hi w.key && !skipB (F.take n) n w.key) = G := by
      refine Rising.ext_get (hlr.over _) hGr fun k => ?_
      rw [hgL, hgG, getK_over hw, hsk, hF2, hgF]
      cases rngB lo hi k <;> simp
    rw [hL]
theorem over_step {lst : List DPair} {ws : List DWrite} (hl : RisP lst) (hw : RisW ws) {f f' : List UInt8 → Bool} {x : DWrite} (hx : x ∈ ws) (hf : ∀ k, k ≠ x.key → f' k = f k) (h0 : f x.key = false) (h1 : f' x.key = true) :
    overB lst (ws.filter fun w => f' w.key) = putW (overB lst (ws.filter fun w => f w.key)) x := by
  have hr : ∀ g : List UInt8 → Bool, RisW (ws.filter fun w => g w.key) := fun g => Rising.filter hw
  refine Rising.ext_get (hl.over _) ((hl.over _).putW x) fun k => ?_
  rw [getK_over (hr f'), getK_putW, getK_over (hr f), getK_filterK (key := DWrite.key) (f := f'), getK_filterK (key := DWrite.key) (f := f)]
  by_cases hk : k = x.key
  · subst hk
    rw [if_pos h1, if_pos rfl, (getK_iff hw).2 ⟨hx, rfl⟩]
  · rw [if_neg hk, hf k hk]
/-- What the overlay's loop has made, some of the writes being still to come. -/
def partB (lst : List DPair) (ws : List DWrite) (c left : List UInt8 → Bool) : List DPair := overB lst (ws.filter fun w => c w.key && !left w.key)
theorem partB_start {lst : List DPair} {ws : List DWrite} {c left : List UInt8 → Bool} (h : ∀ w ∈ ws, left w.key = true) : partB lst ws c left = lst := by
  unfold partB
  rw [List.filter_eq_nil_iff.2 fun w hw => by simp [h w hw]]
  rfl
theorem partB_end {lst : List DPair} {ws : List DWrite} {c left : List UInt8 → Bool} (h : ∀ k, left k = false) : partB lst ws c left = overB lst (ws.filter fun w => c w.key) := by
  unfold partB
  simp [h]
theorem partB_do {lst : List DPair} {ws : List DWrite} {c left left' : List UInt8 → Bool} (hl : RisP lst) (hw : RisW ws) {x : DWrite} (hx : x ∈ ws) (h0 : left x.key = true) (hl' : ∀ k, left' k = (left k && decide (k ≠ x.key))) (hc : c x.key = true) :
    partB lst ws c left' = putW (partB lst ws c left) x :=
  over_step hl hw (f := fun k => c k && !left k) (f' := fun k => c k && !left' k) hx (fun k hk => by simp [hl', hk]) (by simp [h0]) (by simp [hl', hc])
theorem partB_skip {lst : List DPair} {ws : List DWrite} {c left left' : List UInt8 → Bool} {x : DWrite} (hl' : ∀ k, left' k = (left k && decide (k ≠ x.key))) (hc : c x.key = false) :
    partB lst ws c left' = partB lst ws c left := by
  unfold partB
  congr 1
  refine List.filter_congr fun w _ => ?_
  by_cases hk : w.key = x.key
  · simp [hk, hc]
  · simp [hl', hk]
theorem RisP.part {lst : List DPair} (h : RisP lst) {ws : List DWrite} {c left : List UInt8 → Bool} : RisP (partB lst ws c left) := h.over _
/-- A range that is none. -/
theorem rngB_none {lo hi : List UInt8} (h1 : hi ≠ []) (h2 : 0 ≤ cmpB lo hi) (k : List UInt8) : rngB lo hi k = false := by
  unfold rngB
  rw [Bool.and_eq_false_iff]
  by_cases h3 : cmpB lo k ≤ 0
  · right
    rw [Bool.or_eq_false_iff]
    refine ⟨decide_eq_false h1, decide_eq_false fun h4 => ?_⟩
    have := cmpB_le_lt h3 h4
    omega
  · exact .inl (decide_eq_false h3)
theorem scanB_none {l : List DPair} {lo hi : List UInt8} {n : Nat} (h1 : hi ≠ []) (h2 : 0 ≤ cmpB lo hi) : scanB l lo hi n = [] := by
  unfold scanB
  rw [List.filter_eq_nil_iff.2 fun p _ => by rw [rngB_none h1 h2]; simp]
  simp
/-- The least key above one: nothing lies between. -/
theorem cmpB_after : ∀ k x : List UInt8, cmpB k x ≤ 0 → cmpB x (k ++ [0]) < 0 → x = k
  | [], [], _, _ => rfl
  | [], y :: ys, _, h => by
    simp only [List.nil_append] at h
    unfold cmpB at h
    by_cases h1 : y < 0
    · exact absurd h1 (by simp [UInt8.not_lt])
    · rw [if_neg h1] at h
      by_cases h2 : (0 : UInt8) < y
      · rw [if_pos h2] at h; simp at h
      · rw [if_neg h2] at h
        cases ys <;> simp [cmpB] at h
  | _ :: _, [], h, _ => by simp [cmpB] at h
  | a :: r, y :: ys, h1, h2 => by
    rw [List.cons_append] at h2
    unfold cmpB at h1 h2
    by_cases hay : a < y
    · have hya : ¬ y < a := UInt8.lt_asymm hay
      rw [if_neg hya, if_pos hay] at h2
      simp at h2
    · by_cases hya : y < a
      · rw [if_neg hay, if_pos hya] at h1
        simp at h1
      · rw [if_neg hay, if_neg hya] at h1
        rw [if_neg hya, if_neg hay] at h2
        have : a = y := UInt8.le_antisymm (UInt8.not_lt.1 hya) (UInt8.not_lt.1 hay)
        rw [cmpB_after r ys h1 h2, this]
theorem cmpB_after_lt : ∀ k : List UInt8, cmpB k (k ++ [0]) < 0
  | [] => by decide
  | a :: r => by
    rw [List.cons_append]
    unfold cmpB
    rw [if_neg (UInt8.lt_irrefl a), if_neg (UInt8.lt_irrefl a)]
    exact cmpB_after_lt r
theorem rngB_one (k x : List UInt8) : rngB k (k ++ [0]) x = decide (x = k) := by
  unfold rngB
  by_cases h : x = k
  · subst h
    simp [cmpB_self, cmpB_after_lt]
  · rw [decide_eq_false h, Bool.and_eq_false_iff]
    by_cases h1 : cmpB k x ≤ 0
    · right
      rw [Bool.or_eq_false_iff]
      exact ⟨by simp, decide_eq_false fun h2 => h (cmpB_after k x h1 h2)⟩
    · exact .inl (decide_eq_false h1)
theorem filter_one {l : List DPair} (h : RisP l) (k : List UInt8) : (l.filter fun p => decide (p.key = k)) = (getK DPair.key l k).toList := by
  induction l with
  | nil => rfl
  | cons y r ih =>
    obtain ⟨h1, h2⟩ := List.pairwise_cons.1 h
    unfold getK at *
    rw [List.filter_cons, List.find?_cons]
    by_cases hy : y.key = k
    · rw [if_pos (by simpa using hy)]
      have : (r.filter fun p => decide (p.key = k)) = [] := List.filter_eq_nil_iff.2 fun z hz hz' => cmpB_ne (h1 z hz) (hy.trans (of_decide_eq_true hz').symm)
      rw [this]
      simp [hy]
    · rw [if_neg (by simpa using hy), ih h2]
      simp [hy]
theorem scanB_one {l : List DPair} (h : RisP l) (k : List UInt8) : scanB l k (k ++ [0]) 1 = (getK DPair.key l k).toList := by
  unfold scanB
  have : (fun p : DPair => rngB k (k ++ [0]) p.key) = fun p => decide (p.key = k) := by funext p; exact rngB_one _ _
  rw [this, filter_one h]
  cases getK DPair.key l k <;> rfl
theorem overB_put {P : List DPair} {ws : List DWrite} (hP : RisP P) (hw : RisW ws) (x : DWrite) : overB P (putK DWrite.key x ws) = putW (overB P ws) x := by
  refine Rising.ext_get (hP.over _) ((hP.over _).putW x) fun k => ?_
  rw [getK_over hw.put, getK_putW, getK_over hw, getK_put]
  by_cases hk : k = x.key
  · subst hk; simp
  · rw [if_neg hk, if_neg hk]
end Go.Gr
