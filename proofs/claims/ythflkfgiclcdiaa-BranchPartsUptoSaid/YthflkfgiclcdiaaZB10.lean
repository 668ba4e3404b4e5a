/-
  Walk: sorted (writes by rising keys).
-/
import Derived.Test.YthflkfgiclcdiaaZB3
import Derived.Test.YthflkfgiclcdiaaZRow
import Derived.Test.YthflkfgiclcdiaaZSortF
import Derived.Test.YthflkfgiclcdiaaZP4
import Derived.Test.YthflkfgiclcdiaaZP3
set_option linter.unusedVariables false
set_option linter.unusedSimpArgs false
namespace Go.Proofs.Ythflkfgiclcdiaa
open Go.RowKit Go.Gr Go.Sort Go.Shelf
set_option linter.unusedSimpArgs false
set_option maxRecDepth 100000 in
theorem sorted1_ {W : World} {M : Nat → Prop} {x y : DWrite} {cs ds : List Value} (hx : tWrite.rep W M cs x) (hy : tWrite.rep W M ds y) :
    Calls Try.prog 96 #[.agg cs.toArray, .agg ds.toArray] W fun e w' => e = .returned (.int .i64 (cmpB x.key y.key)) ∧ ∃ q os', w' = grow (W.drewN q) os' := by
  obtain ⟨c0, c1, rfl, h0, h1⟩ := hx
  obtain ⟨d0, d1, rfl, k0, k1⟩ := hy
  obtain ⟨a0, n0, rfl, _⟩ := Ty.slice_val h0
  obtain ⟨a1, n1, rfl, _⟩ := Ty.slice_val h1
  obtain ⟨a2, n2, rfl, _⟩ := Ty.slice_val k0
  obtain ⟨a3, n3, rfl, _⟩ := Ty.slice_val k1
  have H := Lib.hid h0
  have K := Lib.hid k0
  clear h0 h1 k0 k1
  go_enter Try.func96, Try.ntmps96
  go_wp2_with (go_at_call 75; refine (Compare_ (Ty.step _ H.out (by (repeat (first | exact Step.refl _ | refine Step.alloc ?_ _ | refine Step.drew ?_ | refine Step.drewN ?_ _ | refine Step.setCell ?_ (by first | exact Nat.le_refl _ | assumption | omega | (simp; done) | (simp; omega)) _ | assumption | refine Step.trans ?_ (by assumption : Step _ _))))) (Ty.step _ K.out (by (repeat (first | exact Step.refl _ | refine Step.alloc ?_ _ | refine Step.drew ?_ | refine Step.drewN ?_ _ | refine Step.setCell ?_ (by first | exact Nat.le_refl _ | assumption | omega | (simp; done) | (simp; omega)) _ | assumption | refine Step.trans ?_ (by assumption : Step _ _)))))).mono ?_; rintro e w' ⟨rfl, rfl⟩)
  go_ret
  exact ⟨rfl, 0, _, by rw [alloc_eq_grow, alloc_eq_grow, grow_grow]; rfl⟩
theorem swoK {α : Type} (f : α → List UInt8) : SWO (ltOf fun x y : α => cmpB (f x) (f y)) where
  irrefl x := by simp [ltOf, cmpB_self]
  trans x y z h1 h2 := by
    simp only [ltOf, decide_eq_true_eq] at *
    exact cmpB_trans h1 h2
  ntrans x y z h1 h2 := by
    simp only [ltOf, decide_eq_false_iff_not] at *
    intro h3
    have a1 : cmpB (f y) (f x) ≤ 0 := by rw [cmpB_swap]; omega
    have a2 : cmpB (f z) (f y) ≤ 0 := by rw [cmpB_swap]; omega
    have a3 := cmpB_le_trans a2 a1
    rw [cmpB_swap] at a3
    omega
section
variable {α : Type} [Inhabited α]
theorem heap_sortK {enc : α → List Value} {k : Nat} {w : World} {g n : Nat} {os : Array Obj} {d : Array α} {cur : Array Value} {e : TypeId} (hb : w.heap[g]? = some (.cells cur e (0, 0))) : (sortWorldK enc k w g 0 n d os).heap[g]? = some (.cells (putCells id 0 (flatK enc k d) cur) e (0, 0)) := by
  have hlt := (Array.getElem?_eq_some_iff.1 hb).1
  unfold sortWorldK
  rw [heap_grow_old _ _ (by simp [putRowK, putRow, mapBlock, Sort.ahead]; exact hlt)]
  simp [putRowK, putRow, mapBlock, Sort.ahead, Array.getElem?_modify, hb, onCells]
theorem turn_sortK {enc : α → List Value} {k : Nat} {w : World} {g n : Nat} {os : Array Obj} {d : Array α} : Turn (· = g) w (sortWorldK enc k w g 0 n d os) := by
  refine ⟨rfl, rfl, rfl, size_sortWorldK_c enc k w g 0 n d os, fun b hb hne => ?_⟩
  unfold sortWorldK
  rw [heap_grow_old _ _ (by simp [putRowK, putRow, mapBlock, Sort.ahead]; exact hb)]
  have : g ≠ b := fun e => hne e.symm
  simp [putRowK, putRow, mapBlock, Sort.ahead, Array.getElem?_modify, this]
end
theorem take_putK (cur F : Array Value) (n : Nat) (hF : F.size = n) (h : n ≤ cur.size) : (putCells id 0 F cur).toList.take n = F.toList := by
  apply List.ext_getElem?
  intro j
  by_cases hj : j < n
  · rw [List.getElem?_take_of_lt hj, Array.getElem?_toList]
    simp [putCells, hF, hj, show j < cur.size by omega]
  · rw [List.getElem?_take_eq_none (by omega), List.getElem?_eq_none (by simp; omega)]
theorem grp_flatK {α : Type} [Inhabited α] {enc : α → List Value} {d : Array α} (hk : ∀ x, (enc x).length = 3) {i : Nat} (hi : i < d.size) : grp (flatK enc 3 d).toList 3 i = enc d[i] := by
  apply List.ext_getElem?
  intro j
  unfold grp
  rw [List.getElem?_take]
  by_cases hj : j < 3
  · rw [if_pos hj, List.getElem?_drop]
    have hlt : i * 3 + j < d.size * 3 := by omega
    have h1 := get_flatK enc 3 d (i * 3 + j) hlt
    rw [show (i * 3 + j) / 3 = i by omega, show (i * 3 + j) % 3 = j by omega, getElem!_pos d i hi] at h1
    rw [Array.getElem?_toList, Array.getElem?_eq_getElem (by rw [size_flatK]; exact hlt), List.getElem?_eq_getElem (by rw [hk]; exact hj)]
    rw [getElem!_pos (flatK enc 3 d) (i * 3 + j) (by rw [size_flatK]; exact hlt), getElem!_pos (enc d[i]) j (by rw [hk]; exact hj)] at h1
    rw [h1]
  · rw [if_neg hj, List.getElem?_eq_none (by rw [hk]; omega)]
theorem sorted_fin {w : World} {M : Nat → Prop} {B g cap n : Nat} {xs : List DWrite} {good : List Value × DWrite → Prop} [Inhabited {p : List Value × DWrite // good p}] {d : List {p : List Value × DWrite // good p}} {d' : Array {p : List Value × DWrite // good p}} {enc : {p : List Value × DWrite // good p} → List Value} {cur : Array Value} {os : Array Obj}
    (hk : ∀ x, (enc x).length = 3) (hrep : ∀ x, tWrite.rep w (fun b => M b ∨ b = g) (enc x) x.1.2) (hdx : d.map (fun p => p.1.2) = xs) (hsz : d.toArray.size = xs.length) (hg : w.heap[g]? = some (.cells cur 74 (0, 0))) (hl : xs.length ≤ lim) (hd : xs.Pairwise fun p q => p.key ≠ q.key)
    (hb : B ≤ g) (hcs : cur.size = cap * tWrite.n) (hnc : xs.length ≤ cap) (hcm : cap ≤ maxLen) (hp : PermIn 0 xs.length d.toArray d') (hs : SortedIn (ltOf fun x y : {p : List Value × DWrite // good p} => cmpB x.1.2.key y.1.2.key) 0 xs.length d') :
    ∃ ys, Own tWrite 74 (sortWorldK enc 3 w g 0 n d' os) M B (.slice (some ⟨g, 0, none⟩) xs.length cap) ys ∧ ys.Perm xs ∧ RisW ys ∧ Turn (fun b => (Value.slice (some ⟨g, 0, none⟩) xs.length cap).ownBlock = some b) w (sortWorldK enc 3 w g 0 n d' os) := by
  have hsz' : d'.size = xs.length := hp.1.trans hsz
  have hperm : d'.toList.Perm d := by
    have h1 := hp.2.2
    rw [show d'.extract 0 xs.length = d' by rw [← hsz']; exact Array.extract_size, show d.toArray.extract 0 xs.length = d.toArray by rw [← hsz]; exact Array.extract_size] at h1
    exact h1
  have hys : (d'.toList.map fun p => p.1.2).Perm xs := hdx ▸ hperm.map _
  have hyl : (d'.toList.map fun p => p.1.2).length = xs.length := by simpa using hsz'
  have hcl : (flatK enc 3 d').toList.length = xs.length * 3 := by simp [hsz']
  have hT := turn_sortK (enc := enc) (k := 3) (w := w) (g := g) (n := n) (os := os) (d := d')
  refine ⟨d'.toList.map fun p => p.1.2, ⟨by omega, (flatK enc 3 d').toList, ⟨by rw [hyl]; exact hcl, .inr ⟨g, cap, _, by rw [hyl], hb, heap_sortK hg, by omega, hcm, by simp [putCells]; exact hcs, ?_⟩⟩, fun i hi => ?_⟩, hys, ?_, hT.mono fun b _ h => by rw [h]; rfl⟩
  · rw [hyl]
    exact take_putK cur _ _ (by rw [size_flatK, hsz']; rfl) (by rw [hcs]; exact Nat.mul_le_mul_right _ hnc)
  · have hi' : i < d'.size := by omega
    show tWrite.rep _ _ (grp (flatK enc 3 d').toList 3 i) _
    rw [grp_flatK hk hi']
    have := hrep d'[i]
    rw [List.getElem_map, Array.getElem_toList]
    exact tWrite.keep this fun b hb hm => ⟨hT.block b hb fun e => hm (.inr e), fun h => hm (h.imp id fun h => by simpa [Value.ownBlock] using h.symm)⟩
  · have hdist := (hys.pairwise_iff (fun {p q} (h : p.key ≠ q.key) => h.symm)).2 hd
    unfold RisW Rising
    rw [List.pairwise_iff_getElem] at hdist ⊢
    intro i j hi hj hij
    have h1 := hdist i j hi hj hij
    have hi2 : i < d'.size := by simpa using hi
    have hj2 : j < d'.size := by simpa using hj
    have h2 := hs i j (Nat.zero_le _) hij (by omega)
    rw [getElem!_pos d' i hi2, getElem!_pos d' j hj2] at h2
    simp only [ltOf, decide_eq_false_iff_not] at h2
    simp only [List.getElem_map, Array.getElem_toList] at h1 ⊢
    rcases cmpB_cases d'[i].1.2.key d'[j].1.2.key with h3 | h3 | h3
    · exact h3
    · exact absurd h3 h1
    · exact absurd h3 h2
set_option maxRecDepth 100000 in
set_option maxHeartbeats 2000000 in
theorem sorted_own {w : World} {M : Nat → Prop} {B : Nat} {v : Value} {xs : List DWrite} (h : Own tWrite 74 w M B v xs) (hd : xs.Pairwise fun p q => p.key ≠ q.key) :
    Calls Try.prog 61 #[v] w fun e w' => e = .returned v ∧ ∃ ys, Own tWrite 74 w' M B v ys ∧ ys.Perm xs ∧ RisW ys ∧ Turn (fun b => v.ownBlock = some b) w w' := by
  rcases xs with _ | ⟨x0, xr⟩
  · obtain ⟨a, c, rfl⟩ := h.val
    simp only [List.length_nil] at h ⊢
    have HA := Lib.hid h
    clear h
    have hS := fun W => AnyF.slices_SortFunc_none (P := Try.prog) (ρ := Try.sortF_ren) { Try.sortF with } a c (.func (.func 96) #[] #[]) W
    go_enter Try.func61, Try.ntmps61
    go_wp2_with (go_at_call 95; refine (show Calls Try.prog 95 _ _ _ from hS _).mono ?_; rintro e w1 ⟨rfl, rfl⟩)
    go_ret
    exact ⟨rfl, [], HA.out, List.Perm.refl _, List.Pairwise.nil, Turn.refl _ _⟩
  · obtain ⟨hl, cells, ho, hr⟩ := h
    obtain ⟨xs, hxs⟩ : ∃ xs, xs = x0 :: xr := ⟨_, rfl⟩
    rw [← hxs] at hl ho hr hd ⊢
    have hpos : 0 < xs.length := by rw [hxs]; simp
    clear hxs
    rcases ho.2 with ⟨_, h0⟩ | ⟨g, cap, cur, rfl, hb, hg, hnc, hcm, hcs, htake⟩
    · omega
    have hgl := (Array.getElem?_eq_some_iff.1 hg).1
    have hg3 : ∀ i (hi : i < xs.length), (grp cells 3 i).length = 3 := fun i hi => tWrite.len (hr i hi)
    obtain ⟨good, hgood⟩ : ∃ good : List Value × DWrite → Prop, good = fun p => p.1.length = 3 ∧ tWrite.rep w (fun b => M b ∨ b = g) p.1 p.2 := ⟨_, rfl⟩
    have hrg : ∀ i (hi : i < xs.length), good (grp cells 3 i, xs[i]) := fun i hi => by
      rw [hgood]
      exact ⟨hg3 i hi, tWrite.less (hr i hi) (fun b _ h => h.imp id (fun e => by rw [e]; rfl))⟩
    have hgd : ∀ p, good p → p.1.length = 3 ∧ tWrite.rep w (fun b => M b ∨ b = g) p.1 p.2 := fun p h => by rw [hgood] at h; exact h
    clear hgood
    have hinh : Inhabited {p : List Value × DWrite // good p} := ⟨⟨_, hrg 0 hpos⟩⟩
    obtain ⟨d, hdd⟩ : ∃ d : List {p : List Value × DWrite // good p}, d = List.ofFn (fun i : Fin xs.length => (⟨(grp cells 3 i.1, xs[i.1]), hrg i.1 i.2⟩ : {p : List Value × DWrite // good p})) := ⟨_, rfl⟩
    have hdl : d.length = xs.length := by rw [hdd]; simp
    have hdi : ∀ i (hi : i < xs.length), d[i]'(by omega) = ⟨(grp cells 3 i, xs[i]), hrg i hi⟩ := fun i hi => by simp only [hdd, List.getElem_ofFn]
    have hdx : d.map (fun p => p.1.2) = xs := List.ext_getElem (by simp [hdl]) fun i h1 h2 => by rw [List.getElem_map, hdi i h2]
    obtain ⟨enc, henc⟩ : ∃ enc : {p : List Value × DWrite // good p} → List Value, enc = fun p => p.1.1 := ⟨_, rfl⟩
    have hk : ∀ x, (enc x).length = 3 := fun x => by rw [henc]; exact (hgd _ x.2).1
    have hrep : ∀ x : {p : List Value × DWrite // good p}, tWrite.rep w (fun b => M b ∨ b = g) (enc x) x.1.2 := fun x => by rw [henc]; exact (hgd _ x.2).2
    have h1c : ∀ x, ∀ u ∈ enc x, u.oneCell' = true := fun x u hu => tWrite.one (hrep x) u hu
    have hlen : cells.length = xs.length * 3 := ho.1
    have hencd : ∀ i (hi : i < xs.length), enc (d[i]'(by omega)) = grp cells 3 i := fun i hi => by rw [henc, hdi i hi]
    have hH : HoldsK enc 3 w g 0 d.toArray := by
      intro j hj
      rw [size_flatK] at hj
      have hj' : j < xs.length * 3 := by simpa [hdl] using hj
      have h3 : j / 3 < xs.length := by omega
      refine ⟨?_, frozen_of_row w g _ cur _ hg⟩
      rw [cell_of_row w g _ cur _ (0, 0) hg, get_flatK enc 3 d.toArray j hj]
      have e1 : d.toArray[j / 3]! = d[j / 3]'(by omega) := by
        rw [getElem!_pos d.toArray (j / 3) (by simpa [hdl] using h3)]
        rfl
      rw [e1, hencd (j / 3) h3]
      have e2 : (grp cells 3 (j / 3))[j % 3]? = cells[j]? := by
        unfold grp
        rw [List.getElem?_take, if_pos (Nat.mod_lt _ (by omega)), List.getElem?_drop]
        congr 1
        omega
      have e3 : cells[j]? = cur[0 + j]? := by
        rw [← htake, List.getElem?_take, if_pos (show j < xs.length * tWrite.n from hj')]
        simp
      have e4 : (grp cells 3 (j / 3))[j % 3]! = cells[j]'(by omega) := by
        rw [List.getElem!_eq_getElem?_getD, e2, List.getElem?_eq_getElem (by omega)]
        rfl
      rw [← e3, List.getElem?_eq_getElem (by omega)]
      show some _ = some (id _)
      rw [id, e4]
    have hcmp : CmpLays Try.prog 96 #[] enc 3 (fun x y => cmpB x.1.2.key y.1.2.key) g 0 d.toArray.size w := fun m os dk _ x y => by
      have hT := turn_sortK (enc := enc) (k := 3) (w := w) (g := g) (n := m) (os := os) (d := dk)
      exact sorted1_ (tWrite.kept (hrep x) (hT.kept.mono fun b hb => .inr hb)) (tWrite.kept (hrep y) (hT.kept.mono fun b hb => .inr hb))
    have hcon := AnyQ.slices_SortFunc (P := Try.prog) (ρ := Try.sortF_ren) { Try.sortF with } 3 Try.isAgg74 Try.sizeOf74 enc hk h1c (fun x y => cmpB x.1.2.key y.1.2.key) (swoK _) 96 #[] g 0 cap d.toArray w (enters_of Try.func96 (by kernel_rfl) rfl) hcmp hH hgl (by simp [hdl]; rw [lim_eq] at hl; omega)
    have hsz : d.toArray.size = xs.length := by simp [hdl]
    rw [hsz] at hcon
    have HCON := Lib.hid (show Calls Try.prog 95 #[.slice (some ⟨g, 0, none⟩) xs.length cap, .func (.func 96) #[] #[]] w _ from hcon)
    have hcm := Lib.hid hcm
    have HALL := Lib.hid (And.intro hH (And.intro hk (And.intro hrep (And.intro hdx (And.intro hsz (And.intro hg (And.intro htake (And.intro hl (And.intro ho (And.intro hd (And.intro hb (And.intro hcs hnc))))))))))))
    clear hcon hH hcmp hk hrep h1c hencd hdi hdx hdd hrg hr hg3 htake ho hlen hg hd hsz hl hb hcs hnc henc hgd
    go_enter Try.func61, Try.ntmps61
    go_wp2_with (go_at_call 95; refine HCON.out.mono ?_; rintro e w1 ⟨rfl, d', n, os, hp, hs, rfl⟩)
    go_ret
    refine ⟨rfl, ?_⟩
    obtain ⟨hH, hk, hrep, hdx, hsz, hg, htake, hl, ho, hd, hb, hcs, hnc⟩ := HALL.out
    exact sorted_fin hk hrep hdx hsz hg hl hd hb hcs hnc hcm.out hp hs
end Go.Proofs.Ythflkfgiclcdiaa
