/-
  Walks: the order of bytes (Compare, Cmp, Equal, bytes.Equal), empty ranges.
  Walks: clones.
  Walks: at most n operations; the document's errors of splits and of requests (Few, refSplits, refCheck).
-/
import Derived.Test.YthflkfgiclcdiaaZW1
import Derived.Test.YthflkfgiclcdiaaZP2
import Derived.WalkSpells
set_option linter.unusedVariables false
set_option linter.unusedSimpArgs false
namespace Go.Proofs.Ythflkfgiclcdiaa
open Go.RowKit Go.Gr

theorem bytealgCompare_ {w : World} {M M' : Nat → Prop} {u v : Value} {xs ys : List UInt8} (hx : Ty.bytes.rep w M [u] xs) (hy : Ty.bytes.rep w M' [v] ys) :
    (callFunc 121 #[u, v]).run Try.prog w = .ok (.value (.int .i64 (cmpB xs ys))) w := by
  rw [run_callFunc_extern Try.func121 (e := Extern.BytealgCompare.compare) (by kernel_rfl) (by kernel_rfl) (by kernel_rfl) (by kernel_rfl)]
  rw [run_compare hx hy]
  rfl

theorem bytesCompare_ {w : World} {M M' : Nat → Prop} {u v : Value} {xs ys : List UInt8} (hx : Ty.bytes.rep w M [u] xs) (hy : Ty.bytes.rep w M' [v] ys) :
    Calls Try.prog 103 #[u, v] w fun e w' => e = .returned (.int .i64 (cmpB xs ys)) ∧ w' = w := by
  have hc := bytealgCompare_ hx hy
  have HX := Lib.hid hx
  have HY := Lib.hid hy
  clear hx hy
  go_enter Try.func103, Try.ntmps103
  go_wp2
  go_ret
  exact ⟨rfl, rfl⟩
theorem Compare_ {w : World} {M M' : Nat → Prop} {u v : Value} {xs ys : List UInt8} (hx : Ty.bytes.rep w M [u] xs) (hy : Ty.bytes.rep w M' [v] ys) :
    Calls Try.prog 75 #[u, v] w fun e w' => e = .returned (.int .i64 (cmpB xs ys)) ∧ w' = w := by
  have HX := Lib.hid hx
  have HY := Lib.hid hy
  clear hx hy
  go_enter Try.func75, Try.ntmps75
  go_wp2_with (go_at_call 103; refine (bytesCompare_ HX.out HY.out).mono ?_; rintro e w' ⟨rfl, rfl⟩)
  go_ret
  exact ⟨rfl, rfl⟩

/-- Has a range no keys? -/
def emptyB (a b : List UInt8) : Bool := decide (0 < b.length) && decide (0 ≤ cmpB a b)
theorem empty_ {w : World} {M M' : Nat → Prop} {u v : Value} {xs ys : List UInt8} (hx : Ty.bytes.rep w M [u] xs) (hy : Ty.bytes.rep w M' [v] ys) :
    Calls Try.prog 78 #[u, v] w fun e w' => e = .returned (.bool (emptyB xs ys)) ∧ w' = w := by
  obtain ⟨a, c, rfl, hc, hm, hl⟩ := Ty.slice_val hy
  have hb : (decide ((0 : Int) < (ys.length : Int))) = decide (0 < ys.length) := by simp
  have HX := Lib.hid hx
  have HY := Lib.hid hy
  clear hx hy hb
  by_cases h : 0 < ys.length
  · have he : emptyB xs ys = decide (0 ≤ cmpB xs ys) := by simp [emptyB, h]
    have HE := Lib.hid he
    clear he
    go_enter Try.func78, Try.ntmps78
    go_wp2_with (go_at_call 75; refine (Compare_ HX.out HY.out).mono ?_; rintro e w' ⟨rfl, rfl⟩)
    go_ret
    exact ⟨by rw [HE.out]; rfl, rfl⟩
  · have he : emptyB xs ys = false := by simp [emptyB, h]
    have HE := Lib.hid he
    clear he
    go_enter Try.func78, Try.ntmps78
    go_wp2_with (go_at_call 75; refine (Compare_ HX.out HY.out).mono ?_; rintro e w' ⟨rfl, rfl⟩)
    go_ret
    exact ⟨by rw [HE.out]; rfl, rfl⟩

theorem cmp_lt_fact {xs ys : List UInt8} {k : Nat} (hag : ∀ j, j < k → xs[j]? = ys[j]?) (h1 : k < xs.length) (h2 : k < ys.length) : cmpB xs ys = if xs[k] < ys[k] then -1 else if ys[k] < xs[k] then 1 else cmpB (xs.drop (k + 1)) (ys.drop (k + 1)) := by
  rw [cmpB_drop k hag, List.drop_eq_getElem_cons h1, List.drop_eq_getElem_cons h2]
  rfl

set_option maxHeartbeats 1000000 in
theorem Cmp_ {w : World} {M M' : Nat → Prop} {u v : Value} {xs ys : List UInt8} (hx : Ty.bytes.rep w M [u] xs) (hy : Ty.bytes.rep w M' [v] ys) :
    Calls Try.prog 45 #[u, v] w fun e w' => e = .returned (.int .i64 (cmpB xs ys)) ∧ ∃ n, w' = w.drewN n := by
  obtain ⟨a, c, rfl, hc, hm, hl⟩ := Ty.slice_val hx
  obtain ⟨b, d, rfl, hd, hm', hl2⟩ := Ty.slice_val hy
  rw [lim_eq] at hl hl2
  have HX := Lib.hid hx
  have HY := Lib.hid hy
  clear hx hy hc hd hm hm'
  go_enter Try.func45, Try.ntmps45
  go_wp2
  go_loopw [5] (fun i w' => ∃ k : Nat, i = .int .i64 k ∧ k ≤ xs.length ∧ k ≤ ys.length ∧ Hid (∀ j, j < k → xs[j]? = ys[j]?) ∧ ∃ q, w' = w.drewN q) (fun i _ => xs.length - (intOf i).toNat)
  case atStart => exact ⟨0, rfl, by omega, by omega, Lib.hid (fun j hj => by omega), 0, rfl⟩
  case round =>
    obtain ⟨k, rfl, hk, hk2, hag, q, rfl⟩ := hrel
    by_cases hlt : k < xs.length
    · by_cases hlt2 : k < ys.length
      · obtain ⟨b1, o1, u1, rfl, _, _, hu1, hc1⟩ := Ty.slice_at1 rfl HX.out hlt
        obtain ⟨b2, o2, u2, rfl, _, _, hu2, hc2⟩ := Ty.slice_at1 rfl HY.out hlt2
        obtain rfl : u1 = .int .u8 (xs[k].toNat : Int) := by simpa using (show [u1] = _ from hu1)
        obtain rfl : u2 = .int .u8 (ys[k].toNat : Int) := by simpa using (show [u2] = _ from hu2)
        have hcc : Hid (cmpB xs ys = if xs[k] < ys[k] then -1 else if ys[k] < xs[k] then 1 else cmpB (xs.drop (k + 1)) (ys.drop (k + 1))) := Lib.hid (cmp_lt_fact hag.out hlt hlt2)
        clear hu1 hu2
        have e1 : (0 : Int) ≤ (k : Int) := by omega
        have e2 : (k : Int) < (xs.length : Int) := by omega
        have e3 : (k : Int) < (ys.length : Int) := by omega
        by_cases h1 : (xs[k].toNat : Int) < (ys[k].toNat : Int)
        · go_wp2
          go_quiet (fail)
          go_wp2
          go_ret
          refine ⟨?_, (by first | exact ⟨_, rfl⟩ | (simp only [World.drewN_drewN]; exact ⟨_, rfl⟩))⟩
          rw [hcc.out, if_pos (UInt8.lt_iff_toNat_lt.2 (by omega))]
          rfl
        · have h1' : decide ((xs[k].toNat : Int) < (ys[k].toNat : Int)) = false := decide_eq_false h1
          by_cases h2 : (ys[k].toNat : Int) < (xs[k].toNat : Int)
          · go_wp2
            go_quiet (fail)
            go_wp2
            go_quiet (fail)
            go_wp2
            go_ret
            refine ⟨?_, (by first | exact ⟨_, rfl⟩ | (simp only [World.drewN_drewN]; exact ⟨_, rfl⟩))⟩
            rw [hcc.out, if_neg (by rw [UInt8.lt_iff_toNat_lt]; omega), if_pos (UInt8.lt_iff_toNat_lt.2 (by omega))]
            rfl
          · have h2' : decide ((ys[k].toNat : Int) < (xs[k].toNat : Int)) = false := decide_eq_false h2
            go_wp2
            go_quiet (fail)
            go_wp2
            go_quiet (fail)
            go_wp2
            go_roundw
            case rel =>
              refine ⟨k + 1, by go_num, by omega, by omega, Lib.hid (fun j hj => ?_), (by first | exact ⟨_, rfl⟩ | (simp only [World.drewN_drewN]; exact ⟨_, rfl⟩))⟩
              rcases Nat.lt_or_ge j k with hj' | hj'
              · exact hag.out j hj'
              · obtain rfl : j = k := by omega
                rw [List.getElem?_eq_getElem hlt, List.getElem?_eq_getElem hlt2]
                exact congrArg some (UInt8.toNat_inj.1 (by omega))
            case measure => simp [intOf]; omega
      · obtain rfl : k = ys.length := by omega
        have hcc : Hid (cmpB xs ys = 1) := Lib.hid (by
          rw [cmpB_drop _ hag.out, List.drop_length, List.drop_eq_getElem_cons hlt]
          rfl)
        go_wp2
        go_ret
        exact ⟨by rw [hcc.out]; rfl, _, rfl⟩
    · obtain rfl : k = xs.length := by omega
      rcases Nat.lt_or_ge xs.length ys.length with h | h
      · have hcc : Hid (cmpB xs ys = -1) := Lib.hid (by
          rw [cmpB_drop _ hag.out, List.drop_length, List.drop_eq_getElem_cons h]
          rfl)
        go_wp2
        go_ret
        exact ⟨by rw [hcc.out]; rfl, _, rfl⟩
      · have hcc : Hid (cmpB xs ys = 0) := Lib.hid (by
          rw [cmpB_drop _ hag.out, List.drop_length, List.drop_of_length_le h]
          rfl)
        go_wp2
        go_ret
        exact ⟨by rw [hcc.out]; rfl, _, rfl⟩
theorem Equal_ {w : World} {M M' : Nat → Prop} {u v : Value} {xs ys : List UInt8} (hx : Ty.bytes.rep w M [u] xs) (hy : Ty.bytes.rep w M' [v] ys) :
    Calls Try.prog 67 #[u, v] w fun e w' => e = .returned (.bool (decide (xs = ys))) ∧ ∃ n, w' = w.drewN n := by
  have HX := Lib.hid hx
  have HY := Lib.hid hy
  have he : Hid ((cmpB xs ys == 0) = decide (xs = ys)) := Lib.hid (by
    rw [Bool.eq_iff_iff, beq_iff_eq, decide_eq_true_iff]
    exact cmpB_iff)
  clear hx hy
  go_enter Try.func67, Try.ntmps67
  go_wp2_with (go_at_call 45; refine (Cmp_ HX.out HY.out).mono ?_; rintro e w' ⟨rfl, n, rfl⟩)
  go_ret
  exact ⟨by rw [← he.out]; rfl, _, rfl⟩
end Go.Proofs.Ythflkfgiclcdiaa

namespace Go.Proofs.Ythflkfgiclcdiaa
open Go.RowKit Go.Gr
theorem stOps : SliceTy Try.prog 23 72 tOp.n := .mk' (z := .agg #[.int .i64 0, .slice none 0 0, .slice none 0 0, .int .i64 0]) (by_ := 64) Try.underlying23 (by kernel_rfl) rfl (by decide) (by omega)
theorem stPairs : SliceTy Try.prog 59 95 tPair.n := .mk' (z := .agg #[.slice none 0 0, .slice none 0 0]) (by_ := 48) Try.underlying59 (by kernel_rfl) rfl (by decide) (by omega)
theorem stWrites : SliceTy Try.prog 39 74 tWrite.n := .mk' (z := .agg #[.slice none 0 0, .slice none 0 0, .bool false]) (by_ := 56) Try.underlying39 (by kernel_rfl) rfl (by decide) (by omega)


set_option maxHeartbeats 400000 in
theorem CloneOps_ (w : World) (M M' : Nat → Prop) (v : Value) (xs : List DOp) (h : (Ty.slice tOp).rep w M [v] xs) (hM : ∀ b, b < w.heap.size → M' b → M b) :
    Calls Try.prog 86 #[v] w fun e w' => ∃ v', e = .returned v' ∧ Own tOp 72 w' M' w.heap.size v' xs ∧ Step w w' := by
  obtain ⟨a, c, rfl, hc, hm, hl⟩ := Ty.slice_val h
  have H := Lib.hid h
  have HM := Lib.hid hM
  clear hM
  have hnil := Lib.run_eql_slice_nil (P := Try.prog) w 23 72 a xs.length c 0 0 Try.underlying23
  rcases a with _ | a
  · have h0 : xs = [] := Ty.slice_none h
    subst h0
    simp only [List.length_nil] at hnil ⊢
    clear hc hl
    clear h
    go_enter Try.func86, Try.ntmps86
    go_wp2
    go_ret
    exact ⟨_, rfl, Own.nil, Step.refl _⟩
  · clear h
    go_enter Try.func86, Try.ntmps86
    go_wp2_with (at_builtin; refine wpList_append_acc (xs := []) (ys := xs) rfl (.tmp 5) (.tmp 6) rfl stOps ((Step.refl w).alloc _) (M := M') (Own.lit rfl (by simp) (Nat.le_refl _) rfl (by simp)) (Src.later H.out (by (repeat (first | exact Step.refl _ | refine Step.alloc ?_ _ | refine Step.drew ?_ | refine Step.drewN ?_ _ | refine Step.setCell ?_ (by first | exact Nat.le_refl _ | assumption | omega | (simp; done) | (simp; omega)) _ | assumption | refine Step.trans ?_ (by assumption : Step _ _)))) (fun b hb h => HM.out b hb (h.resolve_right (old_ne hb)))) (by simpa using hl) rfl rfl ?_; intro v' w' ha hb hg hp)
    go_ret
    exact ⟨v', rfl, by simpa using ha, hb⟩

set_option maxHeartbeats 400000 in
theorem ClonePairs_ (w : World) (M M' : Nat → Prop) (v : Value) (xs : List DPair) (h : (Ty.slice tPair).rep w M [v] xs) (hM : ∀ b, b < w.heap.size → M' b → M b) :
    Calls Try.prog 100 #[v] w fun e w' => ∃ v', e = .returned v' ∧ Own tPair 95 w' M' w.heap.size v' xs ∧ Step w w' := by
  obtain ⟨a, c, rfl, hc, hm, hl⟩ := Ty.slice_val h
  have H := Lib.hid h
  have HM := Lib.hid hM
  clear hM
  have hnil := Lib.run_eql_slice_nil (P := Try.prog) w 59 95 a xs.length c 0 0 Try.underlying59
  rcases a with _ | a
  · have h0 : xs = [] := Ty.slice_none h
    subst h0
    simp only [List.length_nil] at hnil ⊢
    clear hc hl
    clear h
    go_enter Try.func100, Try.ntmps100
    go_wp2
    go_ret
    exact ⟨_, rfl, Own.nil, Step.refl _⟩
  · clear h
    go_enter Try.func100, Try.ntmps100
    go_wp2_with (at_builtin; refine wpList_append_acc (xs := []) (ys := xs) rfl (.tmp 5) (.tmp 6) rfl stPairs ((Step.refl w).alloc _) (M := M') (Own.lit rfl (by simp) (Nat.le_refl _) rfl (by simp)) (Src.later H.out (by (repeat (first | exact Step.refl _ | refine Step.alloc ?_ _ | refine Step.drew ?_ | refine Step.drewN ?_ _ | refine Step.setCell ?_ (by first | exact Nat.le_refl _ | assumption | omega | (simp; done) | (simp; omega)) _ | assumption | refine Step.trans ?_ (by assumption : Step _ _)))) (fun b hb h => HM.out b hb (h.resolve_right (old_ne hb)))) (by simpa using hl) rfl rfl ?_; intro v' w' ha hb hg hp)
    go_ret
    exact ⟨v', rfl, by simpa using ha, hb⟩

set_option maxHeartbeats 400000 in
theorem CloneWrites_ (w : World) (M M' : Nat → Prop) (v : Value) (xs : List DWrite) (h : (Ty.slice tWrite).rep w M [v] xs) (hM : ∀ b, b < w.heap.size → M' b → M b) :
    Calls Try.prog 101 #[v] w fun e w' => ∃ v', e = .returned v' ∧ Own tWrite 74 w' M' w.heap.size v' xs ∧ Step w w' := by
  obtain ⟨a, c, rfl, hc, hm, hl⟩ := Ty.slice_val h
  have H := Lib.hid h
  have HM := Lib.hid hM
  clear hM
  have hnil := Lib.run_eql_slice_nil (P := Try.prog) w 39 74 a xs.length c 0 0 Try.underlying39
  rcases a with _ | a
  · have h0 : xs = [] := Ty.slice_none h
    subst h0
    simp only [List.length_nil] at hnil ⊢
    clear hc hl
    clear h
    go_enter Try.func101, Try.ntmps101
    go_wp2
    go_ret
    exact ⟨_, rfl, Own.nil, Step.refl _⟩
  · clear h
    go_enter Try.func101, Try.ntmps101
    go_wp2_with (at_builtin; refine wpList_append_acc (xs := []) (ys := xs) rfl (.tmp 5) (.tmp 6) rfl stWrites ((Step.refl w).alloc _) (M := M') (Own.lit rfl (by simp) (Nat.le_refl _) rfl (by simp)) (Src.later H.out (by (repeat (first | exact Step.refl _ | refine Step.alloc ?_ _ | refine Step.drew ?_ | refine Step.drewN ?_ _ | refine Step.setCell ?_ (by first | exact Nat.le_refl _ | assumption | omega | (simp; done) | (simp; omega)) _ | assumption | refine Step.trans ?_ (by assumption : Step _ _)))) (fun b hb h => HM.out b hb (h.resolve_right (old_ne hb)))) (by simpa using hl) rfl rfl ?_; intro v' w' ha hb hg hp)
    go_ret
    exact ⟨v', rfl, by simpa using ha, hb⟩

set_option maxHeartbeats 400000 in
theorem Clone_ (w : World) (M : Nat → Prop) (v : Value) (xs : List UInt8) (h : Ty.bytes.rep w M [v] xs) :
    Calls Try.prog 59 #[v] w fun e w' => ∃ v', e = .returned v' ∧ Own Ty.byte 5 w' (· < w.heap.size) w.heap.size v' xs ∧ Step w w' := by
  obtain ⟨a, c, rfl, hc, hm, hl⟩ := Ty.slice_val h
  have H := Lib.hid h
  have hnil := Lib.run_eql_slice_nil (P := Try.prog) w 42 5 a xs.length c 0 0 Try.underlying42
  rcases a with _ | a
  · have h0 : xs = [] := Ty.slice_none h
    subst h0
    simp only [List.length_nil] at hnil ⊢
    clear hc hl
    clear h
    go_enter Try.func59, Try.ntmps59
    go_wp2
    go_ret
    exact ⟨_, rfl, Own.nil, Step.refl _⟩
  · clear h
    go_enter Try.func59, Try.ntmps59
    go_wp2_with (at_builtin; refine wpList_append_acc (xs := []) (ys := xs) rfl (.tmp 5) (.tmp 6) rfl stBytes ((Step.refl w).alloc _) (M := (· < w.heap.size)) (Own.lit rfl (by simp) (Nat.le_refl _) rfl (by simp)) (Src.flat Ty.flat_byte (Ty.kept _ H.out (Kept.alloc _ _))) (by simpa using hl) rfl rfl ?_; intro v' w' ha hb hg hp)
    go_ret
    exact ⟨v', rfl, by simpa using ha, hb⟩
end Go.Proofs.Ythflkfgiclcdiaa

namespace Go.Proofs.Ythflkfgiclcdiaa
open Go.RowKit Go.Gr
set_option linter.unusedSimpArgs false

theorem Few_ {w : World} {M : Nat → Prop} {v : Value} {xs : List DOp} {n : Nat} (h : (Ty.slice tOp).rep w M [v] xs) (hn : n ≤ 100) :
    Calls Try.prog 10 #[v, .int .i64 (n : Int)] w fun e w' => ∃ v', e = .returned v' ∧ (Ty.slice tOp).rep w M [v'] (xs.take n) ∧ w' = w := by
  obtain ⟨a, c, rfl, hc, hm, hl⟩ := Ty.slice_val h
  have H := Lib.hid h
  have hl' := hl
  rw [lim_eq] at hl'
  unfold maxLen at hm
  by_cases hx : n < xs.length
  · obtain ⟨b, off, es, rfl, _⟩ := Ty.slice_at h (by omega : 0 < xs.length)
    have hT : Hid ((Ty.slice tOp).rep w M [.slice (some ⟨b, off, none⟩) n c] (xs.take n)) := Lib.hid (Ty.slice_take h (by omega))
    clear h
    have hcc : ¬ c = 0 := by omega
    go_enter Try.func10, Try.ntmps10
    go_wp2
    go_ret
    exact ⟨_, rfl, hT.out, rfl⟩
  · clear h
    have hT : Hid (xs.take n = xs) := Lib.hid (List.take_of_length_le (by omega))
    go_enter Try.func10, Try.ntmps10
    go_wp2
    go_ret
    exact ⟨_, rfl, by rw [hT.out]; exact H.out, rfl⟩

/-- The document's error of splits. -/
def badSplit (l : List (List UInt8)) (i : Nat) : Bool := decide ((l[i]?.getD []).length = 0) || (decide (0 < i) && decide (0 ≤ cmpB (l[i - 1]?.getD []) (l[i]?.getD [])))
def splitsB (l : List (List UInt8)) : Int :=
  if 3 < l.length then 2 else if l.any (fun x => decide (64 < x.length)) then 2 else if (List.range l.length).any (badSplit l) then 3 else 0
theorem any_of_at {α : Type} {l : List α} {p : α → Bool} {k : Nat} (hk : k < l.length) (h : p l[k] = true) : l.any p = true := List.any_eq_true.2 ⟨l[k], List.getElem_mem hk, h⟩
theorem any_not {α : Type} {l : List α} {p : α → Bool} (h : ∀ j (hj : j < l.length), p l[j] = false) : l.any p = false := by
  rw [List.any_eq_false]
  intro x hx
  obtain ⟨j, hj, rfl⟩ := List.mem_iff_getElem.1 hx
  simp [h j hj]

set_option maxRecDepth 100000 in
set_option maxHeartbeats 2000000 in
theorem refSplits_ {w : World} {M : Nat → Prop} {v : Value} {xs : List (List UInt8)} (h : (Ty.slice Ty.bytes).rep w M [v] xs) :
    Calls Try.prog 11 #[v] w fun e w' => e = .returned (.int .i64 (splitsB xs)) ∧ ∃ n, w' = w.drewN n := by
  obtain ⟨a, c, rfl, hc, hm, hl⟩ := Ty.slice_val h
  have H := Lib.hid h
  rw [lim_eq] at hl
  clear h hc hm
  by_cases h3 : 3 < xs.length
  · have hr : Hid (splitsB xs = 2) := Lib.hid (if_pos h3)
    go_enter Try.func11, Try.ntmps11
    go_wp2
    go_ret
    exact ⟨by rw [hr.out]; rfl, 0, rfl⟩
  · go_enter Try.func11, Try.ntmps11
    go_wp2
    go_loop [3] (fun i => ∃ k : Nat, i = .int .i64 k ∧ k ≤ xs.length ∧ Hid (∀ j (hj : j < xs.length), j < k → xs[j].length ≤ 64)) (fun i => xs.length - (intOf i).toNat)
    case atStart => exact ⟨0, rfl, by omega, Lib.hid (fun j _ h => absurd h (by omega))⟩
    case round =>
      obtain ⟨k, rfl, hk, hag⟩ := hrel
      by_cases hlt : k < xs.length
      · obtain ⟨b1, o1, u1, rfl, hb1, _, hu1, hc1⟩ := Ty.slice_at1 rfl H.out hlt
        obtain ⟨a2, n2, rfl, _, _, hl2⟩ := Ty.slice_val hu1
        rw [lim_eq] at hl2
        clear hu1
        by_cases hbig : 64 < xs[k].length
        · have hr : Hid (splitsB xs = 2) := Lib.hid (by
            unfold splitsB
            rw [if_neg h3, if_pos (any_of_at hlt (by simpa using hbig))])
          go_wp2
          go_ret
          exact ⟨by rw [hr.out]; rfl, 0, rfl⟩
        · go_wp2
          go_round
          case rel =>
            refine ⟨k + 1, by go_num, by omega, Lib.hid (fun j hj hlt' => ?_)⟩
            rcases Nat.lt_or_ge j k with h' | h'
            · exact hag.out j hj h'
            · obtain rfl : j = k := by omega
              omega
          case measure => simp [intOf]; omega
      · obtain rfl : k = xs.length := by omega
        have hno : Hid (xs.any (fun x => decide (64 < x.length)) = false) := Lib.hid (any_not fun j hj => by have := hag.out j hj hj; simp; omega)
        clear hag
        go_wp2
        go_loopw [4] (fun i w' => ∃ k : Nat, i = .int .i64 k ∧ k ≤ xs.length ∧ Hid (∀ j, j < k → badSplit xs j = false) ∧ ∃ q, w' = w.drewN q) (fun i _ => xs.length - (intOf i).toNat)
        case atStart => exact ⟨0, rfl, by omega, Lib.hid (fun j h => absurd h (by omega)), 0, rfl⟩
        case round =>
          rename_i wr _
          obtain ⟨k, rfl, hk, hag, q, hq⟩ := hrel
          have hS : Step w wr := hq ▸ (Step.refl w).drewN q
          have HQ := Lib.hid hq
          clear hq
          by_cases hlt : k < xs.length
          · obtain ⟨b1, o1, u1, rfl, hb1, _, hu1, hc0⟩ := Ty.slice_at1 rfl H.out hlt
            have hc1 := (hS.cell hb1 _).trans hc0
            clear hc0
            obtain ⟨a2, n2, rfl, _, _, hl2⟩ := Ty.slice_val hu1
            have HU := Lib.hid hu1
            clear hu1
            have e1 : (0 : Int) ≤ (k : Int) := by omega
            have e2 : (k : Int) < (xs.length : Int) := by omega
            have hgk : Hid (xs[k]?.getD [] = xs[k]) := Lib.hid (by simp [hlt])
            have hres3 : ∀ (_ : badSplit xs k = true), splitsB xs = 3 := fun hb => by
              unfold splitsB
              rw [if_neg h3, hno.out, if_neg (by simp), if_pos]
              exact any_of_at (l := List.range xs.length) (by simpa using hlt) (by simpa using hb)
            have HR3 := Lib.hid hres3
            clear hres3
            have hnext : ∀ (_ : badSplit xs k = false), ∀ j, j < k + 1 → badSplit xs j = false := fun hb j hj => by
              rcases Nat.lt_or_ge j k with h' | h'
              · exact hag.out j h'
              · obtain rfl : j = k := by omega
                exact hb
            have HNX := Lib.hid hnext
            clear hnext
            by_cases hz : xs[k].length = 0
            · have hzb : ((xs[k].length : Int) == 0) = true := beq_iff_eq.2 (by omega)
              have hbad : Hid (badSplit xs k = true) := Lib.hid (by simp [badSplit, hgk.out, hz])
              go_wp2
              go_quiet (fail)
              go_wp2
              go_ret
              exact ⟨by rw [HR3.out hbad.out]; rfl, (by rw [HQ.out]; exact (by first | exact ⟨_, rfl⟩ | (simp only [World.drewN_drewN]; exact ⟨_, rfl⟩)))⟩
            · have hzb : ((xs[k].length : Int) == 0) = false := beq_eq_false_iff_ne.2 (by omega)
              rcases k with _ | k
              · have hbad : Hid (badSplit xs 0 = false) := Lib.hid (by simp [badSplit, hgk.out, hz])
                have hd0 : decide ((0 : Int) < ((0 : Nat) : Int)) = false := rfl
                rw [Nat.add_zero] at hc1
                go_wp2
                go_quiet (fail)
                go_wp2
                go_roundw
                case rel => exact ⟨1, by go_num, by omega, Lib.hid (HNX.out hbad.out), (by rw [HQ.out]; exact (by first | exact ⟨_, rfl⟩ | (simp only [World.drewN_drewN]; exact ⟨_, rfl⟩)))⟩
                case measure => simp [intOf]; omega
              · have hlt' : k < xs.length := by omega
                obtain ⟨b3, o3, u3, hb3, hb3', _, hu3, hc0⟩ := Ty.slice_at1 rfl H.out hlt'
                have hc3 := (hS.cell hb3' _).trans hc0
                clear hc0
                simp only [Option.some.injEq, Addr.mk.injEq, and_true] at hb3
                obtain ⟨rfl, rfl⟩ := hb3
                have HV := Lib.hid hu3
                clear hu3
                have e3 : (0 : Int) ≤ (k : Int) := by omega
                have e4 : (k : Int) < (xs.length : Int) := by omega
                have e5 : (0 : Int) < (k : Int) + 1 := by omega
                have e6 : (k : Int) + 1 < (xs.length : Int) := by omega
                have e7 : (0 : Int) ≤ (k : Int) + 1 := by omega
                have e8 : ((k : Int) + 1).toNat = k + 1 := by omega
                have e9 : IntKind.i64.wrap (k : Int) = (k : Int) := IntWalk.i64_in _ (by omega)
                have hd0 : decide ((0 : Int) < (k : Int) + 1) = true := decide_eq_true e5
                have hbs : Hid (badSplit xs (k + 1) = decide (0 ≤ cmpB xs[k] xs[k + 1])) := Lib.hid (by simp [badSplit, hgk.out, hz, hlt'])
                by_cases hcmp : 0 ≤ cmpB xs[k] xs[k + 1]
                · have hbad : Hid (badSplit xs (k + 1) = true) := Lib.hid (by rw [hbs.out]; exact decide_eq_true hcmp)
                  go_wp2
                  go_quiet ((go_at_call 45; refine Calls.quiet_of (Cmp_ (Ty.step _ HV.out (by (repeat (first | exact Step.refl _ | refine Step.alloc ?_ _ | refine Step.drew ?_ | refine Step.drewN ?_ _ | refine Step.setCell ?_ (by first | exact Nat.le_refl _ | assumption | omega | (simp; done) | (simp; omega)) _ | assumption | refine Step.trans ?_ (by assumption : Step _ _))))) (Ty.step _ HU.out (by (repeat (first | exact Step.refl _ | refine Step.alloc ?_ _ | refine Step.drew ?_ | refine Step.drewN ?_ _ | refine Step.setCell ?_ (by first | exact Nat.le_refl _ | assumption | omega | (simp; done) | (simp; omega)) _ | assumption | refine Step.trans ?_ (by assumption : Step _ _))))))))
                  go_wp2
                  go_ret
                  exact ⟨by rw [HR3.out hbad.out]; rfl, (by rw [HQ.out]; exact (by first | exact ⟨_, rfl⟩ | (simp only [World.drewN_drewN]; exact ⟨_, rfl⟩)))⟩
                · have hbad : Hid (badSplit xs (k + 1) = false) := Lib.hid (by rw [hbs.out]; exact decide_eq_false hcmp)
                  go_wp2
                  go_quiet ((go_at_call 45; refine Calls.quiet_of (Cmp_ (Ty.step _ HV.out (by (repeat (first | exact Step.refl _ | refine Step.alloc ?_ _ | refine Step.drew ?_ | refine Step.drewN ?_ _ | refine Step.setCell ?_ (by first | exact Nat.le_refl _ | assumption | omega | (simp; done) | (simp; omega)) _ | assumption | refine Step.trans ?_ (by assumption : Step _ _))))) (Ty.step _ HU.out (by (repeat (first | exact Step.refl _ | refine Step.alloc ?_ _ | refine Step.drew ?_ | refine Step.drewN ?_ _ | refine Step.setCell ?_ (by first | exact Nat.le_refl _ | assumption | omega | (simp; done) | (simp; omega)) _ | assumption | refine Step.trans ?_ (by assumption : Step _ _))))))))
                  go_wp2
                  go_roundw
                  case rel => exact ⟨k + 1 + 1, by go_num, by omega, Lib.hid (HNX.out hbad.out), (by rw [HQ.out]; exact (by first | exact ⟨_, rfl⟩ | (simp only [World.drewN_drewN]; exact ⟨_, rfl⟩)))⟩
                  case measure => simp [intOf]; omega
          · obtain rfl : k = xs.length := by omega
            have hr : Hid (splitsB xs = 0) := Lib.hid (by
              unfold splitsB
              rw [if_neg h3, hno.out, if_neg (by simp), if_neg]
              simp only [Bool.not_eq_true]
              exact any_not fun j hj => by
                simp only [List.getElem_range]
                exact hag.out j (by simpa using hj))
            go_wp2
            go_ret
            exact ⟨by rw [hr.out]; rfl, (by rw [HQ.out]; exact (by first | exact ⟨_, rfl⟩ | (simp only [World.drewN_drewN]; exact ⟨_, rfl⟩)))⟩
end Go.Proofs.Ythflkfgiclcdiaa
