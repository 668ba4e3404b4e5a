/-
  Plain words for TwopcKeeps; contracts at what it asks.
-/
import Derived.Test.YthflkfgiclcdiaaGreatA10
import Derived.Test.YthflkfgiclcdiaaGreatA4
import Derived.Test.YthflkfgiclcdiaaGreatA1
import Derived.Test.YthflkfgiclcdiaaGreatC11
namespace Go.Proofs.YthflkfgiclcdiaaGreat
open Go.Gr Go.RowKit
set_option linter.unusedSimpArgs false
/-- The one operation. -/
abbrev opK (key : List UInt8) : DOp := ⟨2, key, key, 0⟩
theorem parts_one {key : List UInt8} : partsB [] [opK key] 1 = [⟨0, [opK key], [0]⟩] := by
  have hc : cmpB [] key ≤ 0 := by
    cases key <;> simp [cmpB]
  have hp : pieceB [] 0 (opK key) = (opK key, true) := by
    simp [pieceB, inB, loB, hiB, hc]
  have hs : selB [] 0 [opK key] 1 = [(opK key, 0)] := by
    simp [selB, selF, hp]
  simp [partsB, partF, partB, hs]
theorem check_one {key : List UInt8} (h : key.length ≤ 60) : checkB [opK key] = 0 := by
  have hf : faultB (opK key) = 0 := by
    unfold faultB
    rw [if_neg (by simp; omega), if_neg (by simp), if_neg (by simp)]
  have h2 : checkAll [opK key] = 0 := by
    simp [checkAll, checkStep, hf]
  simp [checkB, h2]
/-- What is asked first. -/
abbrev askK (x : DTxn) (key : List UInt8) : DAsk := ⟨2, 0, 0, 0, x, [opK key], false, [], 0, []⟩
theorem asks_K {x : DTxn} {key : List UInt8} : asksOf x [0] (workAsk [⟨0, [opK key], [0]⟩]) = [(0, askK x key)] := by
  simp [asksOf, workAsk]
theorem sends_K {x : DTxn} {key : List UInt8} : sendsOf (some [((0 : Int), askK x key)]) = [⟨0, askK x key⟩] := by
  simp [sendsOf]
/-- Of what is sent: where the key and the value lie. -/
theorem sent_one {w : World} {K : Nat} {v : Value} {s : Int} {a : DAsk} {o : DOp} (h : Own tSendO 41 w (· < K) K v [⟨s, a⟩]) (ho : a.ops = [o]) :
    ∃ g c g8 o8 k8 u1 u2, v = .slice (some ⟨g, 0, none⟩) 1 c ∧ g < w.heap.size ∧ w.cell? ⟨g, 8, none⟩ = some (.slice (some ⟨g8, o8, none⟩) 1 k8) ∧ g8 < w.heap.size ∧ K ≤ g ∧ K ≤ g8 ∧
      w.cell? ⟨g8, o8 + 1, none⟩ = some u1 ∧ w.cell? ⟨g8, o8 + 2, none⟩ = some u2 ∧ BR 5 w u1 o.key ∧ BR 5 w u2 o.value ∧ (∀ b, u1.ownBlock = some b → K ≤ b ∧ u2.ownBlock ≠ some b) ∧ (∀ b, u2.ownBlock = some b → K ≤ b) := by
  obtain ⟨a1, c1, rfl⟩ := h.val
  have hr : (Ty.slice tSendO).rep w (· < K) [.slice a1 1 c1] [⟨s, a⟩] := h.rep (fun _ h => h)
  obtain ⟨g, off, es, hg, hgl, hgK, he, hc⟩ := Ty.slice_at hr (k := 0) (by simp)
  have hoff : off = 0 := by
    obtain ⟨g', _, hg', _⟩ := OwnG.at (k := 0) (OwnG.of h) (by simp)
    rw [hg] at hg'
    simpa using congrArg (fun o : Option Addr => (o.map (·.off)).getD 0) hg'
  subst hoff hg
  obtain ⟨c8, c10, rfl, hs⟩ := he
  simp only [List.getElem_cons_zero] at hs
  have hops := hs.2.2.2.2.2.2.2.2.1
  rw [ho] at hops
  obtain ⟨a8, k8, rfl, _⟩ := Ty.slice_val hops
  have q8 := hc 8 _ rfl
  obtain ⟨g8, o8, es8, rfl, h8l, h8K, h8e, h8c⟩ := Ty.slice_at hops (k := 0) (by simp)
  obtain ⟨u1, u2, rfl, _, b1, b2, _, d1, d2⟩ := h8e
  have r1 := h8c 1 _ rfl
  have r2 := h8c 2 _ rfl
  simp only [show tSendO.n = 13 from rfl, show tOpO.n = 4 from rfl, Nat.zero_mul, Nat.zero_add, Nat.add_zero, List.length_cons, List.length_nil] at q8 r1 r2
  exact ⟨g, c1, g8, o8, k8, u1, u2, rfl, hgl, q8, h8l, Nat.le_of_not_lt hgK, Nat.le_of_not_lt h8K, r1, r2, b1, b2, fun b hb => ⟨Nat.le_of_not_lt (d1 b hb).1, (d1 b hb).2⟩, fun b hb => Nat.le_of_not_lt (d2 b hb)⟩
end Go.Proofs.YthflkfgiclcdiaaGreat
namespace Go
theorem wpAnyC_swap {P : Program} {ops : Array Oper} {Q : Exit → Act → World → Prop} {md : Region.Mode} {S S' : World → Prop} {c : Nat} (hm : ∀ w, S' w → S w) : ∀ {fuel : Nat} {listed : Array Bool} {a : Act} {w : World}, wpAnyC P md ops Q S' c fuel listed a w → wpAnyC P md ops Q S c fuel listed a w
  | 0, _, _, _, h => h
  | _ + 1, _, _, _, h => ⟨h.1, fun i hi => wpOp_mono (fun a' w' h' => ⟨h'.1, fun hc => ⟨hm _ (h'.2 hc).1, wpAnyC_swap hm (h'.2 hc).2⟩⟩) (h.2 i hi)⟩
end Go
namespace Go.Proofs.YthflkfgiclcdiaaGreat
open Go.Gr Go.RowKit
set_option linter.unusedSimpArgs false
abbrev txnK : DTxn := ⟨2, 0, 3⟩
/-- The coordinator of the one operation. -/
abbrev coordK (key : List UInt8) : DCoord := ⟨txnK, [opK key], [⟨0, [opK key], [0]⟩], some [], 0, 0, none, [0], false, [], false, 0, 3⟩
abbrev coordK1 (key : List UInt8) : DCoord := { coordK key with out := some [(0, askK txnK key)] }
theorem opK_rep {w : World} {v : Value} {key : List UInt8} (h : Ty.bytes.rep w (fun _ => False) [v] key) : (Ty.slice tOp).rep (w.alloc (.cells #[.int .i64 2, v, v, .int .i64 0] 32)) (fun _ => False) [.slice (some ⟨w.heap.size, 0, none⟩) 1 1] [opK key] := by
  refine Own.rep' (Own.lit (E := tOp) (e := 32) (B := 0) (M := fun _ => False) (n := 1) rfl (by rw [lim_eq]; omega) (Nat.zero_le _) rfl fun i hi => ?_) (fun _ _ h => h)
  obtain rfl : i = 0 := by simpa using hi
  rw [grp_self (n := tOp.n) (cells := #[Value.int .i64 2, v, v, .int .i64 0].toList) rfl]
  exact ⟨v, v, rfl, by simp [I64], h, h, by simp [I64]⟩
theorem New_K {w : World} {v : Value} {key : List UInt8} (h : Ty.bytes.rep w (fun _ => False) [v] key) :
    Calls Tryz.prog 9 #[.agg #[.int .u64 2, .int .u64 0, .int .u64 3], .slice none 0 0, .slice (some ⟨w.heap.size, 0, none⟩) 1 1, .int .i64 3] (w.alloc (.cells #[.int .i64 2, v, v, .int .i64 0] 32)) fun e w' => ∃ cb B ob vo vp mu vs vr, e = .returned (.pointer (some ⟨cb, 0, none⟩)) ∧ w.heap.size < B ∧ B ≤ w'.heap.size ∧
      CoordIn w' B cb (coordK key) vo vp (.map (some ob)) mu vs vr ∧ Step w w' := by
  refine (New_ _ (fun _ => False) txnK (.slice none 0 0) _ [] [opK key] 3 ⟨by decide, by decide, by decide⟩ nil_of (opK_rep h) (by decide) (by simp) ⟨by decide, by decide⟩).mono ?_
  rintro e w' ⟨cb, rfl, ⟨vo, vp, mo, mu, vs, vr, hC⟩, hS⟩
  have h2 := hS.size
  simp only [List.length_nil, Nat.zero_add, parts_one, List.map_cons, List.map_nil, show patB 3 = 3 from rfl] at hC
  obtain ⟨ob, rfl, _⟩ := hC.outs
  exact ⟨cb, _, ob, vo, vp, mu, vs, vr, rfl, by simp, h2, hC, ((Step.refl w).alloc _).trans hS⟩
theorem Begin_K {w : World} {B cb ob : Nat} {key : List UInt8} {vo vp mu vs vr : Value} (h : CoordIn w B cb (coordK key) vo vp (.map (some ob)) mu vs vr) (hB : B ≤ w.heap.size) (hk : key.length ≤ 60) :
    Calls Tryz.prog 10 #[.pointer (some ⟨cb, 0, none⟩)] w fun e w' => ∃ v' nb w1, e = .returned v' ∧ Own tSendO 41 w' (· < w1.heap.size) w1.heap.size v' [⟨0, askK txnK key⟩] ∧
      CoordIn w1 B cb (coordK1 key) vo vp (.map (some ob)) (.map (some nb)) vs vr ∧ Turn (· = cb) w w1 ∧ Step w1 w' := by
  refine (BeginO_ h hB (by simp) rfl rfl (check_one hk) (by simp) (fun i hi => by
    have h0 : i = 0 := by simp at hi; omega
    rw [h0]
    rfl)).mono ?_
  rintro e w' ⟨v', mu', w1, rfl, hA, hC, hT, hS⟩
  simp only [asks_K, sends_K] at hA hC
  obtain ⟨nb, rfl, _⟩ := hC.out
  exact ⟨v', nb, w1, rfl, hA, hC, hT, hS⟩
theorem Retry_K {w : World} {B cb ob nb : Nat} {key : List UInt8} {vo vp vs vr : Value} (h : CoordIn w B cb (coordK1 key) vo vp (.map (some ob)) (.map (some nb)) vs vr) :
    Calls Tryz.prog 11 #[.pointer (some ⟨cb, 0, none⟩)] w fun e w' => ∃ v', e = .returned v' ∧ Own tSendO 41 w' (· < w.heap.size) w.heap.size v' [⟨0, askK txnK key⟩] ∧ Step w w' := by
  refine (RetryO_ ⟨_, _, _, _, _, _, h⟩ (fun p hp => by simp at hp; subst hp; rfl)).mono ?_
  rintro e w' ⟨v', rfl, hA, hS⟩
  exact ⟨v', rfl, hA, hS⟩
theorem Apart_lit {w : World} {vs : List Value} {N : Nat → Nat} (hr : ∀ j (hj : j < vs.length), ∃ ys : List UInt8, ys.length = N j ∧ BR 5 w vs[j] ys) (hd : Apt vs) (hN : ∀ j, N j ≤ 8589934592) (hn : vs.length ≤ 1048576) :
    Calls Tryz.prog 15 #[.slice (some ⟨w.heap.size, 0, none⟩) vs.length vs.length] (w.alloc (.cells vs.toArray 22)) fun e w' => e = .returned (.bool true) ∧ Turn (ownM vs) w w' := by
  have hlt : ∀ b, ownM vs b → b < w.heap.size := by
    rintro b ⟨j, hj, hb⟩
    obtain ⟨ys, _, h2⟩ := hr j hj
    exact h2.lt hb
  refine (Apart_ (N := N) ?_ (fun j hj => ?_) hd hN hn).mono ?_
  · refine Own.rep' (Own.lit (E := Ty.raw) (e := 22) (B := 0) (M := ownM vs) (n := vs.length) rfl (by rw [lim_eq]; omega) (Nat.zero_le _) (by simp [Ty.raw]) fun i hi => ?_) (fun b hb hm => ?_)
    · have h1 : grp vs.toArray.toList 1 i = [vs[i]] := by
        unfold grp
        apply List.ext_getElem?
        intro j
        rw [List.getElem?_take, List.getElem?_drop]
        rcases j with _ | j
        · simp [hi]
        · simp
      obtain ⟨ys, _, h2⟩ := hr i hi
      exact ⟨h1, h2.one⟩
    · have := hlt b hm
      obtain rfl : w.heap.size = b := by simpa [Value.ownBlock] using hb
      omega
  · obtain ⟨ys, h1, h2⟩ := hr j hj
    exact ⟨ys, h1, h2.step ((Step.refl w).alloc _)⟩
  · rintro e w' ⟨rfl, hT⟩
    exact ⟨rfl, (Turn.of ((Step.refl w).alloc _)).trans hT⟩
theorem nilrow_rep {w : World} {M : Nat → Prop} (hM : ∀ b, M b → b < w.heap.size) : (Ty.slice (Ty.slice tPair)).rep (w.alloc (.cells #[.slice none 0 0] 73)) M [.slice (some ⟨w.heap.size, 0, none⟩) 1 1] [[]] := by
  refine ⟨_, 1, rfl, by simp, by simp [maxLen], by simp [lim_eq], fun _ => ⟨w.heap.size, 0, rfl, by simp, fun h => by have := hM _ h; omega, fun i hi => ?_⟩⟩
  obtain rfl : i = 0 := by simpa using hi
  refine ⟨[.slice none 0 0], nil_of, fun j u hu => ?_⟩
  rcases j with _ | j
  · obtain rfl : Value.slice none 0 0 = u := by simpa using hu
    have : (Ty.slice tPair).n = 1 := rfl
    simp [this]
  · simp at hu
end Go.Proofs.YthflkfgiclcdiaaGreat
