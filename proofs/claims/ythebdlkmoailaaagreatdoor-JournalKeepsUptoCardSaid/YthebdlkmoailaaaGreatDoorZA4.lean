/-
  Rows of stamps that lie apart; the walk of Apart (do lists share memory?).
-/
import Derived.Test.YthebdlkmoailaaaGreatDoorZA1
import Derived.Test.YthebdlkmoailaaaGreatDoorZCut
set_option linter.unusedVariables false
set_option linter.unusedSimpArgs false
namespace Go.Proofs.YthebdlkmoailaaaGreatDoor
open Go.RowKit Go.Gr
set_option linter.unusedSimpArgs false
def stampL (i n : Nat) : List UInt8 := (List.range n).map (stampB i)
def stampT (i n m : Nat) : List UInt8 := (List.range m).map fun k => stampB i (n + k)
theorem stampL_len {i n : Nat} : (stampL i n).length = n := by simp [stampL]
theorem stampT_len {i n m : Nat} : (stampT i n m).length = m := by simp [stampT]
theorem stampL_at {i n k : Nat} (h : k < (stampL i n).length) : (stampL i n)[k] = stampB i k := by simp [stampL]
theorem stampT_at {i n m k : Nat} (h : k < (stampT i n m).length) : (stampT i n m)[k] = stampB i (n + k) := by simp [stampT]
theorem stampL_app {i n m : Nat} : stampL i n ++ stampT i n m = stampL i (n + m) := by
  simp [stampL, stampT, List.range_add, Function.comp_def]
theorem stampL_pre {i n m : Nat} (h : n ≤ m) : stampL i n <+: stampL i m := by
  obtain ⟨d, rfl⟩ := Nat.exists_eq_add_of_le h
  exact ⟨_, stampL_app⟩
theorem stampL_eq {i n : Nat} {ys : List UInt8} (hl : ys.length = n) (h : ∀ m (hm : m < ys.length), ys[m] = stampB i m) : ys = stampL i n := by
  refine List.ext_getElem (by rw [hl, stampL_len]) fun m h1 h2 => ?_
  rw [h m h1, stampL_at]
/-- The blocks of some rows. -/
def ownM (vs : List Value) : Nat → Prop := fun b => ∃ j, ∃ hj : j < vs.length, vs[j].ownBlock = some b
/-- In the midst of stamping: the rows ahead of i are stamped, and the i-th up to k. -/
def Some1 (w : World) (vs : List Value) (N : Nat → Nat) (i k : Nat) : Prop :=
  ∀ j (hj : j < vs.length), ∃ ys : List UInt8, ys.length = N j ∧ BR 5 w vs[j] ys ∧ ∀ m (hm : m < ys.length), (j < i ∨ j = i ∧ m < k) → ys[m] = stampB j m
abbrev Apt (vs : List Value) : Prop := ∀ i j (hi : i < vs.length) (hj : j < vs.length) g, vs[i].ownBlock = some g → vs[j].ownBlock = some g → i = j
theorem Some1.put {w : World} {vs : List Value} {N : Nat → Nat} {i k g n c : Nat} (h : Some1 w vs N i k) (hd : Apt vs) (hi : i < vs.length) (hv : vs[i] = .slice (some ⟨g, 0, none⟩) n c) : Some1 (w.setCell ⟨g, k, none⟩ (bv (stampB i k))) vs N i (k + 1) := by
  intro j hj
  obtain ⟨ys, h1, h2, h3⟩ := h j hj
  by_cases hji : j = i
  · subst hji
    rw [hv] at h2 ⊢
    refine ⟨ys.set k (stampB j k), by simpa using h1, h2.store _, fun m hm hc => ?_⟩
    rw [List.getElem_set]
    split
    · rename_i hkm; rw [hkm]
    · exact h3 m (by simpa using hm) (.inr ⟨rfl, by rcases hc with hc | hc <;> omega⟩)
  · refine ⟨ys, h1, h2.kept fun g' hg' => heap_setCell_other _ _ _ _ (show g' ≠ g from fun e => ?_), fun m hm hc => h3 m hm (by rcases hc with hc | hc <;> omega)⟩
    subst e
    exact hji (hd j i hj hi g' hg' (by rw [hv]; rfl))
theorem Some1.next {w : World} {vs : List Value} {N : Nat → Nat} {i : Nat} (h : Some1 w vs N i (N i)) : Some1 w vs N (i + 1) 0 := by
  intro j hj
  obtain ⟨ys, h1, h2, h3⟩ := h j hj
  refine ⟨ys, h1, h2, fun m hm hc => h3 m hm ?_⟩
  rcases hc with hc | hc
  · by_cases hji : j = i
    · subst hji
      exact .inr ⟨rfl, by omega⟩
    · exact .inl (by omega)
  · omega
theorem Some1.step {w w' : World} {vs : List Value} {N : Nat → Nat} {i k : Nat} (h : Some1 w vs N i k) (hs : Step w w') : Some1 w' vs N i k := fun j hj => by
  obtain ⟨ys, h1, h2, h3⟩ := h j hj
  exact ⟨ys, h1, h2.step hs, h3⟩
/-- Rows of stamps: each with whose stamps they are and how many; rows of one block are of the same. -/
def Pool (w : World) (L : List (Nat × Value × Nat)) : Prop :=
  (∀ p ∈ L, BR 5 w p.2.1 (stampL p.1 p.2.2)) ∧ ∀ p ∈ L, ∀ q ∈ L, ∀ g, p.2.1.ownBlock = some g → q.2.1.ownBlock = some g → p.1 = q.1
def L0 (vs : List Value) (N : Nat → Nat) : List (Nat × Value × Nat) := vs.zipIdx.map fun p => (p.2, p.1, N p.2)
theorem L0_mem {vs : List Value} {N : Nat → Nat} {j : Nat} (hj : j < vs.length) : (j, vs[j], N j) ∈ L0 vs N := by
  refine List.mem_map.2 ⟨(vs[j], j), ?_, rfl⟩
  rw [List.mem_zipIdx_iff_getElem?]
  simp [hj]
theorem L0_form {vs : List Value} {N : Nat → Nat} {p : Nat × Value × Nat} (h : p ∈ L0 vs N) : ∃ hj : p.1 < vs.length, p = (p.1, vs[p.1], N p.1) := by
  obtain ⟨q, hq, rfl⟩ := List.mem_map.1 h
  rw [List.mem_zipIdx_iff_getElem?] at hq
  simp only at hq ⊢
  obtain ⟨hj, he⟩ := List.getElem?_eq_some_iff.1 hq
  exact ⟨hj, by rw [he]⟩
/-- All rows in play. -/
structure P2 (w w' : World) (vs : List Value) (N : Nat → Nat) (L : List (Nat × Value × Nat)) (ub : Nat → Nat) : Prop where
  pool : Pool w' L
  base : ∀ q ∈ L, ∀ g, q.2.1.ownBlock = some g → ownM vs g ∨ w.heap.size ≤ g
  ub : ∀ q ∈ L, q.2.2 ≤ ub q.1
  ini : ∀ j (hj : j < vs.length), (j, vs[j], N j) ∈ L
  turn : Turn (ownM vs) w w'
theorem Some1.all {w w' : World} {vs : List Value} {N : Nat → Nat} (h : Some1 w' vs N vs.length 0) (hd : Apt vs) (ht : Turn (ownM vs) w w') : P2 w w' vs N (L0 vs N) N := by
  refine ⟨⟨fun p hp => ?_, fun p hp q hq g h1 h2 => ?_⟩, fun q hq g hg => ?_, fun q hq => ?_, fun j hj => L0_mem hj, ht⟩
  · obtain ⟨hj, he⟩ := L0_form hp
    obtain ⟨ys, h1, h2, h3⟩ := h p.1 hj
    rw [he]
    rw [← stampL_eq h1 (fun m hm => h3 m hm (.inl hj))]
    exact h2
  · obtain ⟨hj, he⟩ := L0_form hp
    obtain ⟨hj', he'⟩ := L0_form hq
    rw [he] at h1
    rw [he'] at h2
    exact hd _ _ hj hj' g h1 h2
  · obtain ⟨hj, he⟩ := L0_form hq
    rw [he] at hg
    exact .inl ⟨_, hj, hg⟩
  · obtain ⟨hj, he⟩ := L0_form hq
    rw [he]
    exact Nat.le_refl _
section
variable {w w' w2 : World} {vs : List Value} {N ub ub' : Nat → Nat} {L : List (Nat × Value × Nat)}
theorem P2.step (h : P2 w w' vs N L ub) (hs : Step w' w2) : P2 w w2 vs N L ub :=
  ⟨⟨fun p hp => (h.pool.1 p hp).step hs, h.pool.2⟩, h.base, h.ub, h.ini, h.turn.then hs⟩
theorem P2.more (h : P2 w w' vs N L ub) (hu : ∀ j, ub j ≤ ub' j) : P2 w w' vs N L ub' :=
  ⟨h.pool, h.base, fun q hq => Nat.le_trans (h.ub q hq) (hu _), h.ini, h.turn⟩
/-- A row that is none of these has grown. -/
theorem P2.beside {r : Option Nat} (h : P2 w w' vs N L ub) (hg : w'.grownBy w2 r) (hne : ∀ p ∈ L, ∀ g, p.2.1.ownBlock = some g → r ≠ some g) (hr : ∀ g, r = some g → w.heap.size ≤ g) : P2 w w2 vs N L ub :=
  ⟨⟨fun p hp => (h.pool.1 p hp).kept fun g hg2 => hg.block g ((h.pool.1 p hp).lt hg2) (fun e => hne p hp g hg2 e.symm), h.pool.2⟩, h.base, h.ub, h.ini, h.turn.grown hg (fun k hk hlt => by have := hr k hk; omega)⟩
theorem P2.app {i n m : Nat} {v v' : Value} (h : P2 w w' vs N L ub) (hin : (i, v, n) ∈ L) (hb : BR 5 w2 v' (stampL i m)) (hg : w'.grownBy w2 v.ownBlock) (hv : v'.ownBlock = v.ownBlock ∨ v'.ownBlock = some w'.heap.size)
    (hk : ∀ u zs, BR 5 w' u zs → (∀ g, u.ownBlock = some g → v.ownBlock = some g → zs <+: stampL i m) → BR 5 w2 u zs) (hm : ub i ≤ m) (hm' : m ≤ ub' i) (hu : ∀ j, ub j ≤ ub' j) : P2 w w2 vs N ((i, v', m) :: L) ub' := by
  have hsz := h.turn.size
  have hb0 := h.base _ hin
  refine ⟨⟨fun p hp => ?_, fun p hp q hq g h1 h2 => ?_⟩, fun q hq g hg2 => ?_, fun q hq => ?_, fun j hj => List.mem_cons_of_mem _ (h.ini j hj), h.turn.grown hg fun k hk1 hlt => ?_⟩
  · rcases List.mem_cons.1 hp with rfl | hp
    · exact hb
    · refine hk _ _ (h.pool.1 p hp) fun g h1 h2 => ?_
      have := h.pool.2 p hp _ hin g h1 h2
      rw [this]
      exact stampL_pre (Nat.le_trans (by have := h.ub p hp; rwa [‹p.1 = _›] at this) hm)
  · have key : ∀ p ∈ L, ∀ g, p.2.1.ownBlock = some g → v'.ownBlock = some g → p.1 = i := fun p hp g h1 h2 => by
      rcases hv with hv | hv
      · exact h.pool.2 p hp _ hin g h1 (hv ▸ h2)
      · rw [hv] at h2
        have := (h.pool.1 p hp).lt h1
        obtain rfl : w'.heap.size = g := by simpa using h2
        omega
    rcases List.mem_cons.1 hp with rfl | hp <;> rcases List.mem_cons.1 hq with rfl | hq
    · rfl
    · exact (key q hq g h2 h1).symm
    · exact key p hp g h1 h2
    · exact h.pool.2 p hp q hq g h1 h2
  · rcases List.mem_cons.1 hq with rfl | hq
    · rcases hv with hv | hv
      · exact hb0 g (hv ▸ hg2)
      · rw [hv] at hg2
        obtain rfl : w'.heap.size = g := by simpa using hg2
        exact .inr hsz
    · exact h.base q hq g hg2
  · rcases List.mem_cons.1 hq with rfl | hq
    · exact hm'
    · exact Nat.le_trans (h.ub q hq) (hu _)
  · rcases hb0 k hk1 with h1 | h1
    · exact h1
    · omega
end
theorem stampL_succ {i n : Nat} : stampL i n ++ [stampB i n] = stampL i (n + 1) := by
  simp [stampL, List.range_succ]
theorem stamp_z {w : World} {i k : Nat} {z y : Int} (hy : y = (i : Int)) (hz : z = (k : Int)) (hi : i ≤ 1099511627776) (hk : k ≤ 1099511627776) : Calls Tryz.prog 56 #[.int .i64 y, .int .i64 z] w fun e w' => e = .returned (bv (stampB i k)) ∧ w' = w := by
  subst hy hz
  exact stamp_ hi hk
/-- A row of another element's type stays where a row of bytes grows. -/
theorem long_kept {e eB : TypeId} {w w' : World} {B : Nat} {o v : Value} {lv : List Value} {xs : List UInt8} (hA : Own Ty.raw e w (fun _ => False) B o lv) (hb : BR eB w v xs) (hne : e ≠ eB) (hg : w.grownBy w' v.ownBlock) : Own Ty.raw e w' (fun _ => False) B o lv := by
  have h1 := hA.ne (hb.own (M := fun _ => False)) hne
  exact Own.flat Ty.flat_raw (Own.kept (M := fun _ => True) (Own.flat Ty.flat_raw hA) (fun b _ h => absurd trivial h) fun g hg2 => hg.block g (hA.lt hg2).2 (fun e => h1 g hg2 e.symm))
theorem P2.long {w w' w2 : World} {vs : List Value} {N ub : Nat → Nat} {L : List (Nat × Value × Nat)} {e : TypeId} {o : Value} {lv : List Value} (h : P2 w w' vs N L ub) (hA : Own Ty.raw e w' (fun _ => False) w.heap.size o lv) (hne : e ≠ 5) (hg : w'.grownBy w2 o.ownBlock) : P2 w w2 vs N L ub :=
  h.beside hg (fun p hp g hpg e2 => hA.ne ((h.pool.1 p hp).own (M := fun _ => False)) hne g e2 hpg) (fun g hg2 => (hA.lt hg2).1)
def ub2 (N : Nat → Nat) (k j : Nat) : Nat := if j < k then N j + 9 else N j
def ub3 (N : Nat → Nat) (k m j : Nat) : Nat := if j < k then N j + 9 else if j = k then N j + m else N j
def ub4 (N : Nat → Nat) (k j : Nat) : Nat := if j < k then N j + 33 else N j + 9
theorem ub2_0 {N : Nat → Nat} (j : Nat) : N j ≤ ub2 N 0 j := by simp [ub2]
theorem ub2_3 {N : Nat → Nat} {k : Nat} (j : Nat) : ub2 N k j ≤ ub3 N k 0 j := by unfold ub2 ub3; split <;> (try split) <;> omega
theorem ub3_3 {N : Nat → Nat} {k m : Nat} (j : Nat) : ub3 N k m j ≤ ub3 N k (m + 1) j := by unfold ub3; split <;> (try split) <;> omega
theorem ub3_2 {N : Nat → Nat} {k : Nat} (j : Nat) : ub3 N k 9 j ≤ ub2 N (k + 1) j := by unfold ub2 ub3; repeat' split <;> try omega
theorem ub3_at {N : Nat → Nat} {k m : Nat} : ub3 N k m k = N k + m := by simp [ub3]
theorem ub2_4 {N : Nat → Nat} {k : Nat} (j : Nat) : ub2 N k j ≤ ub4 N 0 j := by unfold ub2 ub4; repeat' split <;> try omega
theorem ub4_4 {N : Nat → Nat} {k : Nat} (j : Nat) : ub4 N k j ≤ ub4 N (k + 1) j := by unfold ub4; repeat' split <;> try omega
theorem ub4_at {N : Nat → Nat} {k : Nat} : ub4 N k k = N k + 9 := by simp [ub4]
theorem ub4_up {N : Nat → Nat} {k : Nat} : N k + 33 ≤ ub4 N (k + 1) k := by simp [ub4]
/-- What is at hand of one of some rows, where the list of them is read. -/
theorem raw_at {w : World} {M : Nat → Prop} {a : Option Addr} {n c k : Nat} {vs : List Value} (h : (Ty.slice Ty.raw).rep w M [.slice a n c] vs) (hk : k < vs.length) : ∃ b off, a = some ⟨b, off, none⟩ ∧ b < w.heap.size ∧ ¬ M b ∧ w.cell? ⟨b, off + k, none⟩ = some vs[k] := by
  obtain ⟨b, off, u, hab, hbb, hbM, hu, hcu⟩ := Ty.slice_at1 rfl h hk
  obtain rfl : u = vs[k] := by simpa using hu.1
  exact ⟨b, off, hab, hbb, hbM, hcu⟩
theorem _root_.Go.Gr.BR.valN {e : TypeId} {w : World} {v : Value} {xs : List UInt8} {n : Nat} (h : BR e w v xs) (hn : xs.length = n) : ∃ a c, v = .slice a n c := by
  subst hn
  exact h.val
end Go.Proofs.YthebdlkmoailaaaGreatDoor
namespace Go.Proofs.YthebdlkmoailaaaGreatDoor
open Go.RowKit Go.Gr
set_option linter.unusedSimpArgs false
theorem stRaw : SliceTy Tryz.prog 30 40 Ty.raw.n := stList
set_option maxRecDepth 100000 in
set_option maxHeartbeats 8000000 in
theorem Apart_ {w : World} {v : Value} {vs : List Value} {N : Nat → Nat} (hl : (Ty.slice Ty.raw).rep w (ownM vs) [v] vs) (hr : ∀ j (hj : j < vs.length), ∃ ys : List UInt8, ys.length = N j ∧ BR 5 w vs[j] ys) (hd : Apt vs) (hN : ∀ j, N j ≤ 8589934592) (hn : vs.length ≤ 1048576) :
    Calls Tryz.prog 23 #[v] w fun e w' => e = .returned (.bool true) ∧ Turn (ownM vs) w w' := by
  obtain ⟨a, c, rfl, _⟩ := Ty.slice_val hl
  have HL := Lib.hid hl
  have HD := Lib.hid hd
  have HNN := Lib.hid hN
  have HS0 : Hid (Some1 w vs N 0 0) := Lib.hid (fun j hj => by
    obtain ⟨ys, h1, h2⟩ := hr j hj
    exact ⟨ys, h1, h2, fun m hm hc => by rcases hc with hc | hc <;> omega⟩)
  clear hl hr hd hN
  go_enter Tryz.func23, Tryz.ntmps23
  go_wp2
  go_loopw [4] (fun i w' => ∃ k : Nat, i = .int .i64 k ∧ k ≤ vs.length ∧ Hid (Some1 w' vs N k 0) ∧ Hid (Turn (ownM vs) w w')) (fun i _ => vs.length - (Go.RowKit.intOf i).toNat)
  case atStart => exact ⟨0, rfl, by omega, HS0, Lib.hid (Turn.refl _ _)⟩
  case round =>
    obtain ⟨k, rfl, hk, hS, hT⟩ := hrel
    by_cases hlt : k < vs.length
    · obtain ⟨wo, hwo⟩ : ∃ x, x = wr := ⟨_, rfl⟩
      subst hwo
      have hNk := HNN.out k
      go_wp2
      go_loopw [5] (fun i w' => ∃ m : Nat, i = .int .i64 m ∧ m ≤ N k ∧ Hid (Some1 w' vs N k m) ∧ Hid (Turn (ownM vs) w w')) (fun i _ => N k - (Go.RowKit.intOf i).toNat)
      case atStart => exact ⟨0, rfl, by omega, hS, hT⟩
      case round =>
        obtain ⟨m, rfl, hm, hSm, hTm⟩ := hrel
        obtain ⟨ys, hy1, hy2, _⟩ := hSm.out k hlt
        obtain ⟨ra, rc, hrv⟩ := hy2.val
        rw [hy1] at hrv
        have hrep := Ty.kept _ HL.out hTm.out.kept
        obtain ⟨b, off, u, hab, hbb, hbM, hu, hcu⟩ := Ty.slice_at1 rfl hrep hlt
        obtain rfl : u = vs[k] := by simpa using hu.1
        rw [hrv] at hcu hy2
        clear hu hrep
        have HY := Lib.hid hy2
        have HRV := Lib.hid hrv
        have hrM : ∀ g, ra = some ⟨g, 0, none⟩ → ownM vs g := fun g hg => ⟨k, hlt, by rw [HRV.out, hg]; rfl⟩
        have HRM := Lib.hid hrM
        clear hy2 hrv hrM
        subst hab
        by_cases hml : m < N k
        · obtain ⟨g, rfl, hg, hc, hf⟩ := HY.out.at (k := m) (by omega)
          have hc' : ∃ z, wr.cell? ⟨g, m, none⟩ = some z := ⟨_, hc⟩
          clear hc
          obtain ⟨z, hc⟩ := hc'
          go_wp2
          refine wp_region_cut (S := (fun w' => w'.cell? ⟨b, off + k, none⟩ = some (.slice (some ⟨g, 0, none⟩) (N k) rc) ∧ w'.frozen? ⟨g, m, none⟩ = false ∧ w'.cell? ⟨g, m, none⟩ = some z)) 9 (by kernel_rfl) ?_ (fun hHeld => ?_)
          · (go_keep)
          refine wpAnyC_take (i := 0) (v := ?_) rfl (by kernel_rfl) (by kernel_rfl) (by kernel_rfl) (by decide) [2, 3, 8, 9] (by kernel_rfl) (fun _ _ _ h => h) (Or.inl ⟨by rfl, ?_⟩) (by assumption) ?_
          rotate_left 1
          · (intro w hSw; (try dsimp only at hSw); go_simp; (try with_reducible rfl))
          try simp only [Act.put, List.getElem_toArray, List.getElem_cons_succ, List.getElem_cons_zero, List.setIfInBounds_toArray, List.set_cons_zero, List.set_cons_succ]
          refine wpAnyC_take (i := 1) (v := ?_) rfl (by kernel_rfl) (by kernel_rfl) (by kernel_rfl) (by decide) [2, 3, 8, 9] (by kernel_rfl) (fun _ _ _ h => h) (Or.inl ⟨by rfl, ?_⟩) (by assumption) ?_
          rotate_left 1
          · (intro w hSw; (try dsimp only at hSw); go_simp; (try with_reducible rfl))
          try simp only [Act.put, List.getElem_toArray, List.getElem_cons_succ, List.getElem_cons_zero, List.setIfInBounds_toArray, List.set_cons_zero, List.set_cons_succ]
          refine wpAnyC_take (i := 2) (v := ?_) rfl (by kernel_rfl) (by kernel_rfl) (by kernel_rfl) (by decide) [3, 8, 9] (by kernel_rfl) (fun _ _ _ h => h) (Or.inl ⟨by rfl, ?_⟩) (by assumption) ?_
          rotate_left 1
          · (intro w hSw; (try dsimp only at hSw); go_simp; (try with_reducible rfl))
          try simp only [Act.put, List.getElem_toArray, List.getElem_cons_succ, List.getElem_cons_zero, List.setIfInBounds_toArray, List.set_cons_zero, List.set_cons_succ]
          refine wpAnyC_take (i := 3) (v := ?_) rfl (by kernel_rfl) (by kernel_rfl) (by kernel_rfl) (by decide) [8, 9] (by kernel_rfl) (fun _ _ _ h => h) (Or.inl ⟨by rfl, ?_⟩) (by assumption) ?_
          rotate_left 1
          · (intro w hSw; (try dsimp only at hSw); go_simp; (try with_reducible rfl))
          try simp only [Act.put, List.getElem_toArray, List.getElem_cons_succ, List.getElem_cons_zero, List.setIfInBounds_toArray, List.set_cons_zero, List.set_cons_succ]
          refine wpAnyC_take (i := 4) (v := ?_) rfl (by kernel_rfl) (by kernel_rfl) (by kernel_rfl) (by decide) [8, 9] (by kernel_rfl) (fun _ _ _ h => h) (Or.inl ⟨by rfl, ?_⟩) (by assumption) ?_
          rotate_left 1
          · (intro w hSw; (try dsimp only at hSw); go_simp; (try with_reducible rfl))
          try simp only [Act.put, List.getElem_toArray, List.getElem_cons_succ, List.getElem_cons_zero, List.setIfInBounds_toArray, List.set_cons_zero, List.set_cons_succ]
          refine wpAnyC_take (i := 5) (v := ?_) rfl (by kernel_rfl) (by kernel_rfl) (by kernel_rfl) (by decide) [7, 8, 9] (by kernel_rfl) (fun _ _ _ h => h) (Or.inl ⟨by rfl, ?_⟩) (by assumption) ?_
          rotate_left 1
          · (intro w hSw; (try dsimp only at hSw); go_simp; (try with_reducible rfl))
          try simp only [Act.put, List.getElem_toArray, List.getElem_cons_succ, List.getElem_cons_zero, List.setIfInBounds_toArray, List.set_cons_zero, List.set_cons_succ]
          refine wpAnyC_take (i := 6) (v := ?_) rfl (by kernel_rfl) (by kernel_rfl) (by kernel_rfl) (by decide) [7, 8, 9] (by kernel_rfl) (fun _ _ _ h => h) (Or.inl ⟨by rfl, ?_⟩) (by assumption) ?_
          rotate_left 1
          · (intro w hSw; (try dsimp only at hSw); go_simp; (try with_reducible rfl))
          try simp only [Act.put, List.getElem_toArray, List.getElem_cons_succ, List.getElem_cons_zero, List.setIfInBounds_toArray, List.set_cons_zero, List.set_cons_succ]
          refine wpAnyC_ready (rs := [7]) (by kernel_rfl) (by simp) ?_
          refine AllReadyC.cons rfl (by decide) (fun K hK => ?_) AllReadyC.nil
          try simp only [List.getElem_toArray, List.getElem_cons_succ, List.getElem_cons_zero]
          go_simp
          (go_at_call 56; refine (stamp_ (i := k) (k := m) (by omega) (by omega)).mono ?_; rintro e w7 ⟨rfl, rfl⟩)
          refine hK.out _ _ ?_ (fun hHeld => ?_)
          · (go_keep)
          clear hK K
          try simp only [Act.put, List.getElem_toArray, List.getElem_cons_succ, List.getElem_cons_zero, List.setIfInBounds_toArray, List.set_cons_zero, List.set_cons_succ]
          refine wpAnyC_take (i := 8) (v := ?_) rfl (by kernel_rfl) (by kernel_rfl) (by kernel_rfl) (by decide) [9] (by kernel_rfl) (fun _ _ _ h => h) (Or.inl ⟨by rfl, ?_⟩) (by assumption) ?_
          rotate_left 1
          · (intro w hSw; (try dsimp only at hSw); go_simp; (try with_reducible rfl))
          try simp only [Act.put, List.getElem_toArray, List.getElem_cons_succ, List.getElem_cons_zero, List.setIfInBounds_toArray, List.set_cons_zero, List.set_cons_succ]
          refine wpAnyC_ready (rs := [9]) (by kernel_rfl) (by simp) ?_
          refine AllReadyC.cut rfl (fun K hK => ?_)
          try simp only [List.getElem_toArray, List.getElem_cons_succ, List.getElem_cons_zero]
          go_simp
          refine hK.out _ _ trivial (fun hHeld => ?_)
          clear hK K
          try simp only [Act.put, List.getElem_toArray, List.getElem_cons_succ, List.getElem_cons_zero, List.setIfInBounds_toArray, List.set_cons_zero, List.set_cons_succ]
          have hTrue : True := trivial
          refine wpAnyH_done (by kernel_rfl) ?_ _
          go_wp2
          go_roundw
          case rel => exact ⟨m + 1, by go_num, by omega, Lib.hid ((hSm.out.put HD.out hlt HRV.out).step (Step.drew (Step.refl _))), Lib.hid (hTm.out.setCell (p := ⟨g, m, none⟩) (fun _ => HRM.out g rfl) _).drew⟩
          case measure => simp [Go.RowKit.intOf]; omega
        · obtain rfl : m = N k := by omega
          go_wp2
          go_roundw
          case rel => exact ⟨k + 1, by go_num, by omega, Lib.hid hSm.out.next, hTm⟩
          case measure => simp [Go.RowKit.intOf]; omega
    · have HP := Lib.hid (Some1.all (by obtain rfl : k = vs.length := by omega
                                        exact hS.out) HD.out hT.out)
      clear hS hT HS0
      go_wp2
      clear hlt hk
      go_loopw [3, 6] (fun o i w' => ∃ (k : Nat) (lv : List Value) (L : List (Nat × Value × Nat)), i = .int .i64 k ∧ k ≤ vs.length ∧ lv.length = k ∧ Hid (Own Ty.raw 40 w' (fun _ => False) w.heap.size o lv) ∧ Hid (P2 w w' vs N L (ub2 N k)) ∧ Hid (∀ p (hp : p < lv.length), (p, lv[p], N p + 9) ∈ L)) (fun _ i _ => vs.length - (Go.RowKit.intOf i).toNat)
      case atStart => exact ⟨0, [], L0 vs N, rfl, by omega, rfl, Lib.hid Own.nil, Lib.hid (HP.out.more ub2_0), Lib.hid (fun p hp => absurd hp (by simp))⟩
      case round =>
        obtain ⟨k, lv, L, rfl, hk, hlv, hA, hP, hLv⟩ := hrel
        clear HP
        by_cases hlt : k < vs.length
        · have hin := hP.out.ini k hlt
          have hb := hP.out.pool.1 _ hin
          simp only at hb
          obtain ⟨ra, rc, hrv⟩ := hb.valN stampL_len
          obtain ⟨b, off, hab, hbb, hbM, hcu⟩ := raw_at (Ty.kept _ HL.out hP.out.turn.kept) hlt
          rw [hrv] at hcu hin
          have HIN := Lib.hid hin
          have HRV := Lib.hid hrv
          have hNk := HNN.out k
          clear hb hin hrv
          subst hab
          obtain ⟨wo, hwo⟩ : ∃ x, x = wr := ⟨_, rfl⟩
          subst hwo
          go_wp2
          go_loopw [7, 8] (fun g i w' => ∃ (m : Nat) (L' : List (Nat × Value × Nat)), i = .int .i64 m ∧ m ≤ 9 ∧ Hid (P2 w w' vs N L' (ub3 N k m)) ∧ Hid ((k, g, N k + m) ∈ L') ∧ Hid (∀ q ∈ L, q ∈ L') ∧ Hid (Own Ty.raw 40 w' (fun _ => False) w.heap.size u3 lv)) (fun _ i _ => 9 - (Go.RowKit.intOf i).toNat)
          case atStart => exact ⟨0, L, rfl, by omega, Lib.hid (hP.out.more ub2_3), HIN, Lib.hid (fun q hq => hq), hA⟩
          case round =>
            obtain ⟨m, L', rfl, hm, hP', hin', hLL, hA'⟩ := hrel
            by_cases hml : m < 9
            · have hcr : wr.cell? ⟨b, off + k, none⟩ = some (.slice ra (N k) rc) := by
                obtain ⟨b2, off2, hab2, hbb2, hbM2, hcu2⟩ := raw_at (Ty.kept _ HL.out hP'.out.turn.kept) hlt
                obtain ⟨rfl, rfl⟩ : b = b2 ∧ off = off2 := by simpa using hab2
                rw [hcu2, HRV.out]
              have hbr := hP'.out.pool.1 _ hin'.out
              simp only at hbr
              have HBR := Lib.hid hbr
              have hsz := hP'.out.turn.size
              clear hbr
              go_wp2_with (first
                | (go_at_call 56; refine (stamp_z (i := k) (k := N k + m) rfl (by omega) (by omega) (by omega)).mono ?_; rintro e w7 ⟨rfl, rfl⟩)
                | (at_builtin; refine wpList_append_br (ys := [stampB k (N k + m)]) rfl (.tmp 52) (.tmp 62) rfl stBytes (HBR.out.step (by (repeat (first | exact Step.refl _ | refine Step.alloc ?_ _ | refine Step.drew ?_ | refine Step.drewN ?_ _ | refine Step.setCell ?_ (by first | exact Nat.le_refl _ | assumption | omega | (simp; done) | (simp; omega)) _ | assumption | refine Step.trans ?_ (by assumption : Step _ _))))) (Src.oneAt (by simp) rfl) (by simp) (by rw [stampL_len, lim_eq]; simp; omega) rfl rfl ?_; intro v5 w5 hb5 hg5 hv5 hk5; rw [stampL_succ] at hb5 hk5; have HB5 := Lib.hid hb5; have HG5 := Lib.hid hg5; have HV5 := Lib.hid hv5; have HK5 := Lib.hid hk5; clear hb5 hg5 hv5 hk5))
              go_roundw
              case rel => exact ⟨m + 1, _, by go_num, by omega, Lib.hid ((hP'.out.step (by (repeat (first | exact Step.refl _ | refine Step.alloc ?_ _ | refine Step.drew ?_ | refine Step.drewN ?_ _ | refine Step.setCell ?_ (by first | exact Nat.le_refl _ | assumption | omega | (simp; done) | (simp; omega)) _ | assumption | refine Step.trans ?_ (by assumption : Step _ _))))).app hin'.out HB5.out HG5.out HV5.out HK5.out (Nat.le_trans (Nat.le_of_eq ub3_at) (by omega)) (by rw [ub3_at]; omega) ub3_3), Lib.hid (List.mem_cons_self ..), Lib.hid (fun q hq => List.mem_cons_of_mem _ (hLL.out q hq)), Lib.hid (long_kept (hA'.out.step (by (repeat (first | exact Step.refl _ | refine Step.alloc ?_ _ | refine Step.drew ?_ | refine Step.drewN ?_ _ | refine Step.setCell ?_ (by first | exact Nat.le_refl _ | assumption | omega | (simp; done) | (simp; omega)) _ | assumption | refine Step.trans ?_ (by assumption : Step _ _))))) (HBR.out.step (by (repeat (first | exact Step.refl _ | refine Step.alloc ?_ _ | refine Step.drew ?_ | refine Step.drewN ?_ _ | refine Step.setCell ?_ (by first | exact Nat.le_refl _ | assumption | omega | (simp; done) | (simp; omega)) _ | assumption | refine Step.trans ?_ (by assumption : Step _ _))))) (by decide) HG5.out)⟩
              case measure => simp [Go.RowKit.intOf]; omega
            · obtain rfl : m = 9 := by omega
              have hbr := hP'.out.pool.1 _ hin'.out
              obtain ⟨ga, gc, hgv⟩ := hbr.valN stampL_len
              simp only at hgv
              subst hgv
              have h1 := hbr.one
              have HBR := Lib.hid hbr
              have H1 := Lib.hid h1
              have hsz := hP'.out.turn.size
              clear hbr h1
              go_wp2_with (at_builtin; refine wpList_append_gen (E := Ty.raw) (M := fun _ => False) (B := w.heap.size) (ys := [.slice ga (N k + 9) gc]) rfl (.tmp 64) (.tmp 66) rfl stRaw (hA'.out.alloc _) (Src.oneAt (by simp) ⟨rfl, H1.out⟩) (by rw [hlv, lim_eq]; simp; omega) (by simp; omega) rfl rfl ?_; intro v5 w5 hA5 hG5 _; have HA5 := Lib.hid hA5; have HG5 := Lib.hid hG5; clear hA5 hG5)
              go_roundw
              case rel =>
                refine ⟨k + 1, lv ++ [.slice ga (N k + 9) gc], L', by go_num, by omega, by simp [hlv], HA5, Lib.hid (((hP'.out.step ((Step.refl _).alloc _)).long (hA'.out.alloc _) (by decide) HG5.out).more ub3_2), Lib.hid (fun p hp => ?_)⟩
                by_cases hpk : p < lv.length
                · rw [List.getElem_append_left hpk]
                  exact hLL.out _ (hLv.out p hpk)
                · obtain rfl : p = lv.length := by simp at hp; omega
                  rw [List.getElem_append_right (Nat.le_refl _)]
                  simp only [Nat.sub_self, List.getElem_cons_zero]
                  rw [hlv]
                  exact hin'.out
              case measure => simp [Go.RowKit.intOf]; omega
        · have HLN : Hid (lv.length = vs.length) := Lib.hid (by omega)
          have HP3 : Hid (P2 w wr vs N L (ub4 N 0)) := Lib.hid (hP.out.more ub2_4)
          have HL3 : Hid (∀ p (hp : p < lv.length), ∃ m, m ≤ 17179869184 ∧ (p % vs.length, lv[p], m) ∈ L) := Lib.hid (fun p hp => ⟨N p + 9, by have := HNN.out p; omega, by rw [Nat.mod_eq_of_lt (by rw [← HLN.out]; exact hp)]; exact hLv.out p hp⟩)
          have hmk : ∀ W, (Instr.makeSlice 40 (.int .i64 33) (.int .i64 33)).run Tryz.prog W = .ok (.slice (some ⟨W.heap.size, 0, none⟩) 33 33) (W.alloc (.cells (madeCells #[.int .u8 0] 33) 5)) := made_bytesA 33 (by omega)
          clear hP hLv
          go_wp2
          clear hlt hk
          go_loopw [3, 9] (fun o i w' => ∃ (k : Nat) (lv2 : List Value) (L2 : List (Nat × Value × Nat)), i = .int .i64 k ∧ k ≤ vs.length ∧ lv2.length = vs.length + k ∧ Hid (Own Ty.raw 40 w' (fun _ => False) w.heap.size o lv2) ∧ Hid (P2 w w' vs N L2 (ub4 N k)) ∧ Hid (∀ p (hp : p < lv2.length), ∃ m, m ≤ 17179869184 ∧ (p % vs.length, lv2[p], m) ∈ L2)) (fun _ i _ => vs.length - (Go.RowKit.intOf i).toNat)
          case atStart => exact ⟨0, lv, L, rfl, by omega, by have := HLN.out; omega, hA, HP3, HL3⟩
          case round =>
            obtain ⟨k, lv2, L2, rfl, hk, hlv2, hA, hP, hLv⟩ := hrel
            clear HP3 HL3 hlv HLN
            by_cases hlt : k < vs.length
            · have hin := hP.out.ini k hlt
              have hb := hP.out.pool.1 _ hin
              simp only at hb
              obtain ⟨ra, rc, hrv⟩ := hb.valN stampL_len
              obtain ⟨b, off, hab, hbb, hbM, hcu⟩ := raw_at (Ty.kept _ HL.out hP.out.turn.kept) hlt
              rw [hrv] at hcu hin hb
              have HIN := Lib.hid hin
              have HB := Lib.hid hb
              have hNk := HNN.out k
              clear hb hin hrv
              subst hab
              obtain ⟨wo, hwo⟩ : ∃ x, x = wr := ⟨_, rfl⟩
              subst hwo
              have hbb' : b < wo.heap.size := hbb
              have hwsz := hP.out.turn.size
              have hne : ¬ b = wo.heap.size := by omega
              go_wp2
              go_loopw [11] (fun i w' => ∃ m : Nat, i = .int .i64 m ∧ m ≤ 33 ∧ Hid (BR 5 w' (.slice (some ⟨wo.heap.size, 0, none⟩) 33 33) ((stampT k (N k) 33).take m ++ List.replicate ((stampT k (N k) 33).length - m) 0)) ∧ Step wo w') (fun i _ => 33 - (Go.RowKit.intOf i).toNat)
              case atStart => exact ⟨0, rfl, by omega, Lib.hid (by rw [stampT_len]; simpa using made_br 33 (by omega) wo), by (repeat (first | exact Step.refl _ | refine Step.alloc ?_ _ | refine Step.drew ?_ | refine Step.drewN ?_ _ | refine Step.setCell ?_ (by first | exact Nat.le_refl _ | assumption | omega | (simp; done) | (simp; omega)) _ | assumption | refine Step.trans ?_ (by assumption : Step _ _)))⟩
              case round =>
                obtain ⟨m, rfl, hm, hB, hS⟩ := hrel
                have hsz := hS.size
                have hcr : wr.cell? ⟨b, off + k, none⟩ = some (.slice ra (N k) rc) := (hS.cell hbb' _).trans hcu
                by_cases hml : m < 33
                · have hm2 : m < (stampT k (N k) 33).length := by rw [stampT_len]; exact hml
                  have hfn := fill_next (z := 0) hm2
                  rw [stampT_at] at hfn
                  have HF := Lib.hid hfn
                  obtain ⟨g, hgg, hg, hc, hf⟩ := hB.out.at (k := m) (by simp only [List.length_append, List.length_take, List.length_replicate]; omega)
                  obtain rfl : wo.heap.size = g := by injection hgg with h1; injection h1
                  have hc' : ∃ z, wr.cell? ⟨wo.heap.size, m, none⟩ = some z := ⟨_, hc⟩
                  clear hc
                  obtain ⟨z, hc⟩ := hc'
                  clear hgg hfn
                  go_wp2_with (go_at_call 56; refine (stamp_z (i := k) (k := N k + m) rfl (by omega) (by omega) (by omega)).mono ?_; rintro e w7 ⟨rfl, rfl⟩)
                  go_roundw
                  case rel =>
                    refine ⟨m + 1, by go_num, by omega, Lib.hid ?_, Step.setCell hS (Nat.le_refl _) _⟩
                    have h1 := hB.out.store (k := m) (stampB k (N k + m))
                    rw [HF.out] at h1
                    exact h1
                  case measure => simp [Go.RowKit.intOf]; omega
                · have HT : Hid (BR 5 wr (.slice (some ⟨wo.heap.size, 0, none⟩) 33 33) (stampT k (N k) 33)) := Lib.hid (by
                    have h1 := hB.out
                    rw [List.take_of_length_le (by rw [stampT_len]; omega), show (stampT k (N k) 33).length - m = 0 by rw [stampT_len]; omega, List.replicate_zero, List.append_nil] at h1
                    exact h1)
                  have HPr := Lib.hid (hP.out.step hS)
                  have HAr := Lib.hid (hA.out.step hS)
                  have HBr := Lib.hid (HB.out.step hS)
                  clear hB
                  go_wp2_with (first
                    | (at_builtin; refine wpList_append_br (v := .slice ra (N k) rc) (xs := stampL k (N k)) (ys := stampT k (N k) 33) rfl (.tmp 95) (.tmp 96) rfl stBytes HBr.out (Src.flat Ty.flat_byte (HT.out.rep (M := fun _ => False) (fun _ _ h => h))) (by rw [stampT_len]; omega) (by rw [stampL_len, stampT_len, lim_eq]; omega) rfl rfl ?_; intro v5 w5 hb5 hg5 hv5 hk5; rw [stampL_app] at hb5 hk5; obtain ⟨ga, gc, rfl⟩ := hb5.valN stampL_len; have HA5 := Lib.hid (long_kept HAr.out HBr.out (by decide) hg5); have HP5 := Lib.hid (HPr.out.app (ub' := ub4 N (k + 1)) HIN.out hb5 hg5 hv5 hk5 (Nat.le_trans (Nat.le_of_eq ub4_at) (by omega)) ub4_up ub4_4); have H15 := Lib.hid hb5.one; clear hb5 hg5 hv5 hk5)
                    | (at_builtin; refine wpList_append_gen (E := Ty.raw) (M := fun _ => False) (B := w.heap.size) (ys := [.slice ga (N k + 33) gc]) rfl (.tmp 91) (.tmp 98) rfl stRaw (HA5.out.alloc _) (Src.oneAt (by simp) ⟨rfl, H15.out⟩) (by rw [hlv2, lim_eq]; simp; omega) (Nat.le_trans HP5.out.turn.size (by simp)) rfl rfl ?_; intro v6 w6 hA6 hG6 _; have HA6 := Lib.hid hA6; have HG6 := Lib.hid hG6; clear hA6 hG6))
                  go_roundw
                  case rel =>
                    refine ⟨k + 1, lv2 ++ [.slice ga (N k + 33) gc], (k, .slice ga (N k + 33) gc, N k + 33) :: L2, by go_num, by omega, by simp [hlv2]; omega, HA6, Lib.hid ((HP5.out.step ((Step.refl _).alloc _)).long (HA5.out.alloc _) (by decide) HG6.out), Lib.hid (fun p hp => ?_)⟩
                    by_cases hpk : p < lv2.length
                    · obtain ⟨m3, h1, h2⟩ := hLv.out p hpk
                      rw [List.getElem_append_left hpk]
                      exact ⟨m3, h1, List.mem_cons_of_mem _ h2⟩
                    · obtain rfl : p = lv2.length := by simp at hp; omega
                      rw [List.getElem_append_right (Nat.le_refl _)]
                      simp only [Nat.sub_self, List.getElem_cons_zero]
                      refine ⟨N k + 33, by omega, ?_⟩
                      rw [hlv2, Nat.add_mod_left, Nat.mod_eq_of_lt hlt]
                      exact List.mem_cons_self ..
                  case measure => simp [Go.RowKit.intOf]; omega
            · obtain ⟨la, ln, lc, rfl, HLN⟩ := hA.out.valN
              have HRL : Hid ((Ty.slice Ty.raw).rep wr (fun _ => False) [.slice la ln lc] lv2) := Lib.hid (hA.out.rep' (fun _ _ h => h))
              have HROW : Hid (∀ p (hp : p < lv2.length), ∃ m, m ≤ 17179869184 ∧ BR 5 wr lv2[p] (stampL (p % vs.length) m)) := Lib.hid (fun p hp => by
                obtain ⟨m, h1, h2⟩ := hLv.out p hp
                exact ⟨m, h1, hP.out.pool.1 _ h2⟩)
              have hln : ln ≤ vs.length + vs.length := by have := HLN.out; omega
              have HTT := Lib.hid hP.out.turn
              have hkk : k = vs.length := by omega
              clear hP hLv hA HL HD HNN hmk hlv2 hlt
              subst hkk
              generalize vs.length = nv at *
              obtain ⟨w4, hw4⟩ : ∃ x, x = wr := ⟨_, rfl⟩
              subst hw4
              go_wp2
              go_loopw [12] (fun i w' => ∃ j : Nat, i = .int .i64 j ∧ j ≤ ln ∧ Step w4 w') (fun i _ => ln - (Go.RowKit.intOf i).toNat)
              case atStart => exact ⟨0, rfl, by omega, Step.refl _⟩
              case round =>
                obtain ⟨j, rfl, hj, hS⟩ := hrel
                by_cases hjl : j < ln
                · have hjv : j < lv2.length := by have := HLN.out; omega
                  obtain ⟨m2, hm2, hbr⟩ := HROW.out j hjv
                  obtain ⟨ra, rc, hrv⟩ := hbr.valN stampL_len
                  obtain ⟨b, off, hab, hbb, _, hcu⟩ := raw_at HRL.out hjv
                  rw [hrv] at hcu hbr
                  have HBR := Lib.hid hbr
                  have hc4 := (hS.cell hbb (off + j)).trans hcu
                  clear hbr hrv
                  subst hab
                  have hz : ((nv : Int) == 0) = false := beq_eq_false_iff_ne.2 (by omega)
                  have hz1 : ¬ (nv : Int) = 0 := by omega
                  have hz2 : ¬ nv = 0 := by omega
                  have hmod : Int.tmod (j : Int) (nv : Int) = ((j % nv : Nat) : Int) := rfl
                  obtain ⟨w5, hw5⟩ : ∃ x, x = wr := ⟨_, rfl⟩
                  subst hw5
                  go_wp2
                  go_loopw [13] (fun i w' => ∃ m : Nat, i = .int .i64 m ∧ m ≤ m2 ∧ Step w4 w') (fun i _ => m2 - (Go.RowKit.intOf i).toNat)
                  case atStart => exact ⟨0, rfl, by omega, hS⟩
                  case round =>
                    obtain ⟨m, rfl, hm, hS5⟩ := hrel
                    have hc5 := (hS5.cell hbb (off + j)).trans hcu
                    by_cases hml : m < m2
                    · obtain ⟨g, rfl, hg, hc, hf⟩ := HBR.out.at (k := m) (by rw [stampL_len]; exact hml)
                      rw [stampL_at] at hc
                      have hc6 := (hS5.cell hg m).trans hc
                      clear hc hf
                      go_wp2
                      go_quiet (exact Calls.quiet_of_same (stamp_z (i := j % nv) (k := m) (by first | rfl | exact hmod) rfl (Nat.le_trans (Nat.mod_le _ _) (by omega)) (by omega)))
                      go_wp2
                      go_roundw
                      case rel => exact ⟨m + 1, by go_num, by omega, by (repeat (first | exact Step.refl _ | refine Step.alloc ?_ _ | refine Step.drew ?_ | refine Step.drewN ?_ _ | refine Step.setCell ?_ (by first | exact Nat.le_refl _ | assumption | omega | (simp; done) | (simp; omega)) _ | assumption | refine Step.trans ?_ (by assumption : Step _ _)))⟩
                      case measure => simp [Go.RowKit.intOf]; omega
                    · go_wp2
                      go_roundw
                      case rel => exact ⟨j + 1, by go_num, by omega, by (repeat (first | exact Step.refl _ | refine Step.alloc ?_ _ | refine Step.drew ?_ | refine Step.drewN ?_ _ | refine Step.setCell ?_ (by first | exact Nat.le_refl _ | assumption | omega | (simp; done) | (simp; omega)) _ | assumption | refine Step.trans ?_ (by assumption : Step _ _)))⟩
                      case measure => simp [Go.RowKit.intOf]; omega
                · go_wp2
                  go_ret
                  exact ⟨rfl, HTT.out.then hS⟩
end Go.Proofs.YthebdlkmoailaaaGreatDoor
