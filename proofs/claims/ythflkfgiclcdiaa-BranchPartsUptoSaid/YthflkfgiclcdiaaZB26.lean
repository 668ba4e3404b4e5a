/-
  Walk: an outcome of its own, its writes sorted (own).
-/
import Derived.Test.YthflkfgiclcdiaaZB10
import Derived.Test.YthflkfgiclcdiaaZW20
import Derived.Test.YthflkfgiclcdiaaZCut
set_option linter.unusedVariables false
set_option linter.unusedSimpArgs false
namespace Go.Proofs.Ythflkfgiclcdiaa
open Go.RowKit Go.Gr Go.Sort
set_option linter.unusedSimpArgs false
set_option linter.unusedVariables false
/-- Block g is a row of rows; none meets the block itself. -/
structure RowsAt (w : World) (X : Nat → Prop) (g : Nat) (vs : List Value) (Rs : List (List DPair)) : Prop where
  cells : CellsAt w g vs.toArray 59
  len : vs.length = Rs.length
  rep : ∀ i (hi : i < vs.length) (hr : i < Rs.length), (Ty.slice tPair).rep w (fun b => b = g ∨ X b) [vs[i]] Rs[i]
theorem RowsAt.keep {w w' : World} {X : Nat → Prop} {g : Nat} {vs : List Value} {Rs : List (List DPair)} (h : RowsAt w X g vs Rs) (hg : w'.heap[g]? = w.heap[g]?) (ho : ∀ b, b < w.heap.size → b ≠ g → ¬ X b → w'.heap[b]? = w.heap[b]?) : RowsAt w' X g vs Rs :=
  ⟨h.cells.kept hg, h.len, fun i hi hr => Ty.keep _ (h.rep i hi hr) (fun b hb hm => ⟨ho b hb (fun e => hm (.inl e)) (fun e => hm (.inr e)), hm⟩)⟩
theorem RowsAt.step {w w' : World} {X X' : Nat → Prop} {g : Nat} {vs : List Value} {Rs : List (List DPair)} (h : RowsAt w X g vs Rs) (hs : Step w w') (hX : ∀ b, b < w.heap.size → X' b → X b) : RowsAt w' X' g vs Rs :=
  ⟨h.cells.step hs, h.len, fun i hi hr => Ty.keep _ (h.rep i hi hr) (fun b hb hm => ⟨hs.heap hb, fun h => h.elim (fun h => hm (.inl h)) (fun h => hm (.inr (hX b hb h)))⟩)⟩
theorem RowsAt.put {w w' : World} {X : Nat → Prop} {g k : Nat} {vs : List Value} {Rs : List (List DPair)} {v2 : Value} (h : RowsAt w X g vs Rs) (hc : CellsAt w' g (vs.toArray.setIfInBounds k v2) 59) (ho : ∀ b, b < w.heap.size → b ≠ g → ¬ X b → w'.heap[b]? = w.heap[b]?)
    (hv : ∀ (hr : k < Rs.length), (Ty.slice tPair).rep w' (fun b => b = g ∨ X b) [v2] Rs[k]) : RowsAt w' X g (vs.set k v2) Rs := by
  refine ⟨by simpa using hc, by simpa using h.len, fun i hi hr => ?_⟩
  by_cases hik : i = k
  · subst hik
    rw [List.getElem_set_self]
    exact hv hr
  · rw [List.getElem_set_ne (Ne.symm hik)]
    exact Ty.keep _ (h.rep i (by simpa using hi) hr) (fun b hb hm => ⟨ho b hb (fun e => hm (.inl e)) (fun e => hm (.inr e)), hm⟩)
/-- It is a slice of rows. -/
theorem RowsAt.slice {w : World} {X : Nat → Prop} {g n c : Nat} {vs : List Value} {Rs : List (List DPair)} (h : RowsAt w X g vs Rs) (hn : n = Rs.length) (hc : n ≤ c) (hm : c ≤ maxLen) (hl : n ≤ lim) {Z : Nat → Prop} (hZ : ∀ b, Z b → b ≠ g ∧ X b) : (Ty.slice (Ty.slice tPair)).rep w Z [.slice (some ⟨g, 0, none⟩) n c] Rs := by
  subst hn
  refine ⟨some ⟨g, 0, none⟩, c, rfl, hc, hm, hl, fun _ => ⟨g, 0, rfl, h.cells.lt, fun h => (hZ g h).1 rfl, fun i hi => ?_⟩⟩
  have hv : i < vs.length := by rw [h.len]; exact hi
  refine ⟨[vs[i]], Ty.less _ (h.rep i hv hi) (fun b _ h => .inr (hZ b h).2), fun j u hu => ?_⟩
  have hj : j = 0 := by
    rcases j with _ | j
    · rfl
    · simp at hu
  subst hj
  have h1 := h.cells.cell i
  have e1 : (Ty.slice tPair).n = 1 := rfl
  rw [e1, Nat.mul_one, Nat.zero_add, Nat.add_zero, h1]
  simp only [List.getElem?_cons_zero, Option.some.injEq] at hu
  rw [← hu]
  simp [hv]
abbrev ownX (bx : Nat) (Y : Nat → Prop) : Nat → Prop := fun b => b = bx ∨ b = bx + 1 ∨ Y b
abbrev ownM (g bx : Nat) (Y : Nat → Prop) : Nat → Prop := fun b => b = g ∨ ownX bx Y b
set_option maxRecDepth 100000 in
set_option maxHeartbeats 8000000 in
theorem own_ {w : World} {g n c : Nat} {e a : Int} {vs : List Value} {Rs : List (List DPair)} {wv : Value} {ws : List DWrite} (Y : Nat → Prop) (hY : ∀ b, Y b → b < w.heap.size) (h : RowsAt w Y g vs Rs) (hn : n = Rs.length) (hnl : n ≤ 1048576) (hw : (Ty.slice tWrite).rep w (fun b => b = g ∨ Y b) [wv] ws) (hws : ws.Pairwise fun p q => p.key ≠ q.key) :
    Calls Try.prog 72 #[.agg #[.int .i64 e, .int .i64 a, .slice (some ⟨g, 0, none⟩) n c, wv]] w fun x w' => ∃ vs' wv' ys, x = .returned (.agg #[.int .i64 e, .int .i64 a, .slice (some ⟨g, 0, none⟩) n c, wv']) ∧ RowsAt w' Y g vs' Rs ∧ ys.Perm ws ∧ RisW ys ∧ (Ty.slice tWrite).rep w' Y [wv'] ys ∧ Turn (· = g) w w' := by
  obtain ⟨wa, wcp, rfl, _, _, hwl⟩ := Ty.slice_val hw
  have HR := Lib.hid h
  have HW := Lib.hid hw
  have HWS := Lib.hid hws
  have hg := h.cells.lt
  have HN := Lib.hid hn
  have HYL := Lib.hid hY
  clear h hw hws hn hY
  go_enter Try.func72, Try.ntmps72
  go_wp2
  refine wp_code (fun wl => CellsAt wl w.heap.size #[.int .i64 e, .int .i64 a, .slice (some ⟨g, 0, none⟩) n c, .slice wa ws.length wcp] 41 ∧ CellsAt wl (w.heap.size + 1) #[.int .i64 0, .int .i64 0, .slice none 0 0, .slice none 0 0] 41 ∧ Step w wl) ?_ ?_
  · exact ⟨CellsAt.step (CellsAt.new rfl) ((Step.refl _).alloc _), CellsAt.new (by simp), by (repeat (first | exact Step.refl _ | refine Step.alloc ?_ _ | refine Step.drew ?_ | refine Step.drewN ?_ _ | refine Step.setCell ?_ (by first | exact Nat.le_refl _ | assumption | omega | (simp; done) | (simp; omega)) _ | assumption | refine Step.trans ?_ (by assumption : Step _ _)))⟩
  rintro wl ⟨hbx, hzx, hS⟩
  obtain ⟨bx, hbxe⟩ : ∃ b, w.heap.size = b := ⟨_, rfl⟩
  rw [hbxe] at hbx hzx hg ⊢
  have hl1 := hzx.lt
  have HBX := Lib.hid hbx
  have HZX := Lib.hid hzx
  have HS := Lib.hid hS
  have HRl : Hid (RowsAt wl (ownX bx Y) g vs Rs) := Lib.hid (HR.out.step hS (fun b hb h => by rcases h with h | h | h; (omega); (omega); exact h))
  have hszl := hS.size
  have hne : ¬ g = bx := by omega
  have hne2 : ¬ bx = g := by omega
  have HOL : Hid (∀ b, ownM g bx Y b → b < bx + 2) := Lib.hid (fun b h => by rcases h with h | h | h | h; (omega); (omega); (omega); (have := HYL.out b h; omega))
  clear hbx hzx hS
  go_loopw [3, 4, 12] (fun _ _ i w' => ∃ (k : Nat) (vs' : List Value), i = .int .i64 k ∧ k ≤ n ∧ Hid (RowsAt w' (ownX bx Y) g vs' Rs) ∧ Hid (Turn (· = g) wl w')) (fun _ _ i _ => n - (Go.RowKit.intOf i).toNat)
  case atStart => exact ⟨0, vs, rfl, by omega, HRl, Lib.hid (Turn.refl _ _)⟩
  case round =>
    obtain ⟨k, vs', rfl, hk, hF, hT⟩ := hrel
    obtain ⟨wo, hwo⟩ : ∃ x, x = wr := ⟨_, rfl⟩
    subst hwo
    have hzo := hT.out.size
    have hgo := hF.out.cells.lt
    have hb2 := Lib.hid (HBX.out.kept (hT.out.block bx (by omega) (by omega)))
    have p2 : wo.cell? ⟨bx, 2, none⟩ = some (.slice (some ⟨g, 0, none⟩) n c) := hb2.out.cell 2
    by_cases hlt : k < n
    · have hkR : k < Rs.length := by rw [← HN.out]; exact hlt
      have hkv : k < vs'.length := by rw [hF.out.len]; exact hkR
      have hrw := hF.out.rep k hkv hkR
      have hqv : wo.cell? ⟨g, k, none⟩ = some vs'[k] := by rw [hF.out.cells.cell k]; simp [hkv]
      have hqf : wo.frozen? ⟨g, k, none⟩ = false := hF.out.cells.frozen k
      generalize vs'[k] = vk at *
      obtain ⟨va, vc, rfl, _, _, hrl⟩ := Ty.slice_val hrw
      have HV := Lib.hid hrw
      obtain ⟨R, hR⟩ : ∃ R, Rs[k] = R := ⟨_, rfl⟩
      rw [hR] at HV hqv hrl
      have HRk := Lib.hid hR
      have hd : decide ((k : Int) < (n : Int)) = true := decide_eq_true (by omega)
      rw [lim_eq] at hrl
      clear hrw hR
      go_wp2
      refine wp_region_held_drew (S := (fun w' => w'.cell? ⟨bx, 2, none⟩ = some (.slice (some ⟨g, 0, none⟩) n c))) (by kernel_rfl) ?_ (fun hHeld => ?_)
      · (go_keep)
      refine wpAnyH_take (i := 0) (v := ?_) rfl (by kernel_rfl) (by kernel_rfl) (by kernel_rfl) (fun _ _ _ h => h) (Or.inl ⟨by rfl, ?_⟩) (by assumption) ?_
      rotate_left 1
      · (intro w hSw; (try dsimp only at hSw); go_simp; (try with_reducible rfl))
      try simp only [Act.put, List.getElem_toArray, List.getElem_cons_succ, List.getElem_cons_zero, List.setIfInBounds_toArray, List.set_cons_zero, List.set_cons_succ]
      refine wpAnyH_take (i := 1) (v := ?_) rfl (by kernel_rfl) (by kernel_rfl) (by kernel_rfl) (fun _ _ _ h => h) (Or.inl ⟨by rfl, ?_⟩) (by assumption) ?_
      rotate_left 1
      · (intro w hSw; (try dsimp only at hSw); go_simp; (try with_reducible rfl))
      try simp only [Act.put, List.getElem_toArray, List.getElem_cons_succ, List.getElem_cons_zero, List.setIfInBounds_toArray, List.set_cons_zero, List.set_cons_succ]
      refine wpAnyH_take (i := 2) (v := ?_) rfl (by kernel_rfl) (by kernel_rfl) (by kernel_rfl) (fun _ _ _ h => h) (Or.inl ⟨by rfl, ?_⟩) (by assumption) ?_
      rotate_left 1
      · (intro w hSw; (try dsimp only at hSw); go_simp; (try with_reducible rfl))
      try simp only [Act.put, List.getElem_toArray, List.getElem_cons_succ, List.getElem_cons_zero, List.setIfInBounds_toArray, List.set_cons_zero, List.set_cons_succ]
      refine wpAnyH_take (i := 3) (v := ?_) rfl (by kernel_rfl) (by kernel_rfl) (by kernel_rfl) (fun _ _ _ h => h) (Or.inl ⟨by rfl, ?_⟩) (by assumption) ?_
      rotate_left 1
      · (intro w hSw; (try dsimp only at hSw); go_simp; (try with_reducible rfl))
      try simp only [Act.put, List.getElem_toArray, List.getElem_cons_succ, List.getElem_cons_zero, List.setIfInBounds_toArray, List.set_cons_zero, List.set_cons_succ]
      refine wpAnyH_ready (rs := [4]) (by kernel_rfl) (by simp) ?_
      refine AllReadyH.cons rfl (fun K hK => ?_) AllReadyH.nil
      try simp only [List.getElem_toArray, List.getElem_cons_succ, List.getElem_cons_zero]
      go_simp
      (go_at_call 100; refine (ClonePairs_ _ (ownM g bx Y) (ownM g bx Y) _ R (Ty.step _ HV.out (by (repeat (first | exact Step.refl _ | refine Step.alloc ?_ _ | refine Step.drew ?_ | refine Step.drewN ?_ _ | refine Step.setCell ?_ (by first | exact Nat.le_refl _ | assumption | omega | (simp; done) | (simp; omega)) _ | assumption | refine Step.trans ?_ (by assumption : Step _ _))))) (fun _ _ h => h)).mono ?_; rintro x w2 ⟨v2, rfl, hA2, hS2⟩; obtain ⟨b2, n2, m2, rfl, HN2⟩ := hA2.valN; have s2 : ∀ j, w2.cell? ⟨bx, j, none⟩ = _ := fun j => hS2.cell (by first | assumption | omega | (simp; done) | (simp; omega)) j; have q2 : w2.cell? ⟨g, k, none⟩ = _ := (hS2.cell (by first | assumption | omega | (simp; done) | (simp; omega)) k).trans hqv; have f2 : w2.frozen? ⟨g, k, none⟩ = _ := (hS2.frozen (by first | assumption | omega | (simp; done) | (simp; omega)) k).trans hqf; have HA2 := Lib.hid hA2; have HS2 := Lib.hid hS2; clear hA2 hS2)
      refine hK.out _ _ ?_ (fun hHeld => ?_)
      · (go_keep)
      clear hK K
      try simp only [Act.put, List.getElem_toArray, List.getElem_cons_succ, List.getElem_cons_zero, List.setIfInBounds_toArray, List.set_cons_zero, List.set_cons_succ]
      refine wpAnyH_take (i := 5) (v := ?_) rfl (by kernel_rfl) (by kernel_rfl) (by kernel_rfl) (fun _ _ _ h => h) (Or.inl ⟨by rfl, ?_⟩) (by assumption) ?_
      rotate_left 1
      · (intro w hSw; (try dsimp only at hSw); go_simp; (try with_reducible rfl))
      try simp only [Act.put, List.getElem_toArray, List.getElem_cons_succ, List.getElem_cons_zero, List.setIfInBounds_toArray, List.set_cons_zero, List.set_cons_succ]
      refine wpAnyH_ready (rs := [6]) (by kernel_rfl) (by simp) ?_
      refine AllReadyH.cons rfl (fun K hK => ?_) AllReadyH.nil
      try simp only [List.getElem_toArray, List.getElem_cons_succ, List.getElem_cons_zero]
      go_simp
      refine hK.out _ _ ?_ (fun hHeld => ?_)
      · (go_keep)
      clear hK K
      try simp only [Act.put, List.getElem_toArray, List.getElem_cons_succ, List.getElem_cons_zero, List.setIfInBounds_toArray, List.set_cons_zero, List.set_cons_succ]
      refine wpAnyH_done (by kernel_rfl) ?_ _
      have hz2 := HS2.out.size
      simp only [World.size_drew] at hz2
      refine wp_at (fun W' => CellsAt W' g (vs'.toArray.setIfInBounds k (.slice b2 n2 m2)) 59 ∧ OwnG tPair 95 W' (fun _ => ownM g bx Y) wo.heap.size (.slice b2 n2 m2) R ∧ Turn (· = g) wo W') ?_ ?_
      · have c1 : CellsAt (w2.setCell ⟨g, k, none⟩ (.slice b2 n2 m2)) g (vs'.toArray.setIfInBounds k (.slice b2 n2 m2)) 59 := CellsAt.set (CellsAt.step hF.out.cells ((by (repeat (first | exact Step.refl _ | refine Step.alloc ?_ _ | refine Step.drew ?_ | refine Step.drewN ?_ _ | refine Step.setCell ?_ (by first | exact Nat.le_refl _ | assumption | omega | (simp; done) | (simp; omega)) _ | assumption | refine Step.trans ?_ (by assumption : Step _ _))) : Step wo _).trans HS2.out)) k _
        have c2 : OwnG tPair 95 (w2.setCell ⟨g, k, none⟩ (.slice b2 n2 m2)) (fun _ => ownM g bx Y) wo.heap.size (.slice b2 n2 m2) R := OwnG.of (Own.set (M := ownM g bx Y) HA2.out (p := ⟨g, k, none⟩) (.inl rfl) (by show g < _; simp; omega) _)
        have c3 : Turn (· = g) wo (w2.setCell ⟨g, k, none⟩ (.slice b2 n2 m2)) := Turn.setCell (M := (· = g)) (Turn.of ((by (repeat (first | exact Step.refl _ | refine Step.alloc ?_ _ | refine Step.drew ?_ | refine Step.drewN ?_ _ | refine Step.setCell ?_ (by first | exact Nat.le_refl _ | assumption | omega | (simp; done) | (simp; omega)) _ | assumption | refine Step.trans ?_ (by assumption : Step _ _))) : Step wo _).trans HS2.out)) (p := ⟨g, k, none⟩) (fun _ => rfl) _
        first
        | exact ⟨c1, c2, c3⟩
        | exact ⟨CellsAt.step c1 ((Step.refl _).drew), OwnG.step c2 ((Step.refl _).drew), c3.drew⟩
      intro W5 hW5
      have HC5 := Lib.hid hW5.1
      have HG5 := Lib.hid hW5.2.1
      have HT5 := Lib.hid hW5.2.2
      have hz5 := hW5.2.2.size
      have hgb : Hid (∀ b, (Value.slice b2 n2 m2).ownBlock = some b → wo.heap.size ≤ b) := Lib.hid (fun b hb => by have h1 := (HA2.out.lt hb).1; simpa using h1)
      clear hW5 s2 q2 f2 HA2 HS2 hz2
      go_wp2
      go_loopw [5, 25] (fun _ i w' => ∃ m : Nat, i = .int .i64 m ∧ m ≤ R.length ∧ Hid (OwnG tPair 95 w' (fun _ => ownM g bx Y) wo.heap.size (.slice b2 n2 m2) R) ∧ Hid (Turn (fun b => (Value.slice b2 n2 m2).ownBlock = some b) W5 w')) (fun _ i _ => R.length - (Go.RowKit.intOf i).toNat)
      case atStart => exact ⟨0, rfl, by omega, HG5, Lib.hid (Turn.refl _ _)⟩
      case round =>
        obtain ⟨m, rfl, hm, hG, hTi⟩ := hrel
        have hzi := hTi.out.size
        by_cases hlm : m < R.length
        · have hVr : Hid ((Ty.slice tPair).rep wr (ownM g bx Y) [.slice va R.length vc] R) := Lib.hid (Ty.keep _ HV.out (fun b h1 h2 => ⟨(hTi.out.block b (by omega) (fun h => by have := hgb.out b h; omega)).trans (HT5.out.block b h1 (fun e => h2 (.inl e))), h2⟩))
          have hB : Step wr wr := Step.refl wr
          have hnb : n2 = R.length := HN2.out
          obtain ⟨g2, es, hbe, hgB, hgs, hE, hcE, hfz⟩ := OwnG.at hG.out hlm
          subst hbe
          clear hnb
          have hcE2 := Lib.hid hcE
          have hE2 := Lib.hid hE
          have hes := Lib.hid (tPair.len hE)
          obtain ⟨e0, e1, rfl, _, _⟩ := hE
          have oq0' := hcE 0 _ rfl
          have oq1' := hcE 1 _ rfl
          simp only [show tPair.n = 2 from rfl, Nat.add_zero] at oq0' oq1'
          have f0 : wr.frozen? ⟨g2, m * 2, none⟩ = false := hfz _
          have f1 : wr.frozen? ⟨g2, m * 2 + 1, none⟩ = false := hfz _
          obtain ⟨ob, oo, oes, rfl, ohb, _, ou, ocu⟩ := Ty.slice_at hVr.out hlm
          obtain ⟨oc0, oc1, rfl, oh0, oh1⟩ := ou
          have oq0 := (Step.cell (w' := wr) (by (repeat (first | exact Step.refl _ | refine Step.alloc ?_ _ | refine Step.drew ?_ | refine Step.drewN ?_ _ | refine Step.setCell ?_ (by first | exact Nat.le_refl _ | assumption | omega | (simp; done) | (simp; omega)) _ | assumption | refine Step.trans ?_ (by assumption : Step _ _)))) ohb _).trans (ocu 0 _ rfl)
          have oq1 := (Step.cell (w' := wr) (by (repeat (first | exact Step.refl _ | refine Step.alloc ?_ _ | refine Step.drew ?_ | refine Step.drewN ?_ _ | refine Step.setCell ?_ (by first | exact Nat.le_refl _ | assumption | omega | (simp; done) | (simp; omega)) _ | assumption | refine Step.trans ?_ (by assumption : Step _ _)))) ohb _).trans (ocu 1 _ rfl)
          simp only [show tPair.n = 2 from rfl, Nat.add_zero] at oq0 oq1
          obtain ⟨oa0, on0, rfl, _⟩ := Ty.slice_val oh0
          obtain ⟨oa1, on1, rfl, _⟩ := Ty.slice_val oh1
          have oH0 := Lib.hid oh0
          have oH1 := Lib.hid oh1
          clear ocu oh0 oh1
          have p2i : wr.cell? ⟨bx, 2, none⟩ = some (.slice (some ⟨g, 0, none⟩) n c) := by
            have h1 := hTi.out.cell (b := bx) (by omega) (fun h => by have := hgb.out bx h; omega) 2
            have h2 := HT5.out.cell (b := bx) (by omega) hne2 2
            rw [h1, h2, p2]
          have pgi : wr.cell? ⟨g, k, none⟩ = some (.slice (some ⟨g2, 0, none⟩) n2 m2) := by
            have h1 := hTi.out.cell (b := g) (by omega) (fun h => by have := hgb.out g h; omega) k
            rw [h1, HC5.out.cell k]
            simp [hkv]
          have hnew : ¬ g2 = wr.heap.size := by omega
          have hnew' : ¬ wr.heap.size = g2 := by omega
          have hx1 : ¬ g2 = bx := by omega
          have hx2 : ¬ bx = g2 := by omega
          have hx3 : ¬ g2 = g := by omega
          have hx4 : ¬ g = g2 := by omega
          have hlt2 : m < n2 := by have := HN2.out; omega
          have hd2 : decide ((m : Int) < (n2 : Int)) = true := decide_eq_true (by omega)
          clear hfz hcE
          go_wp2
          refine wp_region_held_drew (S := (fun w' => w'.cell? ⟨bx, 2, none⟩ = some (.slice (some ⟨g, 0, none⟩) n c) ∧ w'.cell? ⟨g, k, none⟩ = some (.slice (some ⟨g2, 0, none⟩) n2 m2) ∧ w'.cell? ⟨wr.heap.size, 0, none⟩ = some (.slice oa0 R[m].key.length on0) ∧ w'.cell? ⟨wr.heap.size, 1, none⟩ = some (.slice oa1 R[m].value.length on1))) (by kernel_rfl) ?_ (fun hHeld => ?_)
          · (go_keep)
          refine wpAnyH_take (i := 0) (v := ?_) rfl (by kernel_rfl) (by kernel_rfl) (by kernel_rfl) (fun _ _ _ h => h) (Or.inl ⟨by rfl, ?_⟩) (by assumption) ?_
          rotate_left 1
          · (intro w hSw; (try dsimp only at hSw); go_simp; (try with_reducible rfl))
          try simp only [Act.put, List.getElem_toArray, List.getElem_cons_succ, List.getElem_cons_zero, List.setIfInBounds_toArray, List.set_cons_zero, List.set_cons_succ]
          refine wpAnyH_take (i := 1) (v := ?_) rfl (by kernel_rfl) (by kernel_rfl) (by kernel_rfl) (fun _ _ _ h => h) (Or.inl ⟨by rfl, ?_⟩) (by assumption) ?_
          rotate_left 1
          · (intro w hSw; (try dsimp only at hSw); go_simp; (try with_reducible rfl))
          try simp only [Act.put, List.getElem_toArray, List.getElem_cons_succ, List.getElem_cons_zero, List.setIfInBounds_toArray, List.set_cons_zero, List.set_cons_succ]
          refine wpAnyH_take (i := 2) (v := ?_) rfl (by kernel_rfl) (by kernel_rfl) (by kernel_rfl) (fun _ _ _ h => h) (Or.inl ⟨by rfl, ?_⟩) (by assumption) ?_
          rotate_left 1
          · (intro w hSw; (try dsimp only at hSw); go_simp; (try with_reducible rfl))
          try simp only [Act.put, List.getElem_toArray, List.getElem_cons_succ, List.getElem_cons_zero, List.setIfInBounds_toArray, List.set_cons_zero, List.set_cons_succ]
          refine wpAnyH_take (i := 3) (v := ?_) rfl (by kernel_rfl) (by kernel_rfl) (by kernel_rfl) (fun _ _ _ h => h) (Or.inl ⟨by rfl, ?_⟩) (by assumption) ?_
          rotate_left 1
          · (intro w hSw; (try dsimp only at hSw); go_simp; (try with_reducible rfl))
          try simp only [Act.put, List.getElem_toArray, List.getElem_cons_succ, List.getElem_cons_zero, List.setIfInBounds_toArray, List.set_cons_zero, List.set_cons_succ]
          refine wpAnyH_take (i := 4) (v := ?_) rfl (by kernel_rfl) (by kernel_rfl) (by kernel_rfl) (fun _ _ _ h => h) (Or.inl ⟨by rfl, ?_⟩) (by assumption) ?_
          rotate_left 1
          · (intro w hSw; (try dsimp only at hSw); go_simp; (try with_reducible rfl))
          try simp only [Act.put, List.getElem_toArray, List.getElem_cons_succ, List.getElem_cons_zero, List.setIfInBounds_toArray, List.set_cons_zero, List.set_cons_succ]
          refine wpAnyH_take (i := 5) (v := ?_) rfl (by kernel_rfl) (by kernel_rfl) (by kernel_rfl) (fun _ _ _ h => h) (Or.inl ⟨by rfl, ?_⟩) (by assumption) ?_
          rotate_left 1
          · (intro w hSw; (try dsimp only at hSw); go_simp; (try with_reducible rfl))
          try simp only [Act.put, List.getElem_toArray, List.getElem_cons_succ, List.getElem_cons_zero, List.setIfInBounds_toArray, List.set_cons_zero, List.set_cons_succ]
          refine wpAnyH_take (i := 6) (v := ?_) rfl (by kernel_rfl) (by kernel_rfl) (by kernel_rfl) (fun _ _ _ h => h) (Or.inl ⟨by rfl, ?_⟩) (by assumption) ?_
          rotate_left 1
          · (intro w hSw; (try dsimp only at hSw); go_simp; (try with_reducible rfl))
          try simp only [Act.put, List.getElem_toArray, List.getElem_cons_succ, List.getElem_cons_zero, List.setIfInBounds_toArray, List.set_cons_zero, List.set_cons_succ]
          refine wpAnyH_take (i := 7) (v := ?_) rfl (by kernel_rfl) (by kernel_rfl) (by kernel_rfl) (fun _ _ _ h => h) (Or.inl ⟨by rfl, ?_⟩) (by assumption) ?_
          rotate_left 1
          · (intro w hSw; (try dsimp only at hSw); go_simp; (try with_reducible rfl))
          try simp only [Act.put, List.getElem_toArray, List.getElem_cons_succ, List.getElem_cons_zero, List.setIfInBounds_toArray, List.set_cons_zero, List.set_cons_succ]
          refine wpAnyH_take (i := 9) (v := ?_) rfl (by kernel_rfl) (by kernel_rfl) (by kernel_rfl) (fun _ _ _ h => h) (Or.inl ⟨by rfl, ?_⟩) (by assumption) ?_
          rotate_left 1
          · (intro w hSw; (try dsimp only at hSw); go_simp; (try with_reducible rfl))
          try simp only [Act.put, List.getElem_toArray, List.getElem_cons_succ, List.getElem_cons_zero, List.setIfInBounds_toArray, List.set_cons_zero, List.set_cons_succ]
          refine wpAnyH_take (i := 10) (v := ?_) rfl (by kernel_rfl) (by kernel_rfl) (by kernel_rfl) (fun _ _ _ h => h) (Or.inl ⟨by rfl, ?_⟩) (by assumption) ?_
          rotate_left 1
          · (intro w hSw; (try dsimp only at hSw); go_simp; (try with_reducible rfl))
          try simp only [Act.put, List.getElem_toArray, List.getElem_cons_succ, List.getElem_cons_zero, List.setIfInBounds_toArray, List.set_cons_zero, List.set_cons_succ]
          refine wpAnyH_ready (rs := [8]) (by kernel_rfl) (by simp) ?_
          refine AllReadyH.cons rfl (fun K hK => ?_) AllReadyH.nil
          try simp only [List.getElem_toArray, List.getElem_cons_succ, List.getElem_cons_zero]
          go_simp
          (go_at_call 59; refine (Clone_ _ _ _ _ (by refine Ty.step _ (Hid.out (by assumption)) ?_; (repeat (first | exact Step.refl _ | refine Step.alloc ?_ _ | refine Step.drew ?_ | refine Step.drewN ?_ _ | refine Step.setCell ?_ (by first | exact Nat.le_refl _ | assumption | omega | (simp; done) | (simp; omega)) _ | assumption | refine Step.trans ?_ (by assumption : Step _ _))))).mono ?_; rintro e4 w4 ⟨v4, rfl, hA4, hS4⟩; obtain ⟨b4, m4, rfl⟩ := hA4.val; have s4_0 : ∀ j, w4.cell? ⟨wr.heap.size, j, none⟩ = _ := fun j => hS4.cell (by first | assumption | omega | (simp; done) | (simp; omega)) j; have z4_0 : wr.heap.size < w4.heap.size := Nat.lt_of_lt_of_le (by first | assumption | omega | (simp; done) | (simp; omega)) hS4.size; have f4_1 : ∀ j, w4.frozen? ⟨g2, j, none⟩ = _ := fun j => hS4.frozen (by first | assumption | omega | (simp; done) | (simp; omega)) j; have s4_1 : ∀ j, w4.cell? ⟨g2, j, none⟩ = _ := fun j => hS4.cell (by first | assumption | omega | (simp; done) | (simp; omega)) j; have z4_1 : g2 < w4.heap.size := Nat.lt_of_lt_of_le (by first | assumption | omega | (simp; done) | (simp; omega)) hS4.size; have s4_2 : ∀ j, w4.cell? ⟨bx, j, none⟩ = _ := fun j => hS4.cell (by first | assumption | omega | (simp; done) | (simp; omega)) j; have z4_2 : bx < w4.heap.size := Nat.lt_of_lt_of_le (by first | assumption | omega | (simp; done) | (simp; omega)) hS4.size; have s4_3 : ∀ j, w4.cell? ⟨g, j, none⟩ = _ := fun j => hS4.cell (by first | assumption | omega | (simp; done) | (simp; omega)) j; have z4_3 : g < w4.heap.size := Nat.lt_of_lt_of_le (by first | assumption | omega | (simp; done) | (simp; omega)) hS4.size; have HA4 := Lib.hid hA4; clear hA4)
          refine hK.out _ _ ?_ (fun hHeld => ?_)
          · (go_keep)
          clear hK K
          try simp only [Act.put, List.getElem_toArray, List.getElem_cons_succ, List.getElem_cons_zero, List.setIfInBounds_toArray, List.set_cons_zero, List.set_cons_succ]
          refine wpAnyH_ready (rs := [11]) (by kernel_rfl) (by simp) ?_
          refine AllReadyH.cons rfl (fun K hK => ?_) AllReadyH.nil
          try simp only [List.getElem_toArray, List.getElem_cons_succ, List.getElem_cons_zero]
          go_simp
          (go_at_call 59; refine (Clone_ _ _ _ _ (by refine Ty.step _ (Hid.out (by assumption)) ?_; (repeat (first | exact Step.refl _ | refine Step.alloc ?_ _ | refine Step.drew ?_ | refine Step.drewN ?_ _ | refine Step.setCell ?_ (by first | exact Nat.le_refl _ | assumption | omega | (simp; done) | (simp; omega)) _ | assumption | refine Step.trans ?_ (by assumption : Step _ _))))).mono ?_; rintro e5 w5 ⟨v5, rfl, hA5, hS5⟩; obtain ⟨b5, m5, rfl⟩ := hA5.val; have s5_0 : ∀ j, w5.cell? ⟨wr.heap.size, j, none⟩ = _ := fun j => hS5.cell (by first | assumption | omega | (simp; done) | (simp; omega)) j; have z5_0 : wr.heap.size < w5.heap.size := Nat.lt_of_lt_of_le (by first | assumption | omega | (simp; done) | (simp; omega)) hS5.size; have f5_1 : ∀ j, w5.frozen? ⟨g2, j, none⟩ = _ := fun j => hS5.frozen (by first | assumption | omega | (simp; done) | (simp; omega)) j; have s5_1 : ∀ j, w5.cell? ⟨g2, j, none⟩ = _ := fun j => hS5.cell (by first | assumption | omega | (simp; done) | (simp; omega)) j; have z5_1 : g2 < w5.heap.size := Nat.lt_of_lt_of_le (by first | assumption | omega | (simp; done) | (simp; omega)) hS5.size; have s5_2 : ∀ j, w5.cell? ⟨bx, j, none⟩ = _ := fun j => hS5.cell (by first | assumption | omega | (simp; done) | (simp; omega)) j; have z5_2 : bx < w5.heap.size := Nat.lt_of_lt_of_le (by first | assumption | omega | (simp; done) | (simp; omega)) hS5.size; have s5_3 : ∀ j, w5.cell? ⟨g, j, none⟩ = _ := fun j => hS5.cell (by first | assumption | omega | (simp; done) | (simp; omega)) j; have z5_3 : g < w5.heap.size := Nat.lt_of_lt_of_le (by first | assumption | omega | (simp; done) | (simp; omega)) hS5.size; have HA5 := Lib.hid hA5; clear hA5)
          refine hK.out _ _ ?_ (fun hHeld => ?_)
          · (go_keep)
          clear hK K
          try simp only [Act.put, List.getElem_toArray, List.getElem_cons_succ, List.getElem_cons_zero, List.setIfInBounds_toArray, List.set_cons_zero, List.set_cons_succ]
          refine wpAnyH_take (i := 12) (v := ?_) rfl (by kernel_rfl) (by kernel_rfl) (by kernel_rfl) (fun _ _ _ h => h) (Or.inl ⟨by rfl, ?_⟩) (by assumption) ?_
          rotate_left 1
          · (intro w hSw; (try dsimp only at hSw); go_simp; (try with_reducible rfl))
          try simp only [Act.put, List.getElem_toArray, List.getElem_cons_succ, List.getElem_cons_zero, List.setIfInBounds_toArray, List.set_cons_zero, List.set_cons_succ]
          refine wpAnyH_take (i := 13) (v := ?_) rfl (by kernel_rfl) (by kernel_rfl) (by kernel_rfl) (fun _ _ _ h => h) (Or.inl ⟨by rfl, ?_⟩) (by assumption) ?_
          rotate_left 1
          · (intro w hSw; (try dsimp only at hSw); go_simp; (try with_reducible rfl))
          try simp only [Act.put, List.getElem_toArray, List.getElem_cons_succ, List.getElem_cons_zero, List.setIfInBounds_toArray, List.set_cons_zero, List.set_cons_succ]
          refine wpAnyH_ready (rs := [14]) (by kernel_rfl) (by simp) ?_
          refine AllReadyH.cons rfl (fun K hK => ?_) AllReadyH.nil
          try simp only [List.getElem_toArray, List.getElem_cons_succ, List.getElem_cons_zero]
          go_simp
          refine hK.out _ _ ?_ (fun hHeld => ?_)
          · (go_keep)
          clear hK K
          try simp only [Act.put, List.getElem_toArray, List.getElem_cons_succ, List.getElem_cons_zero, List.setIfInBounds_toArray, List.set_cons_zero, List.set_cons_succ]
          refine wpAnyH_done (by kernel_rfl) ?_ _
          go_wp2
          go_roundw
          case rel =>
            refine ⟨m + 1, by go_num, by omega, Lib.hid (OwnG.less (OwnG.put2 (M' := ownM g bx Y) (j1 := 0) (j2 := 1) (es := [e0, e1]) (OwnG.step hG.out (by (repeat (first | exact Step.refl _ | refine Step.alloc ?_ _ | refine Step.drew ?_ | refine Step.drewN ?_ _ | refine Step.setCell ?_ (by first | exact Nat.le_refl _ | assumption | omega | (simp; done) | (simp; omega)) _ | assumption | refine Step.trans ?_ (by assumption : Step _ _))))) hlm (by decide) (by decide) rfl (fun j u hu => ((Step.cell (by (repeat (first | exact Step.refl _ | refine Step.alloc ?_ _ | refine Step.drew ?_ | refine Step.drewN ?_ _ | refine Step.setCell ?_ (by first | exact Nat.le_refl _ | assumption | omega | (simp; done) | (simp; omega)) _ | assumption | refine Step.trans ?_ (by assumption : Step _ _))) : Step wr _) hgs _).trans (hcE2.out j u hu))) ?_) (fun i hi b hb => ?_)), Lib.hid ?_⟩
            · exact ⟨_, _, rfl, Own.fresh (by refine Own.step (Hid.out (by assumption)) ?_; (repeat (first | exact Step.refl _ | refine Step.alloc ?_ _ | refine Step.drew ?_ | refine Step.drewN ?_ _ | refine Step.setCell ?_ (by first | exact Nat.le_refl _ | assumption | omega | (simp; done) | (simp; omega)) _ | assumption | refine Step.trans ?_ (by assumption : Step _ _)))) (fun b hb => by rcases hb with hb | hb; (exact Nat.lt_of_lt_of_le (HOL.out b hb) (by first | assumption | omega | (simp; done) | (simp; omega))); (subst hb; first | omega | exact (by first | assumption | omega | (simp; done) | (simp; omega)))), Own.fresh (by refine Own.step (Hid.out (by assumption)) ?_; (repeat (first | exact Step.refl _ | refine Step.alloc ?_ _ | refine Step.drew ?_ | refine Step.drewN ?_ _ | refine Step.setCell ?_ (by first | exact Nat.le_refl _ | assumption | omega | (simp; done) | (simp; omega)) _ | assumption | refine Step.trans ?_ (by assumption : Step _ _)))) (fun b hb => by rcases hb with hb | hb; (exact Nat.lt_of_lt_of_le (HOL.out b hb) (by first | assumption | omega | (simp; done) | (simp; omega))); (subst hb; first | omega | exact (by first | assumption | omega | (simp; done) | (simp; omega))))⟩
            · split <;> exact hb
            · refine Turn.setCell (p := ⟨g2, m * 2 + 1, none⟩) (M := fun b => (Value.slice (some ⟨g2, 0, none⟩) n2 m2).ownBlock = some b) (Turn.setCell (p := ⟨g2, m * 2, none⟩) (M := fun b => (Value.slice (some ⟨g2, 0, none⟩) n2 m2).ownBlock = some b) ?_ (fun _ => rfl) _) (fun _ => rfl) _
              exact hTi.out.then (by (repeat (first | exact Step.refl _ | refine Step.alloc ?_ _ | refine Step.drew ?_ | refine Step.drewN ?_ _ | refine Step.setCell ?_ (by first | exact Nat.le_refl _ | assumption | omega | (simp; done) | (simp; omega)) _ | assumption | refine Step.trans ?_ (by assumption : Step _ _))))
          case measure => simp [Go.RowKit.intOf]; omega
        · obtain rfl : m = R.length := by omega
          have hrep : (Ty.slice tPair).rep wr (ownM g bx Y) [.slice b2 n2 m2] R := Own.rep' (OwnG.own (M' := ownM g bx Y) hG.out (fun i hi b hb => hb)) (fun b hb h => by have := hgb.out b hb; have := HOL.out b h; omega)
          have hRA : Hid (RowsAt wr (ownX bx Y) g (vs'.set k (.slice b2 n2 m2)) Rs) := Lib.hid (RowsAt.put hF.out (HC5.out.kept (hTi.out.block g (by omega) (fun h => by have := hgb.out g h; omega))) (fun b h1 h2 _ => (hTi.out.block b (by omega) (fun h => by have := hgb.out b h; omega)).trans (HT5.out.block b h1 h2)) (fun hr => by rw [HRk.out]; exact hrep))
          have hTT : Hid (Turn (· = g) wl wr) := Lib.hid ⟨hTi.out.os.trans (HT5.out.os.trans hT.out.os), hTi.out.tape.trans (HT5.out.tape.trans hT.out.tape), hTi.out.output.trans (HT5.out.output.trans hT.out.output), by omega, fun b hb hm => (hTi.out.block b (by omega) (fun h => by have := hgb.out b h; omega)).trans ((HT5.out.block b (by omega) hm).trans (hT.out.block b hb hm))⟩
          clear hrep
          go_wp2
          go_roundw
          case rel => exact ⟨k + 1, _, by go_num, by omega, hRA, hTT⟩
          case measure => simp [Go.RowKit.intOf]; omega
    · obtain rfl : k = n := by omega
      have hd : decide ((k : Int) < (k : Int)) = false := decide_eq_false (by omega)
      have HWr := Lib.hid (Ty.keep _ HW.out (fun b h1 h2 => ⟨(hT.out.block b (by omega) (fun e => h2 (.inl e))).trans (HS.out.heap h1), fun h => by rcases h with h | h | h | h; (exact h2 (.inl h)); (omega); (omega); exact h2 (.inr h)⟩) : (Ty.slice tWrite).rep wo (ownM g bx Y) [.slice wa ws.length wcp] ws)
      have HZo := Lib.hid (HZX.out.kept (hT.out.block (bx + 1) (by omega) (by omega)))
      have p3 : wo.cell? ⟨bx, 3, none⟩ = some (.slice wa ws.length wcp) := hb2.out.cell 3
      have g3 : wo.frozen? ⟨bx, 3, none⟩ = false := hb2.out.frozen 3
      go_upto_region 12 with (first
        | (go_at_call 101; refine (CloneWrites_ _ (ownM g bx Y) (ownM g bx Y) _ ws (Ty.step _ HWr.out (by (repeat (first | exact Step.refl _ | refine Step.alloc ?_ _ | refine Step.drew ?_ | refine Step.drewN ?_ _ | refine Step.setCell ?_ (by first | exact Nat.le_refl _ | assumption | omega | (simp; done) | (simp; omega)) _ | assumption | refine Step.trans ?_ (by assumption : Step _ _))))) (fun _ _ h => h)).mono ?_; rintro x w2 ⟨v2, rfl, hA2, hS2⟩; obtain ⟨b2, n2, m2, rfl, HN2⟩ := hA2.valN; have hz2 := hS2.size; have HA2 := Lib.hid hA2; have HS2 := Lib.hid hS2; clear hA2 hS2)
        | (go_at_call 61; refine (sorted_own HA2.out HWS.out).mono ?_; rintro x w3 ⟨rfl, ys, hA3, hp3, hr3, hT3⟩; have c33 : w3.cell? ⟨bx, 3, none⟩ = _ := (hT3.cell (by first | assumption | omega | (simp; done) | (simp; omega)) (fun e => absurd (HA2.out.lt e).1 (by first | assumption | omega | (simp; done) | (simp; omega))) 3).trans ((HS2.out.cell (by first | assumption | omega | (simp; done) | (simp; omega)) 3).trans p3); have d33 : w3.frozen? ⟨bx, 3, none⟩ = false := ((CellsAt.step hb2.out HS2.out).kept (hT3.block bx (by first | assumption | omega | (simp; done) | (simp; omega)) (fun e => absurd (HA2.out.lt e).1 (by first | assumption | omega | (simp; done) | (simp; omega))))).frozen 3; have HA3 := Lib.hid hA3; have HP3 := Lib.hid hp3; have HR3 := Lib.hid hr3; have HT3 := Lib.hid hT3; clear hA3 hp3 hr3 hT3))
      have hz3 := HT3.out.size
      have hgl : Hid (∀ b, (Value.slice b2 n2 m2).ownBlock = some b → wo.heap.size ≤ b) := Lib.hid (fun b hb => by have h1 := (HA2.out.lt hb).1; simpa using h1)
      have hT23 : Hid (Turn (· = g) wl w3) := Lib.hid ⟨HT3.out.os.trans ((Turn.of HS2.out (M := (· = g))).os.trans hT.out.os), HT3.out.tape.trans ((Turn.of HS2.out (M := (· = g))).tape.trans hT.out.tape), HT3.out.output.trans ((Turn.of HS2.out (M := (· = g))).output.trans hT.out.output), by omega, fun b hb hm => (HT3.out.block b (by omega) (fun h => by have := hgl.out b h; omega)).trans ((HS2.out.heap (by omega)).trans (hT.out.block b hb hm))⟩
      have hb3 := Lib.hid ((CellsAt.step hb2.out HS2.out).kept (HT3.out.block bx (by omega) (fun h => by have := hgl.out bx h; omega)))
      have hZ3 := Lib.hid ((CellsAt.step HZo.out HS2.out).kept (HT3.out.block (bx + 1) (by omega) (fun h => by have := hgl.out _ h; omega)))
      have hyl : n2 = ys.length := HN2.out.trans (HP3.out.length_eq).symm
      have HYN := Lib.hid hyl
      have hyb : ys.length ≤ 68719476736 := by rw [HP3.out.length_eq]; rw [lim_eq] at hwl; exact hwl
      refine wp_code (fun W' => CellsAt W' bx #[.int .i64 e, .int .i64 a, .slice (some ⟨g, 0, none⟩) k c, .slice b2 n2 m2] 41 ∧ CellsAt W' (bx + 1) #[.int .i64 0, .int .i64 0, .slice none 0 0, .slice none 0 0] 41 ∧ OwnG tWrite 74 W' (fun _ => ownM g bx Y) wo.heap.size (.slice b2 n2 m2) ys ∧ (∀ b, b < wo.heap.size → b ≠ bx → W'.heap[b]? = wo.heap[b]?) ∧ Turn (· = g) w W' ∧ wo.heap.size ≤ W'.heap.size) ?_ ?_
      · refine ⟨CellsAt.set hb3.out 3 _, CellsAt.other hZ3.out (p := ⟨bx, 3, none⟩) (by show bx + 1 ≠ bx; omega) _, ?_, (fun b h1 h2 => (heap_setCell_other _ _ _ _ h2).trans ((HT3.out.block b (by omega) (fun h => by have := hgl.out b h; omega)).trans (HS2.out.heap (by omega)))), ?_, by simp; omega⟩
        · exact OwnG.of (Own.set (M := ownM g bx Y) (Own.base HA3.out (by simp)) (p := ⟨bx, 3, none⟩) (.inr (.inl rfl)) (by show bx < wo.heap.size; omega) _)
        · exact Turn.setCell (M := (· = g)) ((Turn.of HS.out).trans hT23.out) (p := ⟨bx, 3, none⟩) (fun h => absurd (show bx < w.heap.size from h) (by omega)) _
      clear c33 d33 p3 g3 HA2 HS2 HT3 HA3 hT23 hb3 hZ3 hyl hz2 hz3
      rintro W5 ⟨hC5, hZ5, hG5, hF5, hT5, hz5⟩
      have HC5 := Lib.hid hC5
      have HZ5 := Lib.hid hZ5
      have HG5 := Lib.hid hG5
      have HB5 := Lib.hid hF5
      have HT5 := Lib.hid hT5
      have q3 : W5.cell? ⟨bx, 3, none⟩ = some (.slice b2 n2 m2) := hC5.cell 3
      have hbl5 := hZ5.lt
      have hgl5 : g < W5.heap.size := by omega
      clear hC5 hZ5 hG5 hF5 hT5
      go_wp2
      go_loopw [7, 8, 54] (fun _ _ i w' => ∃ m : Nat, i = .int .i64 m ∧ m ≤ ys.length ∧ Hid (OwnG tWrite 74 w' (fun _ => ownM g bx Y) wo.heap.size (.slice b2 n2 m2) ys) ∧ Hid (Turn (fun b => (Value.slice b2 n2 m2).ownBlock = some b) W5 w')) (fun _ _ i _ => ys.length - (Go.RowKit.intOf i).toNat)
      case atStart => exact ⟨0, rfl, by omega, HG5, Lib.hid (Turn.refl _ _)⟩
      case round =>
        obtain ⟨m, rfl, hm, hG, hTi⟩ := hrel
        have hzi := hTi.out.size
        by_cases hlm : m < ys.length
        · have hB : Step wr wr := Step.refl wr
          obtain ⟨g2, es, hbe, hgB, hgs, hE, hcE, hfz⟩ := OwnG.at hG.out hlm
          subst hbe
          have hcE2 := Lib.hid hcE
          obtain ⟨e0, e1, rfl, oh0, oh1⟩ := hE
          have oq0 := hcE 0 _ rfl
          have oq1 := hcE 1 _ rfl
          have oq2 := hcE 2 _ rfl
          simp only [show tWrite.n = 3 from rfl, Nat.add_zero] at oq0 oq1 oq2
          obtain ⟨oa0, on0, rfl, _⟩ := Ty.slice_val oh0
          obtain ⟨oa1, on1, rfl, _⟩ := Ty.slice_val oh1
          have oH0 := Lib.hid oh0
          have oH1 := Lib.hid oh1
          have f0 : wr.frozen? ⟨g2, m * 3, none⟩ = false := hfz _
          have f1 : wr.frozen? ⟨g2, m * 3 + 1, none⟩ = false := hfz _
          have p3i : wr.cell? ⟨bx, 3, none⟩ = some (.slice (some ⟨g2, 0, none⟩) n2 m2) := (hTi.out.cell (b := bx) (by omega) (fun h => by have := hgl.out bx h; omega) 3).trans q3
          have hx1 : ¬ g2 = bx := by omega
          have hx2 : ¬ bx = g2 := by omega
          have hnew : ¬ g2 = wr.heap.size := by omega
          have hnew' : ¬ wr.heap.size = g2 := by omega
          have hlt2 : m < n2 := by have := HYN.out; omega
          have hd2 : decide ((m : Int) < (n2 : Int)) = true := decide_eq_true (by omega)
          clear hfz hcE oh0 oh1
          go_wp2
          refine wp_region_held_drew (S := (fun w' => w'.cell? ⟨bx, 3, none⟩ = some (.slice (some ⟨g2, 0, none⟩) n2 m2) ∧ w'.cell? ⟨wr.heap.size, 0, none⟩ = some (.slice oa0 ys[m].key.length on0) ∧ w'.cell? ⟨wr.heap.size, 1, none⟩ = some (.slice oa1 ys[m].value.length on1))) (by kernel_rfl) ?_ (fun hHeld => ?_)
          · (go_keep)
          refine wpAnyH_take (i := 0) (v := ?_) rfl (by kernel_rfl) (by kernel_rfl) (by kernel_rfl) (fun _ _ _ h => h) (Or.inl ⟨by rfl, ?_⟩) (by assumption) ?_
          rotate_left 1
          · (intro w hSw; (try dsimp only at hSw); go_simp; (try with_reducible rfl))
          try simp only [Act.put, List.getElem_toArray, List.getElem_cons_succ, List.getElem_cons_zero, List.setIfInBounds_toArray, List.set_cons_zero, List.set_cons_succ]
          refine wpAnyH_take (i := 1) (v := ?_) rfl (by kernel_rfl) (by kernel_rfl) (by kernel_rfl) (fun _ _ _ h => h) (Or.inl ⟨by rfl, ?_⟩) (by assumption) ?_
          rotate_left 1
          · (intro w hSw; (try dsimp only at hSw); go_simp; (try with_reducible rfl))
          try simp only [Act.put, List.getElem_toArray, List.getElem_cons_succ, List.getElem_cons_zero, List.setIfInBounds_toArray, List.set_cons_zero, List.set_cons_succ]
          refine wpAnyH_take (i := 2) (v := ?_) rfl (by kernel_rfl) (by kernel_rfl) (by kernel_rfl) (fun _ _ _ h => h) (Or.inl ⟨by rfl, ?_⟩) (by assumption) ?_
          rotate_left 1
          · (intro w hSw; (try dsimp only at hSw); go_simp; (try with_reducible rfl))
          try simp only [Act.put, List.getElem_toArray, List.getElem_cons_succ, List.getElem_cons_zero, List.setIfInBounds_toArray, List.set_cons_zero, List.set_cons_succ]
          refine wpAnyH_take (i := 3) (v := ?_) rfl (by kernel_rfl) (by kernel_rfl) (by kernel_rfl) (fun _ _ _ h => h) (Or.inl ⟨by rfl, ?_⟩) (by assumption) ?_
          rotate_left 1
          · (intro w hSw; (try dsimp only at hSw); go_simp; (try with_reducible rfl))
          try simp only [Act.put, List.getElem_toArray, List.getElem_cons_succ, List.getElem_cons_zero, List.setIfInBounds_toArray, List.set_cons_zero, List.set_cons_succ]
          refine wpAnyH_take (i := 4) (v := ?_) rfl (by kernel_rfl) (by kernel_rfl) (by kernel_rfl) (fun _ _ _ h => h) (Or.inl ⟨by rfl, ?_⟩) (by assumption) ?_
          rotate_left 1
          · (intro w hSw; (try dsimp only at hSw); go_simp; (try with_reducible rfl))
          try simp only [Act.put, List.getElem_toArray, List.getElem_cons_succ, List.getElem_cons_zero, List.setIfInBounds_toArray, List.set_cons_zero, List.set_cons_succ]
          refine wpAnyH_take (i := 5) (v := ?_) rfl (by kernel_rfl) (by kernel_rfl) (by kernel_rfl) (fun _ _ _ h => h) (Or.inl ⟨by rfl, ?_⟩) (by assumption) ?_
          rotate_left 1
          · (intro w hSw; (try dsimp only at hSw); go_simp; (try with_reducible rfl))
          try simp only [Act.put, List.getElem_toArray, List.getElem_cons_succ, List.getElem_cons_zero, List.setIfInBounds_toArray, List.set_cons_zero, List.set_cons_succ]
          refine wpAnyH_take (i := 6) (v := ?_) rfl (by kernel_rfl) (by kernel_rfl) (by kernel_rfl) (fun _ _ _ h => h) (Or.inl ⟨by rfl, ?_⟩) (by assumption) ?_
          rotate_left 1
          · (intro w hSw; (try dsimp only at hSw); go_simp; (try with_reducible rfl))
          try simp only [Act.put, List.getElem_toArray, List.getElem_cons_succ, List.getElem_cons_zero, List.setIfInBounds_toArray, List.set_cons_zero, List.set_cons_succ]
          refine wpAnyH_take (i := 7) (v := ?_) rfl (by kernel_rfl) (by kernel_rfl) (by kernel_rfl) (fun _ _ _ h => h) (Or.inl ⟨by rfl, ?_⟩) (by assumption) ?_
          rotate_left 1
          · (intro w hSw; (try dsimp only at hSw); go_simp; (try with_reducible rfl))
          try simp only [Act.put, List.getElem_toArray, List.getElem_cons_succ, List.getElem_cons_zero, List.setIfInBounds_toArray, List.set_cons_zero, List.set_cons_succ]
          refine wpAnyH_take (i := 9) (v := ?_) rfl (by kernel_rfl) (by kernel_rfl) (by kernel_rfl) (fun _ _ _ h => h) (Or.inl ⟨by rfl, ?_⟩) (by assumption) ?_
          rotate_left 1
          · (intro w hSw; (try dsimp only at hSw); go_simp; (try with_reducible rfl))
          try simp only [Act.put, List.getElem_toArray, List.getElem_cons_succ, List.getElem_cons_zero, List.setIfInBounds_toArray, List.set_cons_zero, List.set_cons_succ]
          refine wpAnyH_take (i := 10) (v := ?_) rfl (by kernel_rfl) (by kernel_rfl) (by kernel_rfl) (fun _ _ _ h => h) (Or.inl ⟨by rfl, ?_⟩) (by assumption) ?_
          rotate_left 1
          · (intro w hSw; (try dsimp only at hSw); go_simp; (try with_reducible rfl))
          try simp only [Act.put, List.getElem_toArray, List.getElem_cons_succ, List.getElem_cons_zero, List.setIfInBounds_toArray, List.set_cons_zero, List.set_cons_succ]
          refine wpAnyH_ready (rs := [8]) (by kernel_rfl) (by simp) ?_
          refine AllReadyH.cons rfl (fun K hK => ?_) AllReadyH.nil
          try simp only [List.getElem_toArray, List.getElem_cons_succ, List.getElem_cons_zero]
          go_simp
          (go_at_call 59; refine (Clone_ _ _ _ _ (by refine Ty.step _ (Hid.out (by assumption)) ?_; (repeat (first | exact Step.refl _ | refine Step.alloc ?_ _ | refine Step.drew ?_ | refine Step.drewN ?_ _ | refine Step.setCell ?_ (by first | exact Nat.le_refl _ | assumption | omega | (simp; done) | (simp; omega)) _ | assumption | refine Step.trans ?_ (by assumption : Step _ _))))).mono ?_; rintro e4 w4 ⟨v4, rfl, hA4, hS4⟩; obtain ⟨b4, m4, rfl⟩ := hA4.val; have s4_0 : ∀ j, w4.cell? ⟨wr.heap.size, j, none⟩ = _ := fun j => hS4.cell (by first | assumption | omega | (simp; done) | (simp; omega)) j; have z4_0 : wr.heap.size < w4.heap.size := Nat.lt_of_lt_of_le (by first | assumption | omega | (simp; done) | (simp; omega)) hS4.size; have f4_1 : ∀ j, w4.frozen? ⟨g2, j, none⟩ = _ := fun j => hS4.frozen (by first | assumption | omega | (simp; done) | (simp; omega)) j; have s4_1 : ∀ j, w4.cell? ⟨g2, j, none⟩ = _ := fun j => hS4.cell (by first | assumption | omega | (simp; done) | (simp; omega)) j; have z4_1 : g2 < w4.heap.size := Nat.lt_of_lt_of_le (by first | assumption | omega | (simp; done) | (simp; omega)) hS4.size; have s4_2 : ∀ j, w4.cell? ⟨bx, j, none⟩ = _ := fun j => hS4.cell (by first | assumption | omega | (simp; done) | (simp; omega)) j; have z4_2 : bx < w4.heap.size := Nat.lt_of_lt_of_le (by first | assumption | omega | (simp; done) | (simp; omega)) hS4.size; have HA4 := Lib.hid hA4; clear hA4)
          refine hK.out _ _ ?_ (fun hHeld => ?_)
          · (go_keep)
          clear hK K
          try simp only [Act.put, List.getElem_toArray, List.getElem_cons_succ, List.getElem_cons_zero, List.setIfInBounds_toArray, List.set_cons_zero, List.set_cons_succ]
          refine wpAnyH_ready (rs := [11]) (by kernel_rfl) (by simp) ?_
          refine AllReadyH.cons rfl (fun K hK => ?_) AllReadyH.nil
          try simp only [List.getElem_toArray, List.getElem_cons_succ, List.getElem_cons_zero]
          go_simp
          (go_at_call 59; refine (Clone_ _ _ _ _ (by refine Ty.step _ (Hid.out (by assumption)) ?_; (repeat (first | exact Step.refl _ | refine Step.alloc ?_ _ | refine Step.drew ?_ | refine Step.drewN ?_ _ | refine Step.setCell ?_ (by first | exact Nat.le_refl _ | assumption | omega | (simp; done) | (simp; omega)) _ | assumption | refine Step.trans ?_ (by assumption : Step _ _))))).mono ?_; rintro e5 w5 ⟨v5, rfl, hA5, hS5⟩; obtain ⟨b5, m5, rfl⟩ := hA5.val; have s5_0 : ∀ j, w5.cell? ⟨wr.heap.size, j, none⟩ = _ := fun j => hS5.cell (by first | assumption | omega | (simp; done) | (simp; omega)) j; have z5_0 : wr.heap.size < w5.heap.size := Nat.lt_of_lt_of_le (by first | assumption | omega | (simp; done) | (simp; omega)) hS5.size; have f5_1 : ∀ j, w5.frozen? ⟨g2, j, none⟩ = _ := fun j => hS5.frozen (by first | assumption | omega | (simp; done) | (simp; omega)) j; have s5_1 : ∀ j, w5.cell? ⟨g2, j, none⟩ = _ := fun j => hS5.cell (by first | assumption | omega | (simp; done) | (simp; omega)) j; have z5_1 : g2 < w5.heap.size := Nat.lt_of_lt_of_le (by first | assumption | omega | (simp; done) | (simp; omega)) hS5.size; have s5_2 : ∀ j, w5.cell? ⟨bx, j, none⟩ = _ := fun j => hS5.cell (by first | assumption | omega | (simp; done) | (simp; omega)) j; have z5_2 : bx < w5.heap.size := Nat.lt_of_lt_of_le (by first | assumption | omega | (simp; done) | (simp; omega)) hS5.size; have HA5 := Lib.hid hA5; clear hA5)
          refine hK.out _ _ ?_ (fun hHeld => ?_)
          · (go_keep)
          clear hK K
          try simp only [Act.put, List.getElem_toArray, List.getElem_cons_succ, List.getElem_cons_zero, List.setIfInBounds_toArray, List.set_cons_zero, List.set_cons_succ]
          refine wpAnyH_take (i := 12) (v := ?_) rfl (by kernel_rfl) (by kernel_rfl) (by kernel_rfl) (fun _ _ _ h => h) (Or.inl ⟨by rfl, ?_⟩) (by assumption) ?_
          rotate_left 1
          · (intro w hSw; (try dsimp only at hSw); go_simp; (try with_reducible rfl))
          try simp only [Act.put, List.getElem_toArray, List.getElem_cons_succ, List.getElem_cons_zero, List.setIfInBounds_toArray, List.set_cons_zero, List.set_cons_succ]
          refine wpAnyH_take (i := 13) (v := ?_) rfl (by kernel_rfl) (by kernel_rfl) (by kernel_rfl) (fun _ _ _ h => h) (Or.inl ⟨by rfl, ?_⟩) (by assumption) ?_
          rotate_left 1
          · (intro w hSw; (try dsimp only at hSw); go_simp; (try with_reducible rfl))
          try simp only [Act.put, List.getElem_toArray, List.getElem_cons_succ, List.getElem_cons_zero, List.setIfInBounds_toArray, List.set_cons_zero, List.set_cons_succ]
          refine wpAnyH_ready (rs := [14]) (by kernel_rfl) (by simp) ?_
          refine AllReadyH.cons rfl (fun K hK => ?_) AllReadyH.nil
          try simp only [List.getElem_toArray, List.getElem_cons_succ, List.getElem_cons_zero]
          go_simp
          refine hK.out _ _ ?_ (fun hHeld => ?_)
          · (go_keep)
          clear hK K
          try simp only [Act.put, List.getElem_toArray, List.getElem_cons_succ, List.getElem_cons_zero, List.setIfInBounds_toArray, List.set_cons_zero, List.set_cons_succ]
          refine wpAnyH_take (i := 15) (v := ?_) rfl (by kernel_rfl) (by kernel_rfl) (by kernel_rfl) (fun _ _ _ h => h) (Or.inl ⟨by rfl, ?_⟩) (by assumption) ?_
          rotate_left 1
          · (intro w hSw; (try dsimp only at hSw); go_simp; (try with_reducible rfl))
          try simp only [Act.put, List.getElem_toArray, List.getElem_cons_succ, List.getElem_cons_zero, List.setIfInBounds_toArray, List.set_cons_zero, List.set_cons_succ]
          refine wpAnyH_take (i := 16) (v := ?_) rfl (by kernel_rfl) (by kernel_rfl) (by kernel_rfl) (fun _ _ _ h => h) (Or.inl ⟨by rfl, ?_⟩) (by assumption) ?_
          rotate_left 1
          · (intro w hSw; (try dsimp only at hSw); go_simp; (try with_reducible rfl))
          try simp only [Act.put, List.getElem_toArray, List.getElem_cons_succ, List.getElem_cons_zero, List.setIfInBounds_toArray, List.set_cons_zero, List.set_cons_succ]
          refine wpAnyH_ready (rs := [17]) (by kernel_rfl) (by simp) ?_
          refine AllReadyH.cons rfl (fun K hK => ?_) AllReadyH.nil
          try simp only [List.getElem_toArray, List.getElem_cons_succ, List.getElem_cons_zero]
          go_simp
          refine hK.out _ _ ?_ (fun hHeld => ?_)
          · (go_keep)
          clear hK K
          try simp only [Act.put, List.getElem_toArray, List.getElem_cons_succ, List.getElem_cons_zero, List.setIfInBounds_toArray, List.set_cons_zero, List.set_cons_succ]
          refine wpAnyH_done (by kernel_rfl) ?_ _
          go_wp2
          go_roundw
          case rel =>
            refine ⟨m + 1, by go_num, by omega, Lib.hid (OwnG.less (OwnG.put2 (M' := ownM g bx Y) (j1 := 0) (j2 := 1) (es := [.slice oa0 ys[m].key.length on0, .slice oa1 ys[m].value.length on1, .bool ys[m].gone]) (OwnG.step hG.out (by (repeat (first | exact Step.refl _ | refine Step.alloc ?_ _ | refine Step.drew ?_ | refine Step.drewN ?_ _ | refine Step.setCell ?_ (by first | exact Nat.le_refl _ | assumption | omega | (simp; done) | (simp; omega)) _ | assumption | refine Step.trans ?_ (by assumption : Step _ _))))) hlm (by decide) (by decide) rfl (fun j u hu => ((Step.cell (by (repeat (first | exact Step.refl _ | refine Step.alloc ?_ _ | refine Step.drew ?_ | refine Step.drewN ?_ _ | refine Step.setCell ?_ (by first | exact Nat.le_refl _ | assumption | omega | (simp; done) | (simp; omega)) _ | assumption | refine Step.trans ?_ (by assumption : Step _ _))) : Step wr _) hgs _).trans (hcE2.out j u hu))) ?_) (fun i hi b hb => ?_)), Lib.hid ?_⟩
            · exact ⟨_, _, rfl, Own.fresh (by refine Own.step (Hid.out (by assumption)) ?_; (repeat (first | exact Step.refl _ | refine Step.alloc ?_ _ | refine Step.drew ?_ | refine Step.drewN ?_ _ | refine Step.setCell ?_ (by first | exact Nat.le_refl _ | assumption | omega | (simp; done) | (simp; omega)) _ | assumption | refine Step.trans ?_ (by assumption : Step _ _)))) (fun b hb => by rcases hb with hb | hb; (exact Nat.lt_of_lt_of_le (HOL.out b hb) (by first | assumption | omega | (simp; done) | (simp; omega))); (subst hb; first | omega | exact (by first | assumption | omega | (simp; done) | (simp; omega)))), Own.fresh (by refine Own.step (Hid.out (by assumption)) ?_; (repeat (first | exact Step.refl _ | refine Step.alloc ?_ _ | refine Step.drew ?_ | refine Step.drewN ?_ _ | refine Step.setCell ?_ (by first | exact Nat.le_refl _ | assumption | omega | (simp; done) | (simp; omega)) _ | assumption | refine Step.trans ?_ (by assumption : Step _ _)))) (fun b hb => by rcases hb with hb | hb; (exact Nat.lt_of_lt_of_le (HOL.out b hb) (by first | assumption | omega | (simp; done) | (simp; omega))); (subst hb; first | omega | exact (by first | assumption | omega | (simp; done) | (simp; omega))))⟩
            · split <;> exact hb
            · refine Turn.setCell (p := ⟨g2, m * 3 + 1, none⟩) (M := fun b => (Value.slice (some ⟨g2, 0, none⟩) n2 m2).ownBlock = some b) (Turn.setCell (p := ⟨g2, m * 3, none⟩) (M := fun b => (Value.slice (some ⟨g2, 0, none⟩) n2 m2).ownBlock = some b) ?_ (fun _ => rfl) _) (fun _ => rfl) _
              exact hTi.out.then (by (repeat (first | exact Step.refl _ | refine Step.alloc ?_ _ | refine Step.drew ?_ | refine Step.drewN ?_ _ | refine Step.setCell ?_ (by first | exact Nat.le_refl _ | assumption | omega | (simp; done) | (simp; omega)) _ | assumption | refine Step.trans ?_ (by assumption : Step _ _))))
          case measure => simp [Go.RowKit.intOf]; omega
        · obtain rfl : m = ys.length := by omega
          have hblk : ∀ b, b < W5.heap.size → b < wo.heap.size → wr.heap[b]? = W5.heap[b]? := fun b h1 h2 => hTi.out.block b h1 (fun h => by have := hgl.out b h; omega)
          have hrep : (Ty.slice tWrite).rep wr (ownM g bx Y) [.slice b2 n2 m2] ys := Own.rep' (OwnG.own (M' := ownM g bx Y) hG.out (fun i hi b hb => hb)) (fun b hb h => by have := hgl.out b hb; have := HOL.out b h; omega)
          have hFr : RowsAt wr (ownX bx Y) g vs' Rs := hF.out.keep ((hblk g hgl5 (by omega)).trans (HB5.out g (by omega) hne)) (fun b h1 h2 h3 => (hblk b (by omega) h1).trans (HB5.out b h1 (fun e => h3 (.inl e))))
          have hCr := HC5.out.kept (hblk bx (by omega) (by omega))
          have hZr := HZ5.out.kept (hblk (bx + 1) (by omega) (by omega))
          have hT9 : Turn (· = g) w wr := ⟨hTi.out.os.trans HT5.out.os, hTi.out.tape.trans HT5.out.tape, hTi.out.output.trans HT5.out.output, by have := HT5.out.size; omega, fun b hb hm => (hblk b (by omega) (by omega)).trans (HT5.out.block b hb hm)⟩
          have HREP := Lib.hid hrep
          have HFR := Lib.hid hFr
          have HT9 := Lib.hid hT9
          have HCR := Lib.hid hCr
          have HZR := Lib.hid hZr
          have c0 : wr.cell? ⟨bx, 0, none⟩ = some (.int .i64 e) := hCr.cell 0
          have c1 : wr.cell? ⟨bx, 1, none⟩ = some (.int .i64 a) := hCr.cell 1
          have c2 : wr.cell? ⟨bx, 2, none⟩ = some (.slice (some ⟨g, 0, none⟩) k c) := hCr.cell 2
          have c3 : wr.cell? ⟨bx, 3, none⟩ = some (.slice b2 n2 m2) := hCr.cell 3
          have z0 : wr.cell? ⟨bx + 1, 0, none⟩ = some (.int .i64 0) := hZr.cell 0
          have z1 : wr.cell? ⟨bx + 1, 1, none⟩ = some (.int .i64 0) := hZr.cell 1
          have z2 : wr.cell? ⟨bx + 1, 2, none⟩ = some (.slice none 0 0) := hZr.cell 2
          have z3 : wr.cell? ⟨bx + 1, 3, none⟩ = some (.slice none 0 0) := hZr.cell 3
          have y0 : wr.frozen? ⟨bx + 1, 0, none⟩ = false := hZr.frozen 0
          have y1 : wr.frozen? ⟨bx + 1, 1, none⟩ = false := hZr.frozen 1
          have y2 : wr.frozen? ⟨bx + 1, 2, none⟩ = false := hZr.frozen 2
          have y3 : wr.frozen? ⟨bx + 1, 3, none⟩ = false := hZr.frozen 3
          have hnl2 : ¬ (ys.length < n2) := by have := HYN.out; omega
          have hd3 : decide (((ys.length : Nat) : Int) < (n2 : Int)) = false := decide_eq_false (by omega)
          clear hrep hFr hT9 hCr hZr hblk
          go_wp2
          refine bodyPost_ret (v := .agg #[.int .i64 e, .int .i64 a, .slice (some ⟨g, 0, none⟩) k c, .slice b2 n2 m2]) (results_cell_row rfl _ _ _ _ _ (0, 0) _ rfl (CellsAt.set (CellsAt.set (CellsAt.set (CellsAt.set HZR.out 0 _) 1 _) 2 _) 3 _) Try.underlying41 rfl (by kernel_rfl)) rfl ?_
          have hoth : ∀ b, b ≠ bx + 1 → ((((wr.setCell ⟨bx + 1, 0, none⟩ (.int .i64 e)).setCell ⟨bx + 1, 1, none⟩ (.int .i64 a)).setCell ⟨bx + 1, 2, none⟩ (.slice (some ⟨g, 0, none⟩) k c)).setCell ⟨bx + 1, 3, none⟩ (.slice b2 n2 m2)).heap[b]? = wr.heap[b]? := fun b hb => by
            rw [heap_setCell_other _ _ _ _ hb, heap_setCell_other _ _ _ _ hb, heap_setCell_other _ _ _ _ hb, heap_setCell_other _ _ _ _ hb]
          refine ⟨vs', _, ys, rfl, ?_, HP3.out, HR3.out, ?_, ?_⟩
          · exact RowsAt.step (X := ownX bx Y) (HFR.out.keep (hoth g (by omega)) (fun b _ _ h3 => hoth b (fun e => h3 (.inr (.inl e))))) (Step.refl _) (fun b _ h => .inr (.inr h))
          · exact Ty.keep _ HREP.out (fun b _ hm => ⟨hoth b (fun e => hm (.inr (.inr (.inl e)))), fun h => hm (.inr (.inr (.inr h)))⟩)
          · iterate 4 refine Turn.setCell ?_ (fun h => absurd (show bx + 1 < w.heap.size from h) (by omega)) _
            exact HT9.out
end Go.Proofs.Ythflkfgiclcdiaa
